/- Several texts in one. -/
import Derived.Test.YtialllbbbpmkbaaDoorMSameShape0
/- The smallest part of a field with all cells of 1. -/
namespace Go.Proofs.YtialllbbbpmkbaaDoor
open HL
set_option maxRecDepth 100000
/-- Cells that are filled one behind the other. -/
def fillL (c : Int) (g : Int → Int → Int) (N t : Nat) : List Int := (List.range N).map fun (j : Nat) => if j < t then g ((j : Int) / c) ((j : Int) % c) else 0
theorem fillL_length (c : Int) (g : Int → Int → Int) (N t : Nat) : (fillL c g N t).length = N := by simp [fillL]
theorem fillL_zero (c : Int) (g : Int → Int → Int) (N : Nat) : fillL c g N 0 = List.replicate N 0 := by
  rw [List.eq_replicate_iff]
  refine ⟨fillL_length c g N 0, fun x hx => ?_⟩
  simp only [fillL, List.mem_map] at hx
  obtain ⟨j, _, rfl⟩ := hx
  rw [if_neg (by omega)]
theorem fillL_end {c : Int} {g : Int → Int → Int} {N t : Nat} (h : N ≤ t) : fillL c g N t = mkL c g N := by
  unfold fillL mkL
  apply List.map_congr_left
  intro j hj
  have := List.mem_range.mp hj
  rw [if_pos (by omega)]
theorem fillL_set {c : Int} {g : Int → Int → Int} {N : Nat} {i k : Int} {t : Nat} (hc : 0 < c) (k0 : 0 ≤ k) (k1 : k < c) (ht : (t : Int) = i * c + k) (h : 0 ≤ i * c) : (fillL c g N t).set (i * c + k).toNat (g i k) = fillL c g N (t + 1) := by
  have hd := divmod (c := c) (i := i) (k := k) hc k0 k1
  rw [show (i * c + k).toNat = t by omega]
  apply List.ext_getElem?
  intro j
  rw [List.getElem?_set]
  simp only [fillL, List.getElem?_map, List.length_map, List.length_range]
  by_cases e : t = j
  · subst e
    rw [if_pos rfl]
    by_cases hj : t < N
    · rw [if_pos hj, List.getElem?_range hj]
      simp only [Option.map_some]
      rw [if_pos (by omega), ht, hd.1, hd.2]
    · rw [if_neg hj, List.getElem?_eq_none (by simpa using hj)]; rfl
  · rw [if_neg e]
    by_cases hj : j < N
    · rw [List.getElem?_range hj]
      simp only [Option.map_some]
      by_cases h1 : j < t
      · rw [if_pos h1, if_pos (by omega)]
      · rw [if_neg h1, if_neg (by omega)]
    · rw [List.getElem?_eq_none (by simpa using hj)]; rfl
theorem ix_lt {a b r c : Int} (a0 : 0 ≤ a) (a1 : a < r) (b0 : 0 ≤ b) (b1 : b < c) : 0 ≤ a * c ∧ a * c + b < r * c := by
  have := Int.mul_nonneg a0 (show (0 : Int) ≤ c by omega)
  have := Int.mul_le_mul (a := a) (b := c) (c := r - 1) (d := c) (by omega) (by omega) (by omega) (by omega)
  rw [Int.sub_mul] at this
  omega
theorem ix_le {a b : Int} (a0 : 0 ≤ a) (a1 : a ≤ 24) (b0 : 0 ≤ b) (b1 : b ≤ 24) : 0 ≤ a * b ∧ a * b ≤ 576 := by
  have := Int.mul_nonneg a0 b0
  have := Int.mul_le_mul a1 b1 b0 (by omega)
  omega
theorem fillL_len {c : Int} {g : Int → Int → Int} {rr cc : Int} {t : Nat} (h1 : 0 ≤ rr) (h2 : 0 ≤ cc) : ((fillL c g (rr.toNat * cc.toNat) t).length : Int) = rr * cc := by
  rw [fillL_length, Int.natCast_mul, Int.toNat_of_nonneg h1, Int.toNat_of_nonneg h2]
/-- A part of a field. -/
def cutG (c : Int) (l : List Int) (row col i k : Int) : Int := at_ 0 l ((row + i) * c + col + k)
/-- Where the cells of 1 lie, of the first t cells: top, bottom, left, right. -/
def trStep (c : Int) (l : List Int) (s : Int × Int × Int × Int) (j : Nat) : Int × Int × Int × Int :=
  if at_ 0 l (j : Int) = 1 then (min s.1 ((j : Int) / c), max s.2.1 ((j : Int) / c), min s.2.2.1 ((j : Int) % c), max s.2.2.2 ((j : Int) % c)) else s
def trS (r c : Int) (l : List Int) (t : Nat) : Int × Int × Int × Int := (List.range t).foldl (trStep c l) (r, -1, c, -1)
theorem trS_t {r c : Int} {l : List Int} {t : Nat} (h : at_ 0 l (t : Int) = 1) :
    trS r c l (t + 1) = (min (trS r c l t).1 ((t : Int) / c), max (trS r c l t).2.1 ((t : Int) / c), min (trS r c l t).2.2.1 ((t : Int) % c), max (trS r c l t).2.2.2 ((t : Int) % c)) := by
  unfold trS
  rw [List.range_succ, List.foldl_append, List.foldl_cons, List.foldl_nil, trStep, if_pos h]
theorem trS_f {r c : Int} {l : List Int} {t : Nat} (h : ¬ at_ 0 l (t : Int) = 1) : trS r c l (t + 1) = trS r c l t := by
  unfold trS
  rw [List.range_succ, List.foldl_append, List.foldl_cons, List.foldl_nil, trStep, if_neg h]
theorem trS_t2 {r c : Int} {l : List Int} {i k : Int} {t : Nat} (hc : 0 < c) (k0 : 0 ≤ k) (k1 : k < c) (ht : (t : Int) = i * c + k) (h : at_ 0 l (i * c + k) = 1) :
    trS r c l (t + 1) = (min (trS r c l t).1 i, max (trS r c l t).2.1 i, min (trS r c l t).2.2.1 k, max (trS r c l t).2.2.2 k) := by
  have hd := divmod (c := c) (i := i) (k := k) hc k0 k1
  rw [trS_t (by rw [ht]; exact h), ht, hd.1, hd.2]
theorem trS_f2 {r c : Int} {l : List Int} {i k : Int} {t : Nat} (ht : (t : Int) = i * c + k) (h : ¬ at_ 0 l (i * c + k) = 1) : trS r c l (t + 1) = trS r c l t := trS_f (by rw [ht]; exact h)
theorem trS_inv {r c : Int} {l : List Int} (hs : sidesF r c) : ∀ t : Nat, (t : Int) ≤ r * c →
    trS r c l t = (r, -1, c, -1) ∨ ((0 ≤ (trS r c l t).1 ∧ (trS r c l t).1 ≤ (trS r c l t).2.1 ∧ (trS r c l t).2.1 < r) ∧ 0 ≤ (trS r c l t).2.2.1 ∧ (trS r c l t).2.2.1 ≤ (trS r c l t).2.2.2 ∧ (trS r c l t).2.2.2 < c)
  | 0, _ => .inl rfl
  | t + 1, h => by
    have q1 := hs.1
    have q2 := hs.2
    have d1 := Int.ediv_nonneg (a := (t : Int)) (b := c) (by omega) (by omega)
    have d2 : (t : Int) / c < r := Int.ediv_lt_of_lt_mul (by omega) (by omega)
    have d3 := Int.emod_nonneg (t : Int) (b := c) (by omega)
    have d4 := Int.emod_lt_of_pos (t : Int) (b := c) (by omega)
    by_cases e : at_ 0 l (t : Int) = 1
    · rw [trS_t e]
      refine .inr ?_
      rcases trS_inv (l := l) hs t (by omega) with h1 | h1
      · rw [h1]; simp only; omega
      · simp only; omega
    · rw [trS_f e]
      exact trS_inv hs t (by omega)
theorem trS_bnd {r c : Int} {l : List Int} (hs : sidesF r c) (t : Nat) (h : (t : Int) ≤ r * c) : (0 ≤ (trS r c l t).1 ∧ (trS r c l t).1 ≤ r ∧ -1 ≤ (trS r c l t).2.1 ∧ (trS r c l t).2.1 < r) ∧ 0 ≤ (trS r c l t).2.2.1 ∧ (trS r c l t).2.2.1 ≤ c ∧ -1 ≤ (trS r c l t).2.2.2 ∧ (trS r c l t).2.2.2 < c := by
  have q1 := hs.1
  have q2 := hs.2
  rcases trS_inv (l := l) hs t h with h1 | h1
  · rw [h1]; simp only; omega
  · omega
theorem trS_ok {r c : Int} {l : List Int} (hs : sidesF r c) (t : Nat) (h : (t : Int) ≤ r * c) (hb : 0 ≤ (trS r c l t).2.1) : (trS r c l t).1 ≤ (trS r c l t).2.1 ∧ (trS r c l t).2.2.1 ≤ (trS r c l t).2.2.2 := by
  rcases trS_inv (l := l) hs t h with h1 | h1
  · rw [h1] at hb; simp only at hb; omega
  · omega
/-- The smallest part: its sides, its cells, and where it begins. -/
def trm (r c : Int) (l : List Int) : Int × Int × Int × Int := trS r c l (r * c).toNat
def trR (r c : Int) (l : List Int) : Int := (trm r c l).2.1 - (trm r c l).1 + 1
def trC (r c : Int) (l : List Int) : Int := (trm r c l).2.2.2 - (trm r c l).2.2.1 + 1
def trL (r c : Int) (l : List Int) : List Int := mkL (trC r c l) (cutG c l (trm r c l).1 (trm r c l).2.2.1) ((trR r c l).toNat * (trC r c l).toNat)
theorem trm_bnd {r c : Int} {l : List Int} (hs : sidesF r c) (hb : 0 ≤ (trm r c l).2.1) : 0 ≤ (trm r c l).1 ∧ 0 ≤ (trm r c l).2.2.1 ∧ 1 ≤ trR r c l ∧ 1 ≤ trC r c l ∧ (trm r c l).1 + trR r c l ≤ r ∧ (trm r c l).2.2.1 + trC r c l ≤ c := by
  have m := sidesF_mul hs
  have b := trS_bnd (l := l) hs (r * c).toNat (by omega)
  have d := trS_ok (l := l) hs (r * c).toNat (by omega) hb
  unfold trR trC trm
  omega
def trimOk (r c : Int) (l : List Int) : Prop := fieldN 1 r c l ∧ 0 ≤ (trm r c l).2.1
instance (r c : Int) (l : List Int) : Decidable (trimOk r c l) := by unfold trimOk; infer_instance
def trimI (x r c : Int) (l : List Int) : Int := if trimOk r c l then x else 0
def trimL (r c : Int) (l : List Int) : List Int := if trimOk r c l then trL r c l else []
theorem trimL_len {r c : Int} {l : List Int} : (trimL r c l).length ≤ 576 := by
  unfold trimL
  split
  · rename_i h
    have b := trm_bnd h.1.1 h.2
    have q1 := h.1.1.1
    have q2 := h.1.1.2
    unfold trL
    rw [mkL_length]
    have := Nat.mul_le_mul (show (trR r c l).toNat ≤ 24 by omega) (show (trC r c l).toNat ≤ 24 by omega)
    omega
  · simp
theorem C.spec_l00Min {a b : Int} {H : Hp} {K : Value → Hp → Prop} (hk : K (.int .i64 (min a b)) H) : HT prg I.spec_l00Min [.int .i64 a, .int .i64 b].toArray H K := by
  refine R.spec_l00Min ?_
  unfold F.spec_l00Min
  rw [vInt_lss, ob_some]
  refine cnd_d (fun h => ?_) (fun h => ?_)
  · rw [show min a b = a by omega] at hk; exact hk
  · rw [show min a b = b by omega] at hk; exact hk
theorem C.spec_l00Max {a b : Int} {H : Hp} {K : Value → Hp → Prop} (hk : K (.int .i64 (max a b)) H) : HT prg I.spec_l00Max [.int .i64 a, .int .i64 b].toArray H K := by
  refine R.spec_l00Max ?_
  unfold F.spec_l00Max
  rw [vInt_gtr, ob_some]
  refine cnd_d (fun h => ?_) (fun h => ?_)
  · rw [show max a b = a by omega] at hk; exact hk
  · rw [show max a b = b by omega] at hk; exact hk
theorem C.spec_l05Cut {p vc : Value} {r c row col rows cols : Int} {l : List Int} {H : Hp} {K : Value → Hp → Prop} (hp0 : Cel H p [.int .i64 r, .int .i64 c, vc]) (hvc0 : Sl eI H vc l) (hs : sidesF r c) (hl : (l.length : Int) = r * c)
    (h0 : 0 ≤ row) (h1 : 0 ≤ col) (h2 : 1 ≤ rows) (h3 : 1 ≤ cols) (h4 : row + rows ≤ r) (h5 : col + cols ≤ c) (hk : ∀ u H', Own eI H' u (mkL cols (cutG c l row col) (rows.toNat * cols.toNat)) → Nw H u → Le H H' → K (.agg #[.int .i64 rows, .int .i64 cols, u]) H') :
    HT prg I.spec_l05Cut [p, .int .i64 row, .int .i64 col, .int .i64 rows, .int .i64 cols].toArray H K := by
  have q1 := hs.1
  have q2 := hs.2
  have lE := Le.refl H
  have hp := hp0
  have hvc := hvc0
  refine R.spec_l05Cut ?_
  unfold F.spec_l05Cut
  refine nw_i (fun q H1 oq nn2 le3 => ?_)
  have nq : Nw H q := nn2.le lE
  replace hp := hp.le le3
  replace hvc := hvc.le le3
  replace lE := lE.trans le3
  replace oq : Cel H1 q [(.int .i64 (0)), (.int .i64 (0)), (.slice none 0 0)] := oq
  refine C.spec_l04New (by omega) (by omega) (by omega) (by omega) (fun u H4 ou nn6  le5 => ?_)
  have aqXu : Apart q u := oq.apart nn6
  have nu : Nw H u := nn6.le lE
  replace oq := oq.le le5
  replace hp := hp.le le5
  replace hvc := hvc.le le5
  replace lE := lE.trans le5
  refine nw_i (fun s H7 os nn8 le9 => ?_)
  have aqXs : Apart q s := oq.apart nn8
  have auXs : Apart u s := ou.apart nn8
  have ns : Nw H s := nn8.le lE
  replace oq := oq.le le9
  replace ou := ou.le le9
  replace hp := hp.le le9
  replace hvc := hvc.le le9
  replace lE := lE.trans le9
  replace os : Cel H7 s [(.int .i64 (0)), (.int .i64 (0)), (.slice none 0 0)] := os
  refine os.stn (ws := [(.int .i64 (rows)), (.int .i64 (cols)), u]) rfl rfl (oc1 rfl (oc1 rfl (oc1 ou.one oc0))) (fun H10 os off11 => ?_)
  replace oq := oq.off off11 aqXs
  replace ou := ou.off off11 auXs
  replace hp := hp0.le (off11.le lE ns)
  replace hvc := hvc0.le (off11.le lE ns)
  replace lE := off11.le lE ns
  replace os : Cel H10 s [(.int .i64 (rows)), (.int .i64 (cols)), u] := os
  refine jn_i (fun σ' H' => σ' 10 = q ∧ σ' 11 = s ∧ Cel H' q [(.int .i64 (0)), (.int .i64 (0)), (.slice none 0 0)] ∧ Own eI H' u (mkL cols (cutG c l row col) (rows.toNat * cols.toNat)) ∧ Cel H' s [(.int .i64 (rows)), (.int .i64 (cols)), u] ∧ Le H H') (fun σ12 H12 hP => ?_) (fun J12 hJ12 => ?_)
  · skip
    obtain ⟨g10L12, g11L12, oq, ou, os, lE⟩ := hP
    have hp := hp0.le lE
    have hvc := hvc0.le lE
    simp only [g10L12, g11L12]
    refine ob_i (os.ldn rfl) ?_
    refine oq.stn (ws := [(.int .i64 (rows)), (.int .i64 (cols)), u]) rfl rfl (oc1 rfl (oc1 rfl (oc1 ou.one oc0))) (fun H13 oq off14 => ?_)
    replace ou := ou.off off14 aqXu.symm
    replace os := os.off off14 aqXs.symm
    replace hp := hp0.le (off14.le lE nq)
    replace hvc := hvc0.le (off14.le lE nq)
    replace lE := off14.le lE nq
    replace oq : Cel H13 q [(.int .i64 (rows)), (.int .i64 (cols)), u] := oq
    refine ob_i (oq.ldn rfl) ?_
    exact hk u _ ou nu lE
  refine ⟨fun n' σ' H' => ∃ i : Nat, n' = rows.toNat - i ∧ i ≤ rows.toNat ∧ σ' 0 = p ∧ σ' 1 = (.int .i64 (row)) ∧ σ' 2 = (.int .i64 (col)) ∧ σ' 3 = (.int .i64 (rows)) ∧ σ' 4 = (.int .i64 (cols)) ∧ σ' 10 = q ∧ σ' 11 = s ∧ σ' 12 = (.int .i64 ((i : Int))) ∧ Cel H' q [(.int .i64 (0)), (.int .i64 (0)), (.slice none 0 0)] ∧ Own eI H' u (fillL cols (cutG c l row col) (rows.toNat * cols.toNat) (i * cols.toNat)) ∧ Cel H' s [(.int .i64 (rows)), (.int .i64 (cols)), u] ∧ Le H H',
    ⟨_, 0, rfl, by omega, rfl, rfl, rfl, rfl, rfl, rfl, rfl, rfl, oq, by rw [Nat.zero_mul, fillL_zero]; exact ou, os, lE⟩, ?_⟩
  rintro n15 σ15 H15 ⟨i, rfl, hiN, g0L15, g1L15, g2L15, g3L15, g4L15, g10L15, g11L15, g12L15, oq, ou, os, lE⟩
  have hp := hp0.le lE
  have hvc := hvc0.le lE
  simp only [g0L15, g1L15, g2L15, g3L15, g4L15, g10L15, g11L15, g12L15]
  refine ob_i (vInt_lss _ _ _) ?_
  refine cnd_d (fun hg16 => ?_) (fun hg16 => ?_)
  · skip
    have ti := hg16
    refine jn_i (fun σ' H' => σ' 0 = p ∧ σ' 1 = (.int .i64 (row)) ∧ σ' 2 = (.int .i64 (col)) ∧ σ' 3 = (.int .i64 (rows)) ∧ σ' 4 = (.int .i64 (cols)) ∧ σ' 10 = q ∧ σ' 11 = s ∧ σ' 12 = (.int .i64 ((i : Int))) ∧ Cel H' q [(.int .i64 (0)), (.int .i64 (0)), (.slice none 0 0)] ∧ Own eI H' u (fillL cols (cutG c l row col) (rows.toNat * cols.toNat) ((i + 1) * cols.toNat)) ∧ Cel H' s [(.int .i64 (rows)), (.int .i64 (cols)), u] ∧ Le H H') (fun σ17 H17 hP => ?_) (fun J17 hJ17 => ?_)
    · skip
      obtain ⟨g0L17, g1L17, g2L17, g3L17, g4L17, g10L17, g11L17, g12L17, oq, ou, os, lE⟩ := hP
      have hp := hp0.le lE
      have hvc := hvc0.le lE
      simp only [g10L17, g12L17]
      refine ob_i (vInt_add (by omega) (by omega)) ?_
      exact nxt (rows.toNat - (i + 1)) (by omega) ⟨i + 1, rfl, by omega, g0L17, g1L17, g2L17, g3L17, g4L17, g10L17, g11L17, rfl, oq, ou, os, lE⟩
    refine ⟨fun n' σ' H' => ∃ k : Nat, n' = cols.toNat - k ∧ k ≤ cols.toNat ∧ σ' 0 = p ∧ σ' 1 = (.int .i64 (row)) ∧ σ' 2 = (.int .i64 (col)) ∧ σ' 3 = (.int .i64 (rows)) ∧ σ' 4 = (.int .i64 (cols)) ∧ σ' 10 = q ∧ σ' 11 = s ∧ σ' 12 = (.int .i64 ((i : Int))) ∧ σ' 13 = (.int .i64 ((k : Int))) ∧ Cel H' q [(.int .i64 (0)), (.int .i64 (0)), (.slice none 0 0)] ∧ Own eI H' u (fillL cols (cutG c l row col) (rows.toNat * cols.toNat) (i * cols.toNat + k)) ∧ Cel H' s [(.int .i64 (rows)), (.int .i64 (cols)), u] ∧ Le H H',
      ⟨_, 0, rfl, by omega, g0L15, g1L15, g2L15, g3L15, g4L15, g10L15, g11L15, g12L15, rfl, oq, ou, os, lE⟩, ?_⟩
    rintro n18 σ18 H18 ⟨k, rfl, hkN, g0L18, g1L18, g2L18, g3L18, g4L18, g10L18, g11L18, g12L18, g13L18, oq, ou, os, lE⟩
    have hp := hp0.le lE
    have hvc := hvc0.le lE
    simp only [g0L18, g1L18, g2L18, g4L18, g10L18, g11L18, g12L18, g13L18]
    refine ob_i (vInt_lss _ _ _) ?_
    refine cnd_d (fun hg19 => ?_) (fun hg19 => ?_)
    · skip
      have tk := hg19
      have x1 := ix_lt (a := row + i) (b := col + k) (r := r) (c := c) (by omega) (by omega) (by omega) (by omega)
      have x2 := ix_lt (a := (i : Int)) (b := (k : Int)) (r := rows) (c := cols) (by omega) (by omega) (by omega) (by omega)
      have x3 := fillL_len (c := cols) (g := cutG c l row col) (rr := rows) (cc := cols) (t := i * cols.toNat + k) (by omega) (by omega)
      have x4 := sidesF_mul hs
      have x5 := ix_le (a := rows) (b := cols) (by omega) (by omega) (by omega) (by omega)
      refine ob_i (os.fa 2) ?_
      refine ob_i (os.ld 2 rfl) ?_
      refine ob_i (vInt_mul (by omega) (by omega)) ?_
      refine ob_i (vInt_add (by omega) (by omega)) ?_
      refine ob_i (hp.nilC) ?_
      refine ob_i (hp.fa 2) ?_
      refine ob_i (hp.ld 2 rfl) ?_
      refine ob_i (vInt_add (by omega) (by omega)) ?_
      refine ob_i (hp.nilC) ?_
      refine ob_i (hp.fa 1) ?_
      refine ob_i (hp.ld 1 rfl) ?_
      refine ob_i (vInt_mul (by omega) (by omega)) ?_
      refine ob_i (vInt_add (by omega) (by omega)) ?_
      refine ob_i (vInt_add (by omega) (by omega)) ?_
      refine ob_i (hvc.ix (by omega) (by omega)) ?_
      refine ob_i (hvc.ld 0 (by omega) (by omega)) ?_
      refine ob_i (ou.sl.ix (by omega) (by omega)) ?_
      refine ou.st (x := at_ 0 (l) ((((row + (i : Int)) * c) + col) + (k : Int))) (by omega) (by omega) rfl rfl (fun H20 ou off21 => ?_)
      replace oq := oq.off off21 aqXu
      replace os := os.off off21 auXs.symm
      replace hp := hp0.le (off21.le lE nu)
      replace hvc := hvc0.le (off21.le lE nu)
      replace lE := off21.le lE nu
      refine ob_i (vInt_add (by omega) (by omega)) ?_
      have e := fillL_set (c := cols) (g := cutG c l row col) (N := (rows.toNat * cols.toNat)) (i := i) (k := k) (t := i * cols.toNat + k) (by omega) (by omega) (by omega) (cast_ix (by omega)) (by omega)
      replace ou : Own eI H20 u (fillL cols (cutG c l row col) (rows.toNat * cols.toNat) (i * cols.toNat + (k + 1))) := by rw [← Nat.add_assoc, ← e]; exact ou
      exact nxt (cols.toNat - (k + 1)) (by omega) ⟨k + 1, rfl, by omega, g0L18, g1L18, g2L18, g3L18, g4L18, g10L18, g11L18, g12L18, rfl, oq, ou, os, lE⟩
    · skip
      have tk := hg19
      rw [show i * cols.toNat + k = (i + 1) * cols.toNat by rw [Nat.add_mul, Nat.one_mul]; omega] at ou
      exact hJ17 _ _ ⟨g0L18, g1L18, g2L18, g3L18, g4L18, g10L18, g11L18, g12L18, oq, ou, os, lE⟩
  · skip
    have ti := hg16
    rw [fillL_end (by rw [show i = rows.toNat by omega]; exact Nat.le_refl _)] at ou
    exact hJ12 _ _ ⟨g10L15, g11L15, oq, ou, os, lE⟩
theorem C.spec_l05Trim {p vc : Value} {r c : Int} {l : List Int} {H : Hp} {K : Value → Hp → Prop} (hp0 : Cel H p [.int .i64 r, .int .i64 c, vc]) (hvc0 : Sl eI H vc l) (hs : sidesF r c) (hl : (l.length : Int) = r * c)
    (hk1 : (trm r c l).2.1 < 0 → ∀ H', Le H H' → K (.tuple #[.agg #[.int .i64 0, .int .i64 0, .slice none 0 0], .int .i64 0, .int .i64 0, .bool false]) H')
    (hk2 : 0 ≤ (trm r c l).2.1 → ∀ u H', Own eI H' u (trL r c l) → Nw H u → Le H H' → K (.tuple #[.agg #[.int .i64 (trR r c l), .int .i64 (trC r c l), u], .int .i64 (trm r c l).1, .int .i64 (trm r c l).2.2.1, .bool true]) H') :
    HT prg I.spec_l05Trim [p].toArray H K := by
  have q1 := hs.1
  have q2 := hs.2
  have m := sidesF_mul hs
  change (trS r c l (r * c).toNat).2.1 < 0 → _ at hk1
  change 0 ≤ (trS r c l (r * c).toNat).2.1 → _ at hk2
  have lE := Le.refl H
  have hp := hp0
  have hvc := hvc0
  refine R.spec_l05Trim ?_
  unfold F.spec_l05Trim
  refine nw_i (fun q H1 oq nn2 le3 => ?_)
  have nq : Nw H q := nn2.le lE
  replace hp := hp.le le3
  replace hvc := hvc.le le3
  replace lE := lE.trans le3
  replace oq : Cel H1 q [(.int .i64 (0)), (.int .i64 (0)), (.slice none 0 0)] := oq
  refine ob_i (hp.nilC) ?_
  refine ob_i (hp.fa 0) ?_
  refine ob_i (hp.ld 0 rfl) ?_
  refine ob_i (hp.nilC) ?_
  refine ob_i (hp.fa 1) ?_
  refine ob_i (hp.ld 1 rfl) ?_
  refine jn_i (fun σ' H' => σ' 0 = p ∧ σ' 2 = q ∧ σ' 6 = (.int .i64 ((trS r c l ((r * c).toNat)).1)) ∧ σ' 7 = (.int .i64 ((trS r c l ((r * c).toNat)).2.1)) ∧ σ' 8 = (.int .i64 ((trS r c l ((r * c).toNat)).2.2.1)) ∧ σ' 9 = (.int .i64 ((trS r c l ((r * c).toNat)).2.2.2)) ∧ Cel H' q [(.int .i64 (0)), (.int .i64 (0)), (.slice none 0 0)] ∧ Le H H') (fun σ4 H4 hP => ?_) (fun J4 hJ4 => ?_)
  · skip
    obtain ⟨g0L4, g2L4, g6L4, g7L4, g8L4, g9L4, oq, lE⟩ := hP
    have hp := hp0.le lE
    have hvc := hvc0.le lE
    simp only [g0L4, g2L4, g6L4, g7L4, g8L4, g9L4]
    have b := trS_bnd (l := l) hs (r * c).toNat (by omega)
    have b2 := trS_ok (l := l) hs (r * c).toNat (by omega)
    refine ob_i (vInt_lss _ _ _) ?_
    refine cnd_d (fun hg5 => ?_) (fun hg5 => ?_)
    · skip
      refine ob_i (a := (.agg #[(.int .i64 (0)), (.int .i64 (0)), (.slice none 0 0)])) (by rfl) ?_
      refine oq.stn (ws := [(.int .i64 (0)), (.int .i64 (0)), (.slice none 0 0)]) rfl rfl (oc1 rfl (oc1 rfl (oc1 rfl oc0))) (fun H6 oq off7 => ?_)
      replace hp := hp0.le (off7.le lE nq)
      replace hvc := hvc0.le (off7.le lE nq)
      replace lE := off7.le lE nq
      replace oq : Cel H6 q [(.int .i64 (0)), (.int .i64 (0)), (.slice none 0 0)] := oq
      refine ob_i (oq.ldn rfl) ?_
      exact hk1 (by omega) _ lE
    · skip
      refine ob_i (vInt_sub (by omega) (by omega)) ?_
      refine ob_i (vInt_add (by omega) (by omega)) ?_
      refine ob_i (vInt_sub (by omega) (by omega)) ?_
      refine ob_i (vInt_add (by omega) (by omega)) ?_
      refine C.spec_l05Cut hp hvc hs hl (by omega) (by omega) (by omega) (by omega) (by omega) (by omega) (fun u10 H8 ou10 nn11  le9 => ?_)
      have aqXu10 : Apart q u10 := oq.apart nn11
      have nu10 : Nw H u10 := nn11.le lE
      replace oq := oq.le le9
      replace hp := hp.le le9
      replace hvc := hvc.le le9
      replace lE := lE.trans le9
      refine oq.stn (ws := [(.int .i64 ((((trS r c l ((r * c).toNat)).2.1) - ((trS r c l ((r * c).toNat)).1)) + 1)), (.int .i64 ((((trS r c l ((r * c).toNat)).2.2.2) - ((trS r c l ((r * c).toNat)).2.2.1)) + 1)), u10]) rfl rfl (oc1 rfl (oc1 rfl (oc1 ou10.one oc0))) (fun H12 oq off13 => ?_)
      replace ou10 := ou10.off off13 aqXu10.symm
      replace hp := hp0.le (off13.le lE nq)
      replace hvc := hvc0.le (off13.le lE nq)
      replace lE := off13.le lE nq
      replace oq : Cel H12 q [(.int .i64 ((((trS r c l ((r * c).toNat)).2.1) - ((trS r c l ((r * c).toNat)).1)) + 1)), (.int .i64 ((((trS r c l ((r * c).toNat)).2.2.2) - ((trS r c l ((r * c).toNat)).2.2.1)) + 1)), u10] := oq
      refine ob_i (oq.ldn rfl) ?_
      exact hk2 (by omega) u10 _ ou10 nu10 lE
  refine ⟨fun n' σ' H' => ∃ i : Nat, n' = r.toNat - i ∧ i ≤ r.toNat ∧ σ' 0 = p ∧ σ' 2 = q ∧ σ' 6 = (.int .i64 ((trS r c l (i * c.toNat)).1)) ∧ σ' 7 = (.int .i64 ((trS r c l (i * c.toNat)).2.1)) ∧ σ' 8 = (.int .i64 ((trS r c l (i * c.toNat)).2.2.1)) ∧ σ' 9 = (.int .i64 ((trS r c l (i * c.toNat)).2.2.2)) ∧ σ' 10 = (.int .i64 ((i : Int))) ∧ Cel H' q [(.int .i64 (0)), (.int .i64 (0)), (.slice none 0 0)] ∧ Le H H',
    ⟨_, 0, rfl, by omega, rfl, rfl, by rw [Nat.zero_mul]; rfl, by rw [Nat.zero_mul]; rfl, by rw [Nat.zero_mul]; rfl, by rw [Nat.zero_mul]; rfl, rfl, oq, lE⟩, ?_⟩
  rintro n14 σ14 H14 ⟨i, rfl, hiN, g0L14, g2L14, g6L14, g7L14, g8L14, g9L14, g10L14, oq, lE⟩
  have hp := hp0.le lE
  have hvc := hvc0.le lE
  simp only [g0L14, g2L14, g6L14, g7L14, g8L14, g9L14, g10L14]
  refine ob_i (hp.nilC) ?_
  refine ob_i (hp.fa 0) ?_
  refine ob_i (hp.ld 0 rfl) ?_
  refine ob_i (vInt_lss _ _ _) ?_
  refine cnd_d (fun hg15 => ?_) (fun hg15 => ?_)
  · skip
    have ti := hg15
    refine jn_i (fun σ' H' => σ' 0 = p ∧ σ' 2 = q ∧ σ' 6 = (.int .i64 ((trS r c l ((i + 1) * c.toNat)).1)) ∧ σ' 7 = (.int .i64 ((trS r c l ((i + 1) * c.toNat)).2.1)) ∧ σ' 8 = (.int .i64 ((trS r c l ((i + 1) * c.toNat)).2.2.1)) ∧ σ' 9 = (.int .i64 ((trS r c l ((i + 1) * c.toNat)).2.2.2)) ∧ σ' 10 = (.int .i64 ((i : Int))) ∧ Cel H' q [(.int .i64 (0)), (.int .i64 (0)), (.slice none 0 0)] ∧ Le H H') (fun σ16 H16 hP => ?_) (fun J16 hJ16 => ?_)
    · skip
      obtain ⟨g0L16, g2L16, g6L16, g7L16, g8L16, g9L16, g10L16, oq, lE⟩ := hP
      have hp := hp0.le lE
      have hvc := hvc0.le lE
      simp only [g2L16, g10L16]
      refine ob_i (vInt_add (by omega) (by omega)) ?_
      exact nxt (r.toNat - (i + 1)) (by omega) ⟨i + 1, rfl, by omega, g0L16, g2L16, g6L16, g7L16, g8L16, g9L16, rfl, oq, lE⟩
    refine ⟨fun n' σ' H' => ∃ k : Nat, n' = c.toNat - k ∧ k ≤ c.toNat ∧ σ' 0 = p ∧ σ' 2 = q ∧ σ' 6 = (.int .i64 ((trS r c l (i * c.toNat + k)).1)) ∧ σ' 7 = (.int .i64 ((trS r c l (i * c.toNat + k)).2.1)) ∧ σ' 8 = (.int .i64 ((trS r c l (i * c.toNat + k)).2.2.1)) ∧ σ' 9 = (.int .i64 ((trS r c l (i * c.toNat + k)).2.2.2)) ∧ σ' 10 = (.int .i64 ((i : Int))) ∧ σ' 11 = (.int .i64 ((k : Int))) ∧ Cel H' q [(.int .i64 (0)), (.int .i64 (0)), (.slice none 0 0)] ∧ Le H H',
      ⟨_, 0, rfl, by omega, g0L14, g2L14, g6L14, g7L14, g8L14, g9L14, g10L14, rfl, oq, lE⟩, ?_⟩
    rintro n17 σ17 H17 ⟨k, rfl, hkN, g0L17, g2L17, g6L17, g7L17, g8L17, g9L17, g10L17, g11L17, oq, lE⟩
    have hp := hp0.le lE
    have hvc := hvc0.le lE
    simp only [g0L17, g2L17, g6L17, g7L17, g8L17, g9L17, g10L17, g11L17]
    refine ob_i (hp.nilC) ?_
    refine ob_i (hp.fa 1) ?_
    refine ob_i (hp.ld 1 rfl) ?_
    refine ob_i (vInt_lss _ _ _) ?_
    refine cnd_d (fun hg18 => ?_) (fun hg18 => ?_)
    · skip
      have tk := hg18
      have x1 := ix_lt (a := (i : Int)) (b := (k : Int)) (r := r) (c := c) (by omega) (by omega) (by omega) (by omega)
      have x4 := sidesF_mul hs
      refine ob_i (hp.nilC) ?_
      refine ob_i (hp.fa 2) ?_
      refine ob_i (hp.ld 2 rfl) ?_
      refine ob_i (hp.nilC) ?_
      refine ob_i (hp.fa 1) ?_
      refine ob_i (hp.ld 1 rfl) ?_
      refine ob_i (vInt_mul (by omega) (by omega)) ?_
      refine ob_i (vInt_add (by omega) (by omega)) ?_
      refine ob_i (hvc.ix (by omega) (by omega)) ?_
      refine ob_i (hvc.ld 0 (by omega) (by omega)) ?_
      refine ob_i (vInt_eql _ _ _) ?_
      refine cnd_d (fun hg19 => ?_) (fun hg19 => ?_)
      · skip
        refine C.spec_l00Min  ?_
        refine C.spec_l00Max  ?_
        refine C.spec_l00Min  ?_
        refine C.spec_l00Max  ?_
        refine ob_i (vInt_add (by omega) (by omega)) ?_
        have eT := trS_t2 (r := r) (c := c) (i := (i : Int)) (k := (k : Int)) (t := i * c.toNat + k) (by omega) (by omega) (by omega) (cast_ix (by omega)) hg19
        exact nxt (c.toNat - (k + 1)) (by omega) ⟨k + 1, rfl, by omega, g0L17, g2L17, (by rw [← Nat.add_assoc, eT]; rfl), (by rw [← Nat.add_assoc, eT]; rfl), (by rw [← Nat.add_assoc, eT]; rfl), (by rw [← Nat.add_assoc, eT]; rfl), g10L17, rfl, oq, lE⟩
      · skip
        refine ob_i (vInt_add (by omega) (by omega)) ?_
        have eT := trS_f2 (r := r) (c := c) (i := (i : Int)) (k := (k : Int)) (t := i * c.toNat + k) (cast_ix (by omega)) hg19
        exact nxt (c.toNat - (k + 1)) (by omega) ⟨k + 1, rfl, by omega, g0L17, g2L17, (by rw [← Nat.add_assoc, eT]; exact g6L17), (by rw [← Nat.add_assoc, eT]; exact g7L17), (by rw [← Nat.add_assoc, eT]; exact g8L17), (by rw [← Nat.add_assoc, eT]; exact g9L17), g10L17, rfl, oq, lE⟩
    · skip
      have tk := hg18
      exact hJ16 _ _ ⟨g0L17, g2L17, (by rw [← show i * c.toNat + k = (i + 1) * c.toNat by rw [Nat.add_mul, Nat.one_mul]; congr 1; omega]; exact g6L17), (by rw [← show i * c.toNat + k = (i + 1) * c.toNat by rw [Nat.add_mul, Nat.one_mul]; congr 1; omega]; exact g7L17), (by rw [← show i * c.toNat + k = (i + 1) * c.toNat by rw [Nat.add_mul, Nat.one_mul]; congr 1; omega]; exact g8L17), (by rw [← show i * c.toNat + k = (i + 1) * c.toNat by rw [Nat.add_mul, Nat.one_mul]; congr 1; omega]; exact g9L17), g10L17, oq, lE⟩
  · skip
    have ti := hg15
    exact hJ4 _ _ ⟨g0L14, g2L14, (by rw [← show i * c.toNat = (r * c).toNat by rw [Int.toNat_mul (by omega) (by omega)]; congr 1; omega]; exact g6L14), (by rw [← show i * c.toNat = (r * c).toNat by rw [Int.toNat_mul (by omega) (by omega)]; congr 1; omega]; exact g7L14), (by rw [← show i * c.toNat = (r * c).toNat by rw [Int.toNat_mul (by omega) (by omega)]; congr 1; omega]; exact g8L14), (by rw [← show i * c.toNat = (r * c).toNat by rw [Int.toNat_mul (by omega) (by omega)]; congr 1; omega]; exact g9L14), oq, lE⟩
theorem C.impl_Field_cut_1 {p q s vc : Value} {r c row col i k : Int} {l : List Int} {H : Hp} {K : Value → Hp → Prop} (hp0 : Cel H p [.int .i64 r, .int .i64 c, vc]) (hq0 : Cel H q [.int .i64 row]) (hs0 : Cel H s [.int .i64 col]) (hvc0 : Sl eI H vc l) (hs : sidesF r c) (hl : (l.length : Int) = r * c)
    (h0 : 0 ≤ row + i) (h1 : 0 ≤ col + k) (h2 : row + i < r) (h3 : col + k < c) (hk : ∀ H', Le H H' → K (.int .i64 (cutG c l row col i k)) H') : HT prg I.impl_Field_cut_1 [.int .i64 i, .int .i64 k, p, q, s].toArray H K := by
  unfold cutG at hk
  have hs' := hs
  have lE := Le.refl H
  have hp := hp0
  have hq := hq0
  have hsx := hs0
  have hvc := hvc0
  refine R.impl_Field_cut_1 ?_
  unfold F.impl_Field_cut_1
  have x1 := ix_lt (a := row + i) (b := col + k) (r := r) (c := c) (by omega) (by omega) (by omega) (by omega)
  have m := sidesF_mul hs
  have q1 := hs.1
  have q2 := hs.2
  refine ob_i (hp.ldn rfl) ?_
  refine ob_i (hq.ld0 rfl) ?_
  refine ob_i (vInt_add (by omega) (by omega)) ?_
  refine ob_i (hsx.ld0 rfl) ?_
  refine ob_i (vInt_add (by omega) (by omega)) ?_
  refine C.impl_Field_at hvc (by omega) (by omega) (by omega) (by omega) (by omega) (fun H1 le2 => ?_)
  replace hp := hp.le le2
  replace hq := hq.le le2
  replace hsx := hsx.le le2
  replace hvc := hvc.le le2
  replace lE := lE.trans le2
  rw [show (row + i) * c + (col + k) = (row + i) * c + col + k by omega]
  exact hk _ lE
theorem C.impl_Field_cut {vc : Value} {r c row col rows cols : Int} {l : List Int} {H : Hp} {K : Value → Hp → Prop} (hvc0 : Sl eI H vc l) (hs : sidesF r c) (hl : (l.length : Int) = r * c)
    (h0 : 0 ≤ row) (h1 : 0 ≤ col) (h2 : 1 ≤ rows) (h3 : 1 ≤ cols) (h4 : row + rows ≤ r) (h5 : col + cols ≤ c) (hk : ∀ u H', Own eI H' u (mkL cols (cutG c l row col) (rows.toNat * cols.toNat)) → Nw H u → Le H H' → K (.agg #[.int .i64 rows, .int .i64 cols, u]) H') :
    HT prg I.impl_Field_cut [.agg #[.int .i64 r, .int .i64 c, vc], .int .i64 row, .int .i64 col, .int .i64 rows, .int .i64 cols].toArray H K := by
  have lE := Le.refl H
  have hvc := hvc0
  refine R.impl_Field_cut ?_
  unfold F.impl_Field_cut
  have q1 := hs.1
  have q2 := hs.2
  refine nw_i (fun p1 H2 op1 nn3 le4 => ?_)
  have np1 : Nw H p1 := nn3.le lE
  replace hvc := hvc.le le4
  replace lE := lE.trans le4
  replace op1 : Cel H2 p1 [(.int .i64 (r)), (.int .i64 (c)), vc] := op1
  refine nw_i (fun p5 H6 op5 nn7 le8 => ?_)
  have ap1Xp5 : Apart p1 p5 := op1.apart nn7
  have np5 : Nw H p5 := nn7.le lE
  replace op1 := op1.le le8
  replace hvc := hvc.le le8
  replace lE := lE.trans le8
  replace op5 : Cel H6 p5 [(.int .i64 (row))] := op5
  refine nw_i (fun p9 H10 op9 nn11 le12 => ?_)
  have ap1Xp9 : Apart p1 p9 := op1.apart nn11
  have ap5Xp9 : Apart p5 p9 := op5.apart nn11
  have np9 : Nw H p9 := nn11.le lE
  replace op1 := op1.le le12
  replace op5 := op5.le le12
  replace hvc := hvc.le le12
  replace lE := lE.trans le12
  replace op9 : Cel H10 p9 [(.int .i64 (col))] := op9
  refine nw_i (fun p13 H14 op13 nn15 le16 => ?_)
  have ap1Xp13 : Apart p1 p13 := op1.apart nn15
  have ap5Xp13 : Apart p5 p13 := op5.apart nn15
  have ap9Xp13 : Apart p9 p13 := op9.apart nn15
  have np13 : Nw H p13 := nn15.le lE
  replace op1 := op1.le le16
  replace op5 := op5.le le16
  replace op9 := op9.le le16
  replace hvc := hvc.le le16
  replace lE := lE.trans le16
  replace op13 : Cel H14 p13 [(.int .i64 (0)), (.int .i64 (0)), (.slice none 0 0)] := op13
  refine C.impl_madeField (g := cutG c l row col) (by omega) (by omega) (by omega) (by omega) (fun H' i k Z le hi hk' hZ => ?_) (fun u17 H18 ou17 nn19 le20 => ?_)
  · refine ⟨by kernel_rfl, ?_⟩
    exact C.impl_Field_cut_1 (op1.le le) (op5.le le) (op9.le le) (hvc.le le) hs hl (by omega) (by omega) (by omega) (by omega) hZ
  have ap1Xu17 : Apart p1 u17 := op1.apart nn19
  have ap5Xu17 : Apart p5 u17 := op5.apart nn19
  have ap9Xu17 : Apart p9 u17 := op9.apart nn19
  have ap13Xu17 : Apart p13 u17 := op13.apart nn19
  have nu17 : Nw H u17 := nn19.le lE
  replace op1 := op1.le le20
  replace op5 := op5.le le20
  replace op9 := op9.le le20
  replace op13 := op13.le le20
  replace hvc := hvc.le le20
  replace lE := lE.trans le20
  refine op13.stn (ws := [(.int .i64 (rows)), (.int .i64 (cols)), u17]) rfl rfl (oc1 rfl (oc1 rfl (oc1 ou17.one oc0))) (fun H21 op13 off22 => ?_)
  replace op1 := op1.off off22 ap1Xp13
  replace op5 := op5.off off22 ap5Xp13
  replace op9 := op9.off off22 ap9Xp13
  replace ou17 := ou17.off off22 ap13Xu17.symm
  replace hvc := hvc0.le (off22.le lE np13)
  replace lE := off22.le lE np13
  replace op13 : Cel H21 p13 [(.int .i64 (rows)), (.int .i64 (cols)), u17] := op13
  refine ob_i (op13.ldn rfl) ?_
  exact hk u17 _ ou17 nu17 lE
theorem C.impl_Field_trimmed {vc : Value} {r c : Int} {l : List Int} {H : Hp} {K : Value → Hp → Prop} (hvc0 : Sl eI H vc l) (hs : sidesF r c) (hl : (l.length : Int) = r * c)
    (hk1 : (trm r c l).2.1 < 0 → ∀ H', Le H H' → K (.tuple #[.agg #[.int .i64 0, .int .i64 0, .slice none 0 0], .int .i64 0, .int .i64 0, .bool false]) H')
    (hk2 : 0 ≤ (trm r c l).2.1 → ∀ u H', Own eI H' u (trL r c l) → Nw H u → Le H H' → K (.tuple #[.agg #[.int .i64 (trR r c l), .int .i64 (trC r c l), u], .int .i64 (trm r c l).1, .int .i64 (trm r c l).2.2.1, .bool true]) H') :
    HT prg I.impl_Field_trimmed [.agg #[.int .i64 r, .int .i64 c, vc]].toArray H K := by
  have q1 := hs.1
  have q2 := hs.2
  have m := sidesF_mul hs
  change (trS r c l (r * c).toNat).2.1 < 0 → _ at hk1
  change 0 ≤ (trS r c l (r * c).toNat).2.1 → _ at hk2
  have lE := Le.refl H
  have hvc := hvc0
  refine R.impl_Field_trimmed ?_
  unfold F.impl_Field_trimmed
  refine nw_i (fun p H1 op nn2 le3 => ?_)
  have np : Nw H p := nn2.le lE
  replace hvc := hvc.le le3
  replace lE := lE.trans le3
  replace op : Cel H1 p [(.int .i64 (r)), (.int .i64 (c)), vc] := op
  refine nw_i (fun q H4 oq nn5 le6 => ?_)
  have apXq : Apart p q := op.apart nn5
  have nq : Nw H q := nn5.le lE
  replace op := op.le le6
  replace hvc := hvc.le le6
  replace lE := lE.trans le6
  replace oq : Cel H4 q [(.int .i64 (0)), (.int .i64 (0)), (.slice none 0 0)] := oq
  refine ob_i (op.fa 0) ?_
  refine ob_i (op.ld 0 rfl) ?_
  refine ob_i (op.fa 1) ?_
  refine ob_i (op.ld 1 rfl) ?_
  refine jn_i (fun σ' H' => σ' 1 = p ∧ σ' 2 = q ∧ σ' 6 = (.int .i64 ((trS r c l ((r * c).toNat)).1)) ∧ σ' 7 = (.int .i64 ((trS r c l ((r * c).toNat)).2.2.1)) ∧ σ' 8 = (.int .i64 ((trS r c l ((r * c).toNat)).2.1)) ∧ σ' 9 = (.int .i64 ((trS r c l ((r * c).toNat)).2.2.2)) ∧ Cel H' p [(.int .i64 (r)), (.int .i64 (c)), vc] ∧ Cel H' q [(.int .i64 (0)), (.int .i64 (0)), (.slice none 0 0)] ∧ Le H H') (fun σ7 H7 hP => ?_) (fun J7 hJ7 => ?_)
  · skip
    obtain ⟨g1L7, g2L7, g6L7, g7L7, g8L7, g9L7, op, oq, lE⟩ := hP
    have hvc := hvc0.le lE
    simp only [g1L7, g2L7, g6L7, g7L7, g8L7, g9L7]
    have b := trS_bnd (l := l) hs (r * c).toNat (by omega)
    have b2 := trS_ok (l := l) hs (r * c).toNat (by omega)
    refine ob_i (vInt_lss _ _ _) ?_
    refine cnd_d (fun hg8 => ?_) (fun hg8 => ?_)
    · skip
      refine ob_i (a := (.agg #[(.int .i64 (0)), (.int .i64 (0)), (.slice none 0 0)])) (by rfl) ?_
      refine oq.stn (ws := [(.int .i64 (0)), (.int .i64 (0)), (.slice none 0 0)]) rfl rfl (oc1 rfl (oc1 rfl (oc1 rfl oc0))) (fun H9 oq off10 => ?_)
      replace op := op.off off10 apXq
      replace hvc := hvc0.le (off10.le lE nq)
      replace lE := off10.le lE nq
      replace oq : Cel H9 q [(.int .i64 (0)), (.int .i64 (0)), (.slice none 0 0)] := oq
      refine ob_i (oq.ldn rfl) ?_
      exact hk1 (by omega) _ lE
    · skip
      refine ob_i (op.ldn rfl) ?_
      refine ob_i (vInt_sub (by omega) (by omega)) ?_
      refine ob_i (vInt_add (by omega) (by omega)) ?_
      refine ob_i (vInt_sub (by omega) (by omega)) ?_
      refine ob_i (vInt_add (by omega) (by omega)) ?_
      refine C.impl_Field_cut hvc hs hl (by omega) (by omega) (by omega) (by omega) (by omega) (by omega) (fun u13 H11 ou13 nn14  le12 => ?_)
      have apXu13 : Apart p u13 := op.apart nn14
      have aqXu13 : Apart q u13 := oq.apart nn14
      have nu13 : Nw H u13 := nn14.le lE
      replace op := op.le le12
      replace oq := oq.le le12
      replace hvc := hvc.le le12
      replace lE := lE.trans le12
      refine oq.stn (ws := [(.int .i64 ((((trS r c l ((r * c).toNat)).2.1) - ((trS r c l ((r * c).toNat)).1)) + 1)), (.int .i64 ((((trS r c l ((r * c).toNat)).2.2.2) - ((trS r c l ((r * c).toNat)).2.2.1)) + 1)), u13]) rfl rfl (oc1 rfl (oc1 rfl (oc1 ou13.one oc0))) (fun H15 oq off16 => ?_)
      replace op := op.off off16 apXq
      replace ou13 := ou13.off off16 aqXu13.symm
      replace hvc := hvc0.le (off16.le lE nq)
      replace lE := off16.le lE nq
      replace oq : Cel H15 q [(.int .i64 ((((trS r c l ((r * c).toNat)).2.1) - ((trS r c l ((r * c).toNat)).1)) + 1)), (.int .i64 ((((trS r c l ((r * c).toNat)).2.2.2) - ((trS r c l ((r * c).toNat)).2.2.1)) + 1)), u13] := oq
      refine ob_i (oq.ldn rfl) ?_
      exact hk2 (by omega) u13 _ ou13 nu13 lE
  refine ob_i (op.fa 2) ?_
  refine ob_i (op.ld 2 rfl) ?_
  refine ob_i (hvc.len) ?_
  refine ⟨fun n' σ' H' => ∃ t : Nat, n' = l.length - t ∧ t ≤ l.length ∧ σ' 1 = p ∧ σ' 2 = q ∧ σ' 6 = (.int .i64 ((trS r c l (t)).1)) ∧ σ' 7 = (.int .i64 ((trS r c l (t)).2.2.1)) ∧ σ' 8 = (.int .i64 ((trS r c l (t)).2.1)) ∧ σ' 9 = (.int .i64 ((trS r c l (t)).2.2.2)) ∧ σ' 19 = vc ∧ σ' 20 = (.int .i64 (((l).length : Int))) ∧ σ' 21 = (.int .i64 ((t : Int))) ∧ Cel H' p [(.int .i64 (r)), (.int .i64 (c)), vc] ∧ Cel H' q [(.int .i64 (0)), (.int .i64 (0)), (.slice none 0 0)] ∧ Le H H',
    ⟨_, 0, rfl, by omega, rfl, rfl, rfl, rfl, rfl, rfl, rfl, rfl, rfl, op, oq, lE⟩, ?_⟩
  rintro n17 σ17 H17 ⟨t, rfl, htN, g1L17, g2L17, g6L17, g7L17, g8L17, g9L17, g19L17, g20L17, g21L17, op, oq, lE⟩
  have hvc := hvc0.le lE
  simp only [g1L17, g2L17, g6L17, g7L17, g8L17, g9L17, g19L17, g20L17, g21L17]
  refine ob_i (vInt_lss _ _ _) ?_
  refine cnd_d (fun hg18 => ?_) (fun hg18 => ?_)
  · skip
    have tt := hg18
    refine ob_i (hvc.ix (by omega) (by omega)) ?_
    refine ob_i (hvc.ld 0 (by omega) (by omega)) ?_
    refine ob_i (vInt_eql _ _ _) ?_
    refine cnd_d (fun hg19 => ?_) (fun hg19 => ?_)
    · skip
      refine ob_i (op.fa 1) ?_
      refine ob_i (op.ld 1 rfl) ?_
      refine ob_i (vInt_quoN (by omega) (by omega) (by omega)) ?_
      refine ob_i (op.fa 1) ?_
      refine ob_i (op.ld 1 rfl) ?_
      refine ob_i (vInt_remN (by omega) (by omega)) ?_
      refine ob_i (vMx_min _ _ _) ?_
      refine ob_i (vMx_min _ _ _) ?_
      refine ob_i (vMx_max _ _ _) ?_
      refine ob_i (vMx_max _ _ _) ?_
      refine ob_i (vInt_add (by omega) (by omega)) ?_
      have eT := trS_t (r := r) (c := c) hg19
      exact nxt (l.length - (t + 1)) (by omega) ⟨t + 1, rfl, by omega, g1L17, g2L17, (by rw [eT]; rfl), (by rw [eT]; rfl), (by rw [eT]; rfl), (by rw [eT]; rfl), g19L17, g20L17, rfl, op, oq, lE⟩
    · skip
      refine ob_i (vInt_add (by omega) (by omega)) ?_
      have eT := trS_f (r := r) (c := c) hg19
      exact nxt (l.length - (t + 1)) (by omega) ⟨t + 1, rfl, by omega, g1L17, g2L17, (by rw [eT]; exact g6L17), (by rw [eT]; exact g7L17), (by rw [eT]; exact g8L17), (by rw [eT]; exact g9L17), g19L17, g20L17, rfl, op, oq, lE⟩
  · skip
    have tt := hg18
    exact hJ7 _ _ ⟨g1L17, g2L17, (by rw [← show t = (r * c).toNat by omega]; exact g6L17), (by rw [← show t = (r * c).toNat by omega]; exact g7L17), (by rw [← show t = (r * c).toNat by omega]; exact g8L17), (by rw [← show t = (r * c).toNat by omega]; exact g9L17), op, oq, lE⟩
end Go.Proofs.YtialllbbbpmkbaaDoor
/- Life on fields: what a step and many steps come to. -/
namespace Go.Proofs.YtialllbbbpmkbaaDoor
open HL
set_option maxRecDepth 100000
/-- Numbers that rise, the first n of them. -/
def cntU (l : List Int) (n : Nat) : Prop := ∀ j : Nat, j < n → 0 < j → at_ 0 l ((j : Int) - 1) < at_ 0 l (j : Int)
def cntV (l : List Int) (n : Nat) : Prop := ∀ j : Nat, j < n → 0 ≤ at_ 0 l (j : Int) ∧ at_ 0 l (j : Int) ≤ 8
/-- Counts of neighbours. -/
def cntP (l : List Int) : Prop := (∀ x ∈ l, 0 ≤ x ∧ x ≤ 8) ∧ cntU l l.length
instance (l : List Int) (n : Nat) : Decidable (cntU l n) := by unfold cntU; infer_instance
instance (l : List Int) : Decidable (cntP l) := by unfold cntP; infer_instance
theorem cntU_zero (l : List Int) : cntU l 0 := fun j h => by omega
theorem cntU_one (l : List Int) : cntU l 1 := fun j h h0 => by omega
theorem cntV_zero (l : List Int) : cntV l 0 := fun j h => by omega
theorem cntU_succ {l : List Int} {n : Nat} (h : cntU l n) (h1 : 0 < n → at_ 0 l ((n : Int) - 1) < at_ 0 l (n : Int)) : cntU l (n + 1) := fun j hj h0 => by
  by_cases e : j = n
  · subst e; exact h1 h0
  · exact h j (by omega) h0
theorem cntV_succ {l : List Int} {n : Nat} (h : cntV l n) (h1 : 0 ≤ at_ 0 l (n : Int) ∧ at_ 0 l (n : Int) ≤ 8) : cntV l (n + 1) := fun j hj => by
  by_cases e : j = n
  · subst e; exact h1
  · exact h j (by omega)
theorem cntV_all {l : List Int} {n : Nat} (h : cntV l n) (hn : l.length ≤ n) : ∀ x ∈ l, 0 ≤ x ∧ x ≤ 8 := fun x hx => by
  obtain ⟨j, hj, rfl⟩ := List.mem_iff_getElem.mp hx
  have := h j (by omega)
  rw [at_eq 0 l hj] at this
  exact this
theorem cntP_in {l : List Int} (h : cntP l) {j : Nat} (hj : j < l.length) : 0 ≤ at_ 0 l (j : Int) ∧ at_ 0 l (j : Int) ≤ 8 := h.1 _ (at_mem 0 l (by omega) (by omega))
theorem cntP_up {l : List Int} (h : cntP l) {j : Nat} (hj : j < l.length) (h0 : 0 < j) : at_ 0 l ((j : Int) - 1) < at_ 0 l (j : Int) := h.2 j hj h0
theorem cntU_full {l : List Int} {n : Nat} (h : cntU l n) (hn : l.length ≤ n) : cntU l l.length := fun j hj h0 => h j (by omega) h0
/-- Is a life valid? -/
def lifP (b s : List Int) : Prop := cntP b ∧ cntP s
instance (b s : List Int) : Decidable (lifP b s) := by unfold lifP; infer_instance
/-- Can a field live? -/
def canP (b s : List Int) (r c : Int) (l : List Int) : Prop := lifP b s ∧ fieldN 1 r c l
instance (b s : List Int) (r c : Int) (l : List Int) : Decidable (canP b s r c l) := by unfold canP; infer_instance
def sumF (f : Int → Int) : Nat → Int
  | 0 => 0
  | n + 1 => sumF f n + f n
theorem sumF_zero (f : Int → Int) : sumF f 0 = 0 := rfl
theorem sumF_succ (f : Int → Int) (n : Nat) : sumF f (n + 1) = sumF f n + f n := rfl
theorem sumF_3 (f : Int → Int) : sumF f 3 = f 0 + f 1 + f 2 := by
  show 0 + f ((0 : Nat) : Int) + f ((1 : Nat) : Int) + f ((2 : Nat) : Int) = _
  simp
theorem sumF_bnd {f : Int → Int} {a b : Int} (h : ∀ i, a ≤ f i ∧ f i ≤ b) : ∀ n : Nat, (n : Int) * a ≤ sumF f n ∧ sumF f n ≤ (n : Int) * b
  | 0 => by simp [sumF]
  | n + 1 => by
    have h1 := sumF_bnd h n
    have h2 := h n
    simp only [sumF, Int.natCast_add, Int.add_mul]
    omega
/-- A cell, round and round, or 0 beyond the border. -/
def lkF (rnd : Bool) (r c : Int) (l : List Int) (i k : Int) : Int := if rnd then at_ 0 l (roundF r c i k) else flatF r c l i k
/-- The same, but 0 for one cell. -/
def skF (rnd : Bool) (r c : Int) (l : List Int) (i k a b : Int) : Int := if a = i ∧ b = k then 0 else lkF rnd r c l a b
/-- The neighbours of a cell that are 1. -/
def arF (rnd : Bool) (r c : Int) (l : List Int) (i k : Int) : Int := sumF (fun a => sumF (fun b => skF rnd r c l i k (i - 1 + a) (k - 1 + b)) 3) 3
theorem roundF_in {r c i k : Int} (h1 : 0 ≤ i) (h2 : i < r) (h3 : 0 ≤ k) (h4 : k < c) : roundF r c i k = i * c + k := by
  unfold roundF
  rw [Int.emod_eq_of_lt h1 h2, Int.emod_eq_of_lt h3 h4]
theorem lkF_in {rnd : Bool} {r c i k : Int} {l : List Int} (h1 : 0 ≤ i) (h2 : i < r) (h3 : 0 ≤ k) (h4 : k < c) : lkF rnd r c l i k = at_ 0 l (i * c + k) := by
  unfold lkF
  rw [roundF_in h1 h2 h3 h4]
  split
  · rfl
  · unfold flatF; rw [if_pos (by omega)]
theorem lkF_01 {rnd : Bool} {r c : Int} {l : List Int} (h : fieldN 1 r c l) (i k : Int) : 0 ≤ lkF rnd r c l i k ∧ lkF rnd r c l i k ≤ 1 := by
  unfold lkF
  split
  · have b := roundF_lt (i := i) (k := k) h.1
    exact fieldN_at h (by omega) (by omega)
  · unfold flatF
    split
    · rename_i h1
      have b := ix_lt (a := i) (b := k) (r := r) (c := c) (by omega) (by omega) (by omega) (by omega)
      exact fieldN_at h (by omega) (by omega)
    · omega
theorem skF_01 {rnd : Bool} {r c : Int} {l : List Int} (h : fieldN 1 r c l) (i k a b : Int) : 0 ≤ skF rnd r c l i k a b ∧ skF rnd r c l i k a b ≤ 1 := by
  unfold skF
  split
  · omega
  · exact lkF_01 h a b
theorem skF_eq {rnd : Bool} {r c : Int} {l : List Int} {i k a b : Int} : skF rnd r c l i k a b = if a = i ∧ b = k then 0 else if rnd = true ∨ ((0 ≤ a ∧ a ≤ r - 1) ∧ 0 ≤ b ∧ b ≤ c - 1) then at_ 0 l (roundF r c a b) else 0 := by
  unfold skF lkF flatF
  split
  · rfl
  · cases rnd with
    | true => simp
    | false =>
      simp only [Bool.false_eq_true, if_false, false_or]
      split
      · rename_i h; rw [roundF_in (by omega) (by omega) (by omega) (by omega)]
      · rfl
theorem arF_eq {rnd : Bool} {r c : Int} {l : List Int} {i k : Int} (h1 : 0 ≤ i) (h2 : i < r) (h3 : 0 ≤ k) (h4 : k < c) :
    -at_ 0 l (i * c + k) + sumF (fun a => sumF (fun b => lkF rnd r c l (i - 1 + a) (k - 1 + b)) 3) 3 = arF rnd r c l i k := by
  have e := lkF_in (rnd := rnd) (l := l) h1 h2 h3 h4
  unfold arF
  simp only [sumF_3, skF]
  rw [if_neg (by omega), if_neg (by omega), if_neg (by omega), if_neg (by omega), if_pos (by omega), if_neg (by omega), if_neg (by omega), if_neg (by omega), if_neg (by omega)]
  rw [show i - 1 + 1 = i by omega, show k - 1 + 1 = k by omega, e]
  omega
/-- What a cell becomes. -/
def nxG (rnd : Bool) (b s : List Int) (r c : Int) (l : List Int) (i k : Int) : Int :=
  if at_ 0 l (i * c + k) = 0 then (if arF rnd r c l i k ∈ b then 1 else 0) else (if arF rnd r c l i k ∈ s then 1 else 0)
section
variable {rnd : Bool} {b s : List Int} {r c i k : Int} {l : List Int}
theorem nx_b1 (h : at_ 0 l (i * c + k) = 0) (h2 : arF rnd r c l i k ∈ b) : nxG rnd b s r c l i k = 1 := by unfold nxG; rw [if_pos h, if_pos h2]
theorem nx_b0 (h : at_ 0 l (i * c + k) = 0) (h2 : arF rnd r c l i k ∉ b) : nxG rnd b s r c l i k = 0 := by unfold nxG; rw [if_pos h, if_neg h2]
theorem nx_s1 (h : at_ 0 l (i * c + k) = 1) (h2 : arF rnd r c l i k ∈ s) : nxG rnd b s r c l i k = 1 := by unfold nxG; rw [if_neg (by omega), if_pos h2]
theorem nx_s0 (h : at_ 0 l (i * c + k) = 1) (h2 : arF rnd r c l i k ∉ s) : nxG rnd b s r c l i k = 0 := by unfold nxG; rw [if_neg (by omega), if_neg h2]
end
/-- The next field. -/
def nxL (rnd : Bool) (b s : List Int) (r c : Int) (l : List Int) : List Int := mkL c (nxG rnd b s r c l) (r.toNat * c.toNat)
theorem nxG_01 (rnd : Bool) (b s : List Int) (r c : Int) (l : List Int) (i k : Int) : 0 ≤ nxG rnd b s r c l i k ∧ nxG rnd b s r c l i k ≤ 1 := by
  unfold nxG
  split <;> split <;> omega
theorem mkL_len' {c : Int} {g : Int → Int → Int} {rr cc : Int} (h1 : 0 ≤ rr) (h2 : 0 ≤ cc) : ((mkL c g (rr.toNat * cc.toNat)).length : Int) = rr * cc := by
  rw [mkL_length, Int.natCast_mul, Int.toNat_of_nonneg h1, Int.toNat_of_nonneg h2]
theorem mkL_field {n r c : Int} {g : Int → Int → Int} (h : sidesF r c) (hg : ∀ i k, 0 ≤ g i k ∧ g i k ≤ n) : fieldN n r c (mkL c g (r.toNat * c.toNat)) := by
  have q1 := h.1
  have q2 := h.2
  refine ⟨h, mkL_len' (by omega) (by omega), fun x hx => ?_⟩
  simp only [mkL, List.mem_map] at hx
  obtain ⟨j, _, rfl⟩ := hx
  exact hg _ _
theorem nxL_field {rnd : Bool} {b s : List Int} {r c : Int} {l : List Int} (h : sidesF r c) : fieldN 1 r c (nxL rnd b s r c l) := mkL_field h (nxG_01 rnd b s r c l)
/-- The field behind steps. -/
def rnL (rnd : Bool) (b s : List Int) (r c : Int) (l : List Int) : Nat → List Int
  | 0 => l
  | n + 1 => nxL rnd b s r c (rnL rnd b s r c l n)
theorem rnL_zero (rnd : Bool) (b s : List Int) (r c : Int) (l : List Int) : rnL rnd b s r c l 0 = l := rfl
theorem rnL_succ (rnd : Bool) (b s : List Int) (r c : Int) (l : List Int) (n : Nat) : rnL rnd b s r c l (n + 1) = nxL rnd b s r c (rnL rnd b s r c l n) := rfl
theorem rnL_field {rnd : Bool} {b s : List Int} {r c : Int} {l : List Int} (h : fieldN 1 r c l) : ∀ n, fieldN 1 r c (rnL rnd b s r c l n)
  | 0 => h
  | _ + 1 => nxL_field h.1
theorem fillL_skip {c : Int} {g : Int → Int → Int} {N : Nat} {i k : Int} {t : Nat} (hc : 0 < c) (k0 : 0 ≤ k) (k1 : k < c) (ht : (t : Int) = i * c + k) (h : g i k = 0) : fillL c g N t = fillL c g N (t + 1) := by
  have hd := divmod (c := c) (i := i) (k := k) hc k0 k1
  unfold fillL
  apply List.map_congr_left
  intro j _
  by_cases e : j = t
  · subst e
    rw [if_neg (by omega), if_pos (by omega), ht, hd.1, hd.2, h]
  · by_cases h1 : j < t
    · rw [if_pos h1, if_pos (by omega)]
    · rw [if_neg h1, if_neg (by omega)]
theorem notin_succ {x : Int} {l : List Int} {i : Nat} (h : x ∉ l.take i) (hi : i < l.length) (hne : ¬ at_ 0 l (i : Int) = x) : x ∉ l.take (i + 1) := by
  rw [take_at 0 l hi]
  intro hh
  rcases List.mem_append.mp hh with hh | hh
  · exact h hh
  · simp only [List.mem_singleton] at hh; exact hne hh.symm
/-- Where a number stands first, or -1. -/
def idxL (x : Int) (l : List Int) : Int := if x ∈ l then (l.findIdx (· == x) : Nat) else -1
theorem idxL_not {x : Int} {l : List Int} (h : x ∉ l) : idxL x l = -1 := if_neg h
theorem idxL_mem {x : Int} {l : List Int} : 0 ≤ idxL x l ↔ x ∈ l := by
  unfold idxL
  split
  · rename_i h; simp [h]
  · rename_i h; simp [h]
theorem idxL_at {x : Int} {l : List Int} {i : Nat} (h : x ∉ l.take i) (hi : i < l.length) (he : at_ 0 l (i : Int) = x) : idxL x l = (i : Int) := by
  rw [at_eq 0 l hi] at he
  unfold idxL
  rw [if_pos (he ▸ List.getElem_mem hi)]
  congr 1
  rw [List.findIdx_eq hi]
  refine ⟨by simp [he], fun j hj => ?_⟩
  simp only [beq_eq_false_iff_ne, ne_eq]
  intro hh
  exact h (List.mem_iff_getElem.mpr ⟨j, by simp; omega, by simp [hh]⟩)
/-- How many cells have a state. -/
def cntE (v : Int) (l : List Int) : Int := l.countP (· == v)
def sumL : List Int → Int
  | [] => 0
  | x :: r => x + sumL r
theorem sumL_append (a b : List Int) : sumL (a ++ b) = sumL a + sumL b := by
  induction a with
  | nil => simp [sumL]
  | cons x r ih => simp only [List.cons_append, sumL, ih]; omega
theorem cntE_take {v : Int} {l : List Int} {i : Nat} (h : i < l.length) : cntE v (l.take (i + 1)) = cntE v (l.take i) + (if at_ 0 l (i : Int) = v then 1 else 0) := by
  unfold cntE
  rw [take_at 0 l h, List.countP_append]
  simp only [List.countP_cons, List.countP_nil, beq_iff_eq, Nat.zero_add]
  split <;> simp
theorem sumL_take {l : List Int} {i : Nat} (h : i < l.length) : sumL (l.take (i + 1)) = sumL (l.take i) + at_ 0 l (i : Int) := by
  rw [take_at 0 l h, sumL_append]; simp [sumL]
theorem cntE_one : ∀ {l : List Int}, (∀ x ∈ l, 0 ≤ x ∧ x ≤ 1) → cntE 1 l = sumL l
  | [], _ => rfl
  | x :: r, h => by
    have h1 := h x (by simp)
    have ih := cntE_one (l := r) (fun y hy => h y (by simp [hy]))
    unfold cntE at ih ⊢
    simp only [sumL, List.countP_cons, Int.natCast_add, beq_iff_eq]
    split
    · simp; omega
    · simp; omega
theorem cntE_bnd (v : Int) (l : List Int) : 0 ≤ cntE v l ∧ cntE v l ≤ l.length := by
  unfold cntE
  have := List.countP_le_length (p := (· == v)) (l := l)
  omega
theorem sumL_bnd {l : List Int} {m : Int} (h : ∀ x ∈ l, 0 ≤ x ∧ x ≤ m) : 0 ≤ sumL l ∧ sumL l ≤ l.length * m := by
  induction l with
  | nil => simp [sumL]
  | cons x r ih =>
    have h1 := h x (by simp)
    have h2 := ih (fun y hy => h y (by simp [hy]))
    simp only [sumL, List.length_cons, Int.natCast_add, Int.add_mul]
    omega
end Go.Proofs.YtialllbbbpmkbaaDoor
/- What is found first; counts ahead; shifted fields. -/
namespace Go.Proofs.YtialllbbbpmkbaaDoor
open HL
/-- The first number below N of which something holds, or -1. -/
def fstN (p : Nat → Prop) [DecidablePred p] : Nat → Int
  | 0 => -1
  | n + 1 => if 0 ≤ fstN p n then fstN p n else if p n then (n : Int) else -1
theorem fstN_none {p : Nat → Prop} [DecidablePred p] : ∀ {N : Nat}, (∀ t, t < N → ¬ p t) → fstN p N = -1
  | 0, _ => rfl
  | n + 1, h => by
    have ih := fstN_none (p := p) (N := n) (fun t ht => h t (by omega))
    simp only [fstN, ih]
    rw [if_neg (by omega), if_neg (h n (by omega))]
theorem fstN_at {p : Nat → Prop} [DecidablePred p] {t : Nat} (hp : p t) (h : ∀ s, s < t → ¬ p s) : ∀ {N : Nat}, t < N → fstN p N = (t : Int)
  | 0, ht => by omega
  | n + 1, ht => by
    by_cases e : t = n
    · subst e
      simp only [fstN, fstN_none h]
      rw [if_neg (by omega), if_pos hp]
    · have ih := fstN_at hp h (N := n) (by omega)
      simp only [fstN, ih]
      rw [if_pos (by omega)]
theorem fstN_lt {p : Nat → Prop} [DecidablePred p] : ∀ {N : Nat}, fstN p N < N ∧ -1 ≤ fstN p N
  | 0 => by simp [fstN]
  | n + 1 => by
    have ih := fstN_lt (p := p) (N := n)
    simp only [fstN]
    split
    · omega
    · split <;> omega
/-- The counts behind each of some steps. -/
def caL (rnd : Bool) (b s : List Int) (r c : Int) (l : List Int) (n : Nat) : List Int := (List.range (n + 1)).map fun j => cntE 1 (rnL rnd b s r c l j)
theorem caL_succ (rnd : Bool) (b s : List Int) (r c : Int) (l : List Int) (n : Nat) : caL rnd b s r c l n ++ [cntE 1 (nxL rnd b s r c (rnL rnd b s r c l n))] = caL rnd b s r c l (n + 1) := by
  unfold caL
  rw [List.range_succ (n := n + 1), List.map_append]; rfl
theorem caL_len (rnd : Bool) (b s : List Int) (r c : Int) (l : List Int) (n : Nat) : (caL rnd b s r c l n).length = n + 1 := by simp [caL]
theorem field_01 {r c : Int} {l : List Int} (h : fieldN 1 r c l) : ∀ x ∈ l, 0 ≤ x ∧ x ≤ 1 := h.2.2
/-- A shifted field. -/
def shG (r c : Int) (l : List Int) (a b i k : Int) : Int := at_ 0 l (roundF r c (i - a) (k - b))
def shL (r c : Int) (l : List Int) (a b : Int) : List Int := mkL c (shG r c l a b) (r.toNat * c.toNat)
/-- A place of a shift: steps, rows and columns in one number. -/
def mvP (b s : List Int) (r c : Int) (l : List Int) (t : Nat) : Prop :=
  cntE 1 (rnL true b s r c l (t / c.toNat / r.toNat + 1)) = cntE 1 l ∧ rnL true b s r c l (t / c.toNat / r.toNat + 1) = shL r c l ((t / c.toNat % r.toNat : Nat) : Int) ((t % c.toNat : Nat) : Int)
instance (b s : List Int) (r c : Int) (l : List Int) : DecidablePred (mvP b s r c l) := fun t => by unfold mvP; infer_instance
theorem tri {n i k r c : Nat} (hi : i < r) (hk : k < c) : ((n * r + i) * c + k) / c / r = n ∧ ((n * r + i) * c + k) / c % r = i ∧ ((n * r + i) * c + k) % c = k := by
  have h1 : ((n * r + i) * c + k) / c = n * r + i := by rw [Nat.add_comm, Nat.add_mul_div_right _ _ (by omega), Nat.div_eq_of_lt hk]; omega
  have h2 : ((n * r + i) * c + k) % c = k := by rw [Nat.add_comm, Nat.add_mul_mod_self_right, Nat.mod_eq_of_lt hk]
  rw [h1, h2]
  refine ⟨?_, ?_, rfl⟩
  · rw [Nat.add_comm, Nat.add_mul_div_right _ _ (by omega), Nat.div_eq_of_lt hi]; omega
  · rw [Nat.add_comm, Nat.add_mul_mod_self_right, Nat.mod_eq_of_lt hi]
/-- Where a field is shifted first, steps, rows and columns in one number. -/
def mvF (b s : List Int) (r c : Int) (l : List Int) (st : Int) : Int := fstN (mvP b s r c l) (st.toNat * r.toNat * c.toNat)
def mvT (b s : List Int) (r c : Int) (l : List Int) (st : Int) : Nat := (mvF b s r c l st).toNat
def mvOk (b s : List Int) (r c : Int) (l : List Int) (st : Int) : Prop := canP b s r c l ∧ (1 ≤ st ∧ st ≤ 512) ∧ 0 ≤ mvF b s r c l st
instance (b s : List Int) (r c : Int) (l : List Int) (st : Int) : Decidable (mvOk b s r c l st) := by unfold mvOk; infer_instance
section
variable {b s : List Int} {r c st : Int} {l : List Int} {n i k : Nat}
theorem mv_hit {t : Nat} (h1 : canP b s r c l) (h2 : 1 ≤ st ∧ st ≤ 512) (hp : mvP b s r c l t) (h : ∀ s', s' < t → ¬ mvP b s r c l s') (ht : t < st.toNat * r.toNat * c.toNat) : mvOk b s r c l st ∧ mvT b s r c l st = t := by
  have e : mvF b s r c l st = (t : Int) := fstN_at hp h ht
  refine ⟨⟨h1, h2, by omega⟩, ?_⟩
  unfold mvT; omega
theorem mv_none (h : ∀ t, t < st.toNat * r.toNat * c.toNat → ¬ mvP b s r c l t) : ¬ mvOk b s r c l st := fun hh => by
  have := hh.2.2
  unfold mvF at this
  rw [fstN_none h] at this
  omega
theorem mv_skip (hne : ¬ cntE 1 (rnL true b s r c l (n + 1)) = cntE 1 l) (h : ∀ t, t < (n * r.toNat + i) * c.toNat → ¬ mvP b s r c l t) : ∀ t, t < (n + 1) * r.toNat * c.toNat → ¬ mvP b s r c l t := fun t ht hp => by
  by_cases h1 : t < (n * r.toNat + i) * c.toNat
  · exact h t h1 hp
  · have e : t / c.toNat / r.toNat = n := by
      rw [Nat.div_div_eq_div_mul, Nat.div_eq_iff (by
        rcases Nat.eq_zero_or_pos (c.toNat * r.toNat) with h0 | h0
        · rw [Nat.mul_assoc, Nat.mul_comm r.toNat, h0] at ht; omega
        · exact h0)]
      have h3 : n * r.toNat * c.toNat ≤ t := by
        rw [Nat.add_mul] at h1; omega
      have h4 : n * (c.toNat * r.toNat) = n * r.toNat * c.toNat := by rw [Nat.mul_comm c.toNat, Nat.mul_assoc]
      have h5 : (n + 1) * r.toNat * c.toNat = n * r.toNat * c.toNat + c.toNat * r.toNat := by rw [Nat.add_mul, Nat.add_mul, Nat.one_mul, Nat.mul_comm r.toNat]
      omega
    have := hp.1
    rw [e] at this
    exact hne this
theorem mv_next (hi : i < r.toNat) (hk : k < c.toNat) (h : ∀ t, t < (n * r.toNat + i) * c.toNat + k → ¬ mvP b s r c l t) (hq : ¬ rnL true b s r c l (n + 1) = shL r c l (i : Int) (k : Int)) : ∀ t, t < (n * r.toNat + i) * c.toNat + (k + 1) → ¬ mvP b s r c l t := fun t ht hp => by
  by_cases e : t = (n * r.toNat + i) * c.toNat + k
  · have q := tri (n := n) hi hk
    rw [← e] at q
    have h2 := hp.2
    rw [q.1, q.2.1, q.2.2] at h2
    exact hq h2
  · exact h t (by omega) hp
theorem mv_is (hi : i < r.toNat) (hk : k < c.toNat) (h1 : cntE 1 (rnL true b s r c l (n + 1)) = cntE 1 l) (h2 : rnL true b s r c l (n + 1) = shL r c l (i : Int) (k : Int)) : mvP b s r c l ((n * r.toNat + i) * c.toNat + k) := by
  have q := tri (n := n) hi hk
  unfold mvP
  rw [q.1, q.2.1, q.2.2]
  exact ⟨h1, h2⟩
theorem mv_row (hk : k = c.toNat) (h : ∀ t, t < (n * r.toNat + i) * c.toNat + k → ¬ mvP b s r c l t) : ∀ t, t < (n * r.toNat + (i + 1)) * c.toNat → ¬ mvP b s r c l t := fun t ht => h t (by subst hk; rw [← Nat.add_assoc, Nat.add_mul _ 1] at ht; omega)
theorem mv_round (hi : i = r.toNat) (h : ∀ t, t < (n * r.toNat + i) * c.toNat → ¬ mvP b s r c l t) : ∀ t, t < (n + 1) * r.toNat * c.toNat → ¬ mvP b s r c l t := fun t ht => h t (by subst hi; rw [Nat.add_mul n 1, Nat.one_mul] at ht; exact ht)
theorem mv_lt (hn : n < st.toNat) (hi : i < r.toNat) (hk : k < c.toNat) : (n * r.toNat + i) * c.toNat + k < st.toNat * r.toNat * c.toNat := by
  have h1 : (n * r.toNat + i + 1) ≤ st.toNat * r.toNat := by
    have := Nat.mul_le_mul_right r.toNat (show n + 1 ≤ st.toNat by omega)
    rw [Nat.add_mul] at this; omega
  have h2 := Nat.mul_le_mul_right c.toNat h1
  rw [Nat.add_mul _ 1] at h2; omega
end
/-- A plain square of 4, 8 or 16 rows. -/
def sqP (r c : Int) (l : List Int) : Prop := fieldN 1 r c l ∧ r = c ∧ (r = 4 ∨ r = 8 ∨ r = 16)
instance (r c : Int) (l : List Int) : Decidable (sqP r c l) := by unfold sqP; infer_instance
/-- The inner part behind a step. -/
def inL (b s : List Int) (r c : Int) (l : List Int) : List Int := mkL (c - 2) (cutG c (nxL false b s r c l) 1 1) ((r - 2).toNat * (c - 2).toNat)
def inP (b s : List Int) (r c : Int) (l : List Int) : Prop := lifP b s ∧ sqP r c l
instance (b s : List Int) (r c : Int) (l : List Int) : Decidable (inP b s r c l) := by unfold inP; infer_instance
theorem inL_len {b s : List Int} {r c : Int} {l : List Int} (h : inP b s r c l) : (inL b s r c l).length ≤ 576 := by
  obtain ⟨_, ⟨⟨h1, _⟩, _⟩⟩ := h
  unfold inL
  rw [mkL_length]
  have q1 := h1.1
  have q2 := h1.2
  have := Nat.mul_le_mul (show (r - 2).toNat ≤ 24 by omega) (show (c - 2).toNat ≤ 24 by omega)
  omega
theorem inPL {b s : List Int} {r c : Int} {l : List Int} : (selL (inP b s r c l) (inL b s r c l)).length ≤ 576 := selL_len inL_len
theorem shL_len {r c a b : Int} {l : List Int} (h : sidesF r c) : ((shL r c l a b).length : Int) = r * c := by
  have q1 := h.1
  have q2 := h.2
  exact mkL_len' (by omega) (by omega)
end Go.Proofs.YtialllbbbpmkbaaDoor
/- Digits of numbers, and all plain fields of few cells. -/
namespace Go.Proofs.YtialllbbbpmkbaaDoor
open HL
theorem HL.Cel.cast {H : Hp} {p : Value} {cs cs' : List Value} (e : cs = cs') (h : Cel H p cs) : Cel H p cs' := e ▸ h
theorem HL.vInt_shl1 {k : IntKind} {n : Int} (h0 : 0 ≤ n) (h1 : n ≤ 62) : vInt .shl (.int .i64 1) (.int k n) = some (.int .i64 ((2 ^ n.toNat : Nat) : Int)) := by
  simp only [vInt, if_pos h0, Int.one_mul]
  have h2 : min n.toNat IntKind.i64.bits = n.toNat := by
    have : IntKind.i64.bits = 64 := rfl
    omega
  have h3 : (2 : Nat) ^ n.toNat ≤ 2 ^ 62 := Nat.pow_le_pow_right (by omega) (by omega)
  have e : (2 : Int) ^ n.toNat = ((2 ^ n.toNat : Nat) : Int) := by rw [Int.natCast_pow]; rfl
  have h4 : ((2 ^ n.toNat : Nat) : Int) ≤ ((2 ^ 62 : Nat) : Int) := Int.ofNat_le.mpr h3
  have h5 : (0 : Int) ≤ ((2 ^ n.toNat : Nat) : Int) := Int.natCast_nonneg _
  have h6 : ((2 ^ 62 : Nat) : Int) = 4611686018427387904 := by decide
  rw [h2, e, wrap64 (Int.le_trans (by decide) h5) (Int.lt_of_le_of_lt h4 (by rw [h6]; decide))]
/-- A power of 2. -/
def pw (n : Int) : Nat := 2 ^ n.toNat
theorem pw_le {n : Int} (h : n ≤ 12) : pw n ≤ 4096 := Nat.pow_le_pow_right (by omega) (show n.toNat ≤ 12 by omega)
theorem pw_pos (n : Int) : 0 < pw n := Nat.pow_pos (by omega)
/-- The digits of a number, the greatest one first; and the last t of them. -/
def dgL (b x : Int) (N : Nat) : List Int := (List.range N).map fun j => x / b ^ (N - 1 - j) % b
def dgF (b x : Int) (N t : Nat) : List Int := (List.range N).map fun j => if N - t ≤ j then x / b ^ (N - 1 - j) % b else 0
theorem dgL_len (b x : Int) (N : Nat) : (dgL b x N).length = N := by simp [dgL]
theorem dgF_len (b x : Int) (N t : Nat) : (dgF b x N t).length = N := by simp [dgF]
theorem dgF_zero (b x : Int) (N : Nat) : dgF b x N 0 = List.replicate N 0 := by
  rw [List.eq_replicate_iff]
  refine ⟨dgF_len b x N 0, fun y hy => ?_⟩
  simp only [dgF, List.mem_map, List.mem_range] at hy
  obtain ⟨j, hj, rfl⟩ := hy
  rw [if_neg (by omega)]
theorem dgF_full (b x : Int) (N : Nat) : dgF b x N N = dgL b x N := by
  unfold dgF dgL
  apply List.map_congr_left
  intro j _
  rw [if_pos (by omega)]
theorem dgF_set {b x : Int} {N t : Nat} (h : t < N) {i : Int} (hi : i = (N : Int) - 1 - t) : (dgF b x N t).set i.toNat (x / b ^ t % b) = dgF b x N (t + 1) := by
  have e : i.toNat = N - 1 - t := by omega
  rw [e]
  apply List.ext_getElem?
  intro j
  rw [List.getElem?_set]
  simp only [dgF, List.getElem?_map, List.length_map, List.length_range]
  by_cases hj : j < N
  · rw [List.getElem?_range hj]
    simp only [Option.map_some]
    by_cases h1 : N - 1 - t = j
    · rw [if_pos h1, if_pos (by omega), if_pos (by omega), show N - 1 - j = t by omega]
    · rw [if_neg h1]
      by_cases h2 : N - t ≤ j
      · rw [if_pos h2, if_pos (by omega)]
      · rw [if_neg h2, if_neg (by omega)]
  · rw [List.getElem?_eq_none (by simpa using hj)]
    simp only [Option.map_none]
    split
    · rw [if_neg (by omega)]
    · rfl
theorem dg_div {b x : Int} {t : Nat} (hb : 0 < b) : x / b ^ t / b = x / b ^ (t + 1) := by
  rw [Int.pow_succ, Int.ediv_ediv_of_nonneg (Int.le_of_lt (Int.pow_pos hb))]
theorem dg_bnd {b x : Int} {t : Nat} (hb : 0 < b) (hx : 0 ≤ x) : 0 ≤ x / b ^ t ∧ x / b ^ t ≤ x := by
  have hp : 0 < b ^ t := Int.pow_pos hb
  exact ⟨Int.ediv_nonneg hx (by omega), Int.ediv_le_self _ hx⟩
theorem dg_one {b x : Int} : x / b ^ 0 = x := by rw [Int.pow_zero, Int.ediv_one]
theorem dgL_mem {b x : Int} {N : Nat} (hb : 0 < b) : ∀ y ∈ dgL b x N, 0 ≤ y ∧ y ≤ b - 1 := fun y hy => by
  simp only [dgL, List.mem_map, List.mem_range] at hy
  obtain ⟨j, _, rfl⟩ := hy
  have h1 := Int.emod_nonneg (x / b ^ (N - 1 - j)) (b := b) (by omega)
  have h2 := Int.emod_lt_of_pos (x / b ^ (N - 1 - j)) hb
  omega
/-- Few cells. -/
def smP (r c : Int) : Prop := sidesF r c ∧ r * c ≤ 12
instance (r c : Int) : Decidable (smP r c) := by unfold smP; infer_instance
theorem dgL_field {r c x : Int} (h : sidesF r c) : fieldN 1 r c (dgL 2 x (r * c).toNat) := by
  have := sidesF_mul h
  exact ⟨h, by rw [dgL_len]; omega, fun y hy => by have := dgL_mem (b := 2) (by omega) y hy; omega⟩
/-- How many numbers below n have something. -/
def cnN (p : Nat → Prop) [DecidablePred p] : Nat → Int
  | 0 => 0
  | n + 1 => cnN p n + (if p n then 1 else 0)
theorem cnN_zero (p : Nat → Prop) [DecidablePred p] : cnN p 0 = 0 := rfl
theorem cnN_yes {p : Nat → Prop} [DecidablePred p] {n : Nat} (h : p n) : cnN p (n + 1) = cnN p n + 1 := by simp [cnN, h]
theorem cnN_no {p : Nat → Prop} [DecidablePred p] {n : Nat} (h : ¬ p n) : cnN p (n + 1) = cnN p n := by simp [cnN, h]
theorem cnN_bnd (p : Nat → Prop) [DecidablePred p] : ∀ n, 0 ≤ cnN p n ∧ cnN p n ≤ n
  | 0 => by simp [cnN]
  | n + 1 => by
    have := cnN_bnd p n
    simp only [cnN]
    split <;> omega
def stillP (b s : List Int) (r c : Int) (t : Nat) : Prop := nxL false b s r c (dgL 2 t (r * c).toNat) = dgL 2 t (r * c).toNat
instance (b s : List Int) (r c : Int) : DecidablePred (stillP b s r c) := fun t => by unfold stillP; infer_instance
def befP (b s : List Int) (r c : Int) (l : List Int) (t : Nat) : Prop := nxL false b s r c (dgL 2 t (r * c).toNat) = l
instance (b s : List Int) (r c : Int) (l : List Int) : DecidablePred (befP b s r c l) := fun t => by unfold befP; infer_instance
def stlP (b s : List Int) (r c : Int) : Prop := lifP b s ∧ smP r c
instance (b s : List Int) (r c : Int) : Decidable (stlP b s r c) := by unfold stlP; infer_instance
def cbfP (b s : List Int) (r c : Int) (l : List Int) : Prop := canP b s r c l ∧ smP r c
instance (b s : List Int) (r c : Int) (l : List Int) : Decidable (cbfP b s r c l) := by unfold cbfP; infer_instance
theorem fst_keep {p : Nat → Prop} [DecidablePred p] {t : Nat} (h : 0 ≤ fstN p t) : fstN p (t + 1) = fstN p t := by simp only [fstN]; rw [if_pos h]
theorem fst_skip {p : Nat → Prop} [DecidablePred p] {t : Nat} (h : ¬ p t) : fstN p (t + 1) = fstN p t := by
  by_cases h0 : 0 ≤ fstN p t
  · exact fst_keep h0
  · show (if 0 ≤ fstN p t then fstN p t else if p t then (t : Int) else -1) = _
    rw [if_neg h0, if_neg h]
    have := fstN_lt (p := p) (N := t)
    omega
theorem fst_hit {p : Nat → Prop} [DecidablePred p] {t : Nat} (h : ¬ 0 ≤ fstN p t) (hp : p t) : fstN p (t + 1) = (t : Int) := by simp only [fstN]; rw [if_neg h, if_pos hp]
theorem HL.selI_iff {p q : Prop} [Decidable p] [Decidable q] {x : Int} (h : p ↔ q) : selI p x = selI q x := by unfold selI; simp [h]
theorem HL.selL_iff {α : Type} {p q : Prop} [Decidable p] [Decidable q] {l : List α} (h : p ↔ q) : selL p l = selL q l := by unfold selL; simp [h]
/-- The first field that leads to one. -/
def fbF (b s : List Int) (r c : Int) (l : List Int) : Int := fstN (befP b s r c l) (pw (r * c))
def fbP (b s : List Int) (r c : Int) (l : List Int) : Prop := cbfP b s r c l ∧ 0 ≤ fbF b s r c l
instance (b s : List Int) (r c : Int) (l : List Int) : Decidable (fbP b s r c l) := by unfold fbP; infer_instance
theorem fbP_len {b s : List Int} {r c : Int} {l : List Int} : (selL (fbP b s r c l) (dgL 2 (fbF b s r c l) (r * c).toNat)).length ≤ 576 := selL_len fun h => by rw [dgL_len]; have := h.1.2.2; omega
end Go.Proofs.YtialllbbbpmkbaaDoor
/- Two fields put together: the program's and the reference's. -/
namespace Go.Proofs.YtialllbbbpmkbaaDoor
open HL
set_option maxRecDepth 100000
theorem mkL_congr {c : Int} {f g : Int → Int → Int} {N : Nat} (hc : 0 < c) (h : ∀ x y, 0 ≤ x → 0 ≤ y → y < c → x * c + y < N → f x y = g x y) : mkL c f N = mkL c g N := by
  unfold mkL
  apply List.map_congr_left
  intro j hj
  have := List.mem_range.mp hj
  have d := Int.mul_ediv_add_emod (j : Int) c
  rw [Int.mul_comm] at d
  exact h _ _ (Int.ediv_nonneg (by omega) (by omega)) (Int.emod_nonneg _ (by omega)) (Int.emod_lt_of_pos _ hc) (by omega)
theorem mkL_set {c : Int} {f : Int → Int → Int} {N : Nat} {i k v : Int} (hc : 0 < c) (k0 : 0 ≤ k) (k1 : k < c) (h : 0 ≤ i * c) : (mkL c f N).set (i * c + k).toNat v = mkL c (fun x y => if x = i ∧ y = k then v else f x y) N := by
  have hd := divmod (c := c) (i := i) (k := k) hc k0 k1
  apply List.ext_getElem?
  intro j
  rw [List.getElem?_set]
  simp only [mkL, List.getElem?_map, List.length_map, List.length_range]
  by_cases hj : j < N
  · rw [List.getElem?_range hj]
    simp only [Option.map_some]
    by_cases e : (i * c + k).toNat = j
    · rw [if_pos e, if_pos (by omega), if_pos]
      have ej : (j : Int) = i * c + k := by omega
      rw [ej]; exact hd
    · rw [if_neg e, if_neg]
      rintro ⟨h1, h2⟩
      have d := Int.mul_ediv_add_emod (j : Int) c
      rw [h1, h2, Int.mul_comm] at d
      omega
  · rw [List.getElem?_eq_none (by simpa using hj)]
    simp only [Option.map_none]
    split
    · rw [if_neg (by omega)]
    · rfl
theorem mkL_len {c : Int} {g : Int → Int → Int} {rr cc : Int} (h1 : 0 ≤ rr) (h2 : 0 ≤ cc) : ((mkL c g (rr.toNat * cc.toNat)).length : Int) = rr * cc := by
  rw [mkL_length, Int.natCast_mul, Int.toNat_of_nonneg h1, Int.toNat_of_nonneg h2]
theorem mkL_zero {c : Int} {N : Nat} : mkL c (fun _ _ => 0) N = List.replicate N 0 := by
  rw [List.eq_replicate_iff]
  refine ⟨mkL_length _ _ _, fun x hx => ?_⟩
  simp only [mkL, List.mem_map] at hx
  obtain ⟨j, _, rfl⟩ := hx
  rfl
theorem flatF_01 {r c : Int} {l : List Int} (h : fieldN 1 r c l) (x y : Int) : 0 ≤ flatF r c l x y ∧ flatF r c l x y ≤ 1 := by
  unfold flatF
  split
  · rename_i h1
    have b := ix_lt (a := x) (b := y) (r := r) (c := c) (by omega) (by omega) (by omega) (by omega)
    exact fieldN_at h (by omega) (by omega)
  · omega
/-- Two fields' cells. -/
def metG (ra ca : Int) (la : List Int) (rb cb : Int) (lb : List Int) (row col x y : Int) : Int := max (flatF ra ca la x y) (flatF rb cb lb (x - row) (y - col))
def metA (ca : Int) (la : List Int) (i k x y : Int) : Int := if (x < i ∧ y < ca) ∨ (x = i ∧ y < k) then at_ 0 la (x * ca + y) else 0
def metB (ra ca : Int) (la : List Int) (cb : Int) (lb : List Int) (row col i k x y : Int) : Int :=
  if ((0 ≤ x - row ∧ x - row < i ∧ 0 ≤ y - col ∧ y - col < cb) ∨ (x - row = i ∧ 0 ≤ y - col ∧ y - col < k)) ∧ at_ 0 lb ((x - row) * cb + (y - col)) = 1 then 1 else flatF ra ca la x y
def metO (ra ca rb cb row col : Int) : Prop := (0 ≤ row ∧ row ≤ 24) ∧ (0 ≤ col ∧ col ≤ 24) ∧ (1 ≤ max ra (row + rb) ∧ max ra (row + rb) ≤ 24) ∧ (1 ≤ max ca (col + cb) ∧ max ca (col + cb) ≤ 24)
def metOk (ra ca : Int) (la : List Int) (rb cb : Int) (lb : List Int) (row col : Int) : Prop := fieldN 1 ra ca la ∧ fieldN 1 rb cb lb ∧ metO ra ca rb cb row col
instance (ra ca rb cb row col : Int) : Decidable (metO ra ca rb cb row col) := by unfold metO; infer_instance
instance (ra ca : Int) (la : List Int) (rb cb : Int) (lb : List Int) (row col : Int) : Decidable (metOk ra ca la rb cb lb row col) := by unfold metOk; infer_instance
def metL0 (ra ca : Int) (la : List Int) (rb cb : Int) (lb : List Int) (row col : Int) : List Int := mkL (max ca (col + cb)) (metG ra ca la rb cb lb row col) ((max ra (row + rb)).toNat * (max ca (col + cb)).toNat)
def metL (ra ca : Int) (la : List Int) (rb cb : Int) (lb : List Int) (row col : Int) : List Int := if metOk ra ca la rb cb lb row col then metL0 ra ca la rb cb lb row col else []
def metI (x ra ca : Int) (la : List Int) (rb cb : Int) (lb : List Int) (row col : Int) : Int := if metOk ra ca la rb cb lb row col then x else 0
theorem metL_len {ra ca : Int} {la : List Int} {rb cb : Int} {lb : List Int} {row col : Int} : (metL ra ca la rb cb lb row col).length ≤ 576 := by
  unfold metL
  split
  · rename_i h
    obtain ⟨_, _, _, _, h3, h4⟩ := h
    unfold metL0
    rw [mkL_length]
    have := Nat.mul_le_mul (show (max ra (row + rb)).toNat ≤ 24 by omega) (show (max ca (col + cb)).toNat ≤ 24 by omega)
    omega
  · simp
theorem metA_zero {c ca : Int} {la : List Int} {N : Nat} (hc : 0 < c) (h : 0 ≤ ca) : List.replicate N 0 = mkL c (metA ca la 0 0) N := by
  rw [← mkL_zero (c := c)]
  apply mkL_congr hc
  intro x y h1 h2 _ _
  unfold metA
  rw [if_neg (by omega)]
theorem metA_set {c ca : Int} {la : List Int} {N : Nat} {i k : Int} (k0 : 0 ≤ k) (k1 : k < ca) (k2 : k < c) (i0 : 0 ≤ i) (h : 0 ≤ i * c) : (mkL c (metA ca la i k) N).set (i * c + k).toNat (at_ 0 la (i * ca + k)) = mkL c (metA ca la i (k + 1)) N := by
  rw [mkL_set (by omega) k0 k2 h]
  apply mkL_congr (by omega)
  intro x y h1 h2 _ _
  unfold metA
  by_cases e : x = i ∧ y = k
  · obtain ⟨rfl, rfl⟩ := e
    rw [if_pos ⟨rfl, rfl⟩, if_pos (by omega)]
  · rw [if_neg e]
    by_cases e2 : (x < i ∧ y < ca) ∨ (x = i ∧ y < k)
    · rw [if_pos e2, if_pos (by omega)]
    · rw [if_neg e2, if_neg (by omega)]
theorem metA_row {c ca : Int} {la : List Int} {N : Nat} {i k : Int} (hc : 0 < c) (k1 : k = ca) : mkL c (metA ca la i k) N = mkL c (metA ca la (i + 1) 0) N := by
  apply mkL_congr hc
  intro x y h1 h2 _ _
  unfold metA
  by_cases e2 : (x < i ∧ y < ca) ∨ (x = i ∧ y < k)
  · rw [if_pos e2, if_pos (by omega)]
  · rw [if_neg e2, if_neg (by omega)]
theorem metA_end {c ra ca cb : Int} {la lb : List Int} {row col : Int} {N : Nat} (hc : 0 < c) : mkL c (metA ca la ra 0) N = mkL c (metB ra ca la cb lb row col 0 0) N := by
  apply mkL_congr hc
  intro x y h1 h2 _ _
  unfold metA metB
  rw [if_neg (show ¬ (((0 ≤ x - row ∧ x - row < 0 ∧ 0 ≤ y - col ∧ y - col < cb) ∨ (x - row = 0 ∧ 0 ≤ y - col ∧ y - col < 0)) ∧ at_ 0 lb ((x - row) * cb + (y - col)) = 1) from fun h => by have := h.1; omega)]
  unfold flatF
  by_cases e2 : (x < ra ∧ y < ca) ∨ (x = ra ∧ y < 0)
  · rw [if_pos e2, if_pos (by omega)]
  · rw [if_neg e2, if_neg (by omega)]
theorem metB_set {c ra ca cb : Int} {la lb : List Int} {row col : Int} {N : Nat} {i k : Int} (k0 : 0 ≤ k) (k1 : k < cb) (k2 : col + k < c) (i0 : 0 ≤ i) (c0 : 0 ≤ col) (h : 0 ≤ (row + i) * c) (h1 : at_ 0 lb (i * cb + k) = 1) :
    (mkL c (metB ra ca la cb lb row col i k) N).set ((row + i) * c + col + k).toNat 1 = mkL c (metB ra ca la cb lb row col i (k + 1)) N := by
  rw [show (row + i) * c + col + k = (row + i) * c + (col + k) by omega, mkL_set (by omega) (by omega) k2 h]
  apply mkL_congr (by omega)
  intro x y _ _ _ _
  unfold metB
  by_cases e : x = row + i ∧ y = col + k
  · obtain ⟨rfl, rfl⟩ := e
    rw [if_pos ⟨rfl, rfl⟩, if_pos]
    rw [show row + i - row = i by omega, show col + k - col = k by omega]
    exact ⟨by omega, h1⟩
  · rw [if_neg e]
    by_cases e2 : ((0 ≤ x - row ∧ x - row < i ∧ 0 ≤ y - col ∧ y - col < cb) ∨ (x - row = i ∧ 0 ≤ y - col ∧ y - col < k)) ∧ at_ 0 lb ((x - row) * cb + (y - col)) = 1
    · rw [if_pos e2, if_pos ⟨by have := e2.1; omega, e2.2⟩]
    · rw [if_neg e2, if_neg (fun h => e2 ⟨by have := h.1; omega, h.2⟩)]
theorem metB_skip {c ra ca cb : Int} {la lb : List Int} {row col : Int} {N : Nat} {i k : Int} (hc : 0 < c) (h1 : ¬ at_ 0 lb (i * cb + k) = 1) :
    mkL c (metB ra ca la cb lb row col i k) N = mkL c (metB ra ca la cb lb row col i (k + 1)) N := by
  apply mkL_congr hc
  intro x y _ _ _ _
  unfold metB
  by_cases e : x - row = i ∧ y - col = k
  · obtain ⟨rfl, rfl⟩ := e
    rw [if_neg (fun h => h1 h.2), if_neg (fun h => h1 h.2)]
  · by_cases e2 : ((0 ≤ x - row ∧ x - row < i ∧ 0 ≤ y - col ∧ y - col < cb) ∨ (x - row = i ∧ 0 ≤ y - col ∧ y - col < k)) ∧ at_ 0 lb ((x - row) * cb + (y - col)) = 1
    · rw [if_pos e2, if_pos ⟨by have := e2.1; omega, e2.2⟩]
    · rw [if_neg e2, if_neg (fun h => e2 ⟨by have := h.1; omega, h.2⟩)]
theorem metB_row {c ra ca cb : Int} {la lb : List Int} {row col : Int} {N : Nat} {i k : Int} (hc : 0 < c) (i0 : 0 ≤ i) (k1 : k = cb) : mkL c (metB ra ca la cb lb row col i k) N = mkL c (metB ra ca la cb lb row col (i + 1) 0) N := by
  apply mkL_congr hc
  intro x y _ _ _ _
  unfold metB
  by_cases e2 : ((0 ≤ x - row ∧ x - row < i ∧ 0 ≤ y - col ∧ y - col < cb) ∨ (x - row = i ∧ 0 ≤ y - col ∧ y - col < k)) ∧ at_ 0 lb ((x - row) * cb + (y - col)) = 1
  · rw [if_pos e2, if_pos ⟨by have := e2.1; omega, e2.2⟩]
  · rw [if_neg e2, if_neg (fun h => e2 ⟨by have := h.1; omega, h.2⟩)]
theorem metB_end {c ra ca rb cb : Int} {la lb : List Int} {row col : Int} {N : Nat} (hc : 0 < c) (ha : fieldN 1 ra ca la) (hb : fieldN 1 rb cb lb) : mkL c (metB ra ca la cb lb row col rb 0) N = mkL c (metG ra ca la rb cb lb row col) N := by
  apply mkL_congr hc
  intro x y _ _ _ _
  have fa := flatF_01 ha x y
  have fb := flatF_01 hb (x - row) (y - col)
  unfold metB metG
  by_cases e : (0 ≤ x - row ∧ x - row ≤ rb - 1) ∧ 0 ≤ y - col ∧ y - col ≤ cb - 1
  · have e3 : flatF rb cb lb (x - row) (y - col) = at_ 0 lb ((x - row) * cb + (y - col)) := by unfold flatF; rw [if_pos e]
    rw [e3] at fb ⊢
    by_cases e4 : at_ 0 lb ((x - row) * cb + (y - col)) = 1
    · rw [if_pos ⟨by omega, e4⟩]; omega
    · rw [if_neg (fun h => e4 h.2)]; omega
  · have e3 : flatF rb cb lb (x - row) (y - col) = 0 := by unfold flatF; rw [if_neg e]
    rw [e3, if_neg (fun h => e (by have := h.1; omega))]; omega
end Go.Proofs.YtialllbbbpmkbaaDoor
/- Patterns that come again elsewhere. -/
namespace Go.Proofs.YtialllbbbpmkbaaDoor
open HL
set_option maxRecDepth 100000
/-- A cell of 1 on the border. -/
def bdC (r c : Int) (l : List Int) (j : Nat) : Prop := at_ 0 l (j : Int) = 1 ∧ ((j : Int) / c = 0 ∨ (j : Int) % c = 0 ∨ (j : Int) / c = r - 1 ∨ (j : Int) % c = c - 1)
instance (r c : Int) (l : List Int) (j : Nat) : Decidable (bdC r c l j) := by unfold bdC; infer_instance
def bdU (r c : Int) (l : List Int) (n : Nat) : Prop := ∀ j, j < n → ¬ bdC r c l j
instance (r c : Int) (l : List Int) (n : Nat) : Decidable (bdU r c l n) := by unfold bdU; infer_instance
/-- Is a cell on the border 1? -/
def brdP (r c : Int) (l : List Int) : Prop := ¬ bdU r c l (r * c).toNat
instance (r c : Int) (l : List Int) : Decidable (brdP r c l) := by unfold brdP; infer_instance
section
variable {r c : Int} {l : List Int}
theorem bdU_zero : bdU r c l 0 := fun j h => by omega
theorem bdU_succ {n : Nat} (h : bdU r c l n) (h1 : ¬ bdC r c l n) : bdU r c l (n + 1) := fun j hj => by
  by_cases e : j = n
  · subst e; exact h1
  · exact h j (by omega)
theorem bdC_at {i k n : Nat} (hk : (k : Int) < c) (hn : (n : Int) = i * c + k) : bdC r c l n ↔ (at_ 0 l ((i : Int) * c + k) = 1 ∧ ((i : Int) = 0 ∨ (k : Int) = 0 ∨ (i : Int) = r - 1 ∨ (k : Int) = c - 1)) := by
  have d := divmod (c := c) (i := (i : Int)) (k := (k : Int)) (by omega) (by omega) hk
  unfold bdC
  rw [hn, d.1, d.2]
theorem brd_yes {n : Nat} (h : bdC r c l n) (hn : (n : Int) < r * c) : brdP r c l := fun hh => hh n (by omega) h
end
/-- A pattern in the middle of a great field, the first rows of it. -/
def shpA (c : Int) (l : List Int) (row col i k x y : Int) : Int := if (0 ≤ x - row ∧ x - row < i ∧ 0 ≤ y - col ∧ y - col < c) ∨ (x - row = i ∧ 0 ≤ y - col ∧ y - col < k) then at_ 0 l ((x - row) * c + (y - col)) else 0
def shp0 (r c : Int) (l : List Int) : List Int := mkL 24 (fun x y => flatF r c l (x - (24 - r) / 2) (y - (24 - c) / 2)) ((24 : Int).toNat * (24 : Int).toNat)
theorem shpA_zero {c row col : Int} {l : List Int} {N : Nat} (h : 0 ≤ row) : List.replicate N 0 = mkL 24 (shpA c l row col 0 0) N := by
  rw [← mkL_zero (c := 24)]
  apply mkL_congr (by omega)
  intro x y h1 h2 _ _
  unfold shpA
  rw [if_neg (by omega)]
theorem shpA_set {c row col i k : Int} {l : List Int} {N : Nat} (k0 : 0 ≤ k) (k1 : k < c) (i0 : 0 ≤ i) (r0 : 0 ≤ row) (c0 : 0 ≤ col) (k2 : col + k < 24) :
    (mkL 24 (shpA c l row col i k) N).set ((row + i) * 24 + col + k).toNat (at_ 0 l (i * c + k)) = mkL 24 (shpA c l row col i (k + 1)) N := by
  rw [show (row + i) * 24 + col + k = (row + i) * 24 + (col + k) by omega, mkL_set (by omega) (by omega) k2 (by omega)]
  apply mkL_congr (by omega)
  intro x y _ _ _ _
  unfold shpA
  by_cases e : x = row + i ∧ y = col + k
  · obtain ⟨rfl, rfl⟩ := e
    rw [if_pos ⟨rfl, rfl⟩, if_pos (by omega), show row + i - row = i by omega, show col + k - col = k by omega]
  · rw [if_neg e]
    by_cases e2 : (0 ≤ x - row ∧ x - row < i ∧ 0 ≤ y - col ∧ y - col < c) ∨ (x - row = i ∧ 0 ≤ y - col ∧ y - col < k)
    · rw [if_pos e2, if_pos (by omega)]
    · rw [if_neg e2, if_neg (by omega)]
theorem shpA_row {c row col i k : Int} {l : List Int} {N : Nat} (i0 : 0 ≤ i) (hk : k = c) : mkL 24 (shpA c l row col i k) N = mkL 24 (shpA c l row col (i + 1) 0) N := by
  apply mkL_congr (by omega)
  intro x y _ _ _ _
  unfold shpA
  by_cases e2 : (0 ≤ x - row ∧ x - row < i ∧ 0 ≤ y - col ∧ y - col < c) ∨ (x - row = i ∧ 0 ≤ y - col ∧ y - col < k)
  · rw [if_pos e2, if_pos (by omega)]
  · rw [if_neg e2, if_neg (by omega)]
theorem shpA_end {r c row col : Int} {l : List Int} {N : Nat} : mkL 24 (shpA c l row col r 0) N = mkL 24 (fun x y => flatF r c l (x - row) (y - col)) N := by
  apply mkL_congr (by omega)
  intro x y _ _ _ _
  unfold shpA flatF
  by_cases e2 : (0 ≤ x - row ∧ x - row < r ∧ 0 ≤ y - col ∧ y - col < c) ∨ (x - row = r ∧ 0 ≤ y - col ∧ y - col < 0)
  · rw [if_pos e2, if_pos (by omega)]
  · rw [if_neg e2, if_neg (by omega)]
theorem s24 : sidesF 24 24 := ⟨by omega, by omega⟩
theorem shp0_field {r c : Int} {l : List Int} (h : fieldN 1 r c l) : fieldN 1 24 24 (shp0 r c l) := by
  have := mkL_field (n := 1) (g := fun x y => flatF r c l (x - (24 - r) / 2) (y - (24 - c) / 2)) s24 (fun i k => flatF_01 h _ _)
  exact this
theorem trm24 (l : List Int) : (0 ≤ (trm 24 24 l).1 ∧ (trm 24 24 l).1 ≤ 24) ∧ 0 ≤ (trm 24 24 l).2.2.1 ∧ (trm 24 24 l).2.2.1 ≤ 24 := by
  have b := trS_bnd (l := l) s24 (24 * 24 : Int).toNat (by omega)
  exact ⟨⟨b.1.1, b.1.2.1⟩, b.2.1, b.2.2.1⟩
theorem trl24 (l : List Int) : (trL 24 24 l).length ≤ 100000 := by
  unfold trL
  rw [mkL_length]
  have b := trS_bnd (l := l) s24 (24 * 24 : Int).toNat (by omega)
  have h1 : (trR 24 24 l).toNat ≤ 100 := by unfold trR trm; omega
  have h2 : (trC 24 24 l).toNat ≤ 100 := by unfold trC trm; omega
  have := Nat.mul_le_mul h1 h2
  omega
/-- Is a field's smallest part that of another one? -/
def matP (l m : List Int) : Prop := 0 ≤ (trm 24 24 m).2.1 ∧ trR 24 24 m = trR 24 24 l ∧ trC 24 24 m = trC 24 24 l ∧ trL 24 24 m = trL 24 24 l
instance (l m : List Int) : Decidable (matP l m) := by unfold matP; infer_instance
def shpS (b s : List Int) (r c : Int) (l : List Int) (n : Nat) : List Int := rnL false b s 24 24 (shp0 r c l) n
def shpE (b s : List Int) (r c : Int) (l : List Int) (t : Nat) : Prop := brdP 24 24 (shpS b s r c l (t + 1)) ∨ matP (shp0 r c l) (shpS b s r c l (t + 1))
instance (b s : List Int) (r c : Int) (l : List Int) : DecidablePred (shpE b s r c l) := fun t => by unfold shpE; infer_instance
def shpF (b s : List Int) (r c : Int) (l : List Int) (st : Int) : Int := fstN (shpE b s r c l) st.toNat
def shpT (b s : List Int) (r c : Int) (l : List Int) (st : Int) : List Int := shpS b s r c l ((shpF b s r c l st).toNat + 1)
def shpOk (b s : List Int) (r c : Int) (l : List Int) (st : Int) : Prop := canP b s r c l ∧ (1 ≤ st ∧ st ≤ 64) ∧ 0 ≤ (trm 24 24 (shp0 r c l)).2.1 ∧ ¬ brdP 24 24 (shp0 r c l) ∧ 0 ≤ shpF b s r c l st ∧ ¬ brdP 24 24 (shpT b s r c l st)
instance (b s : List Int) (r c : Int) (l : List Int) (st : Int) : Decidable (shpOk b s r c l st) := by unfold shpOk; infer_instance
section
variable {b s : List Int} {r c st : Int} {l : List Int} {t : Nat}
theorem shp_fail (hb : brdP 24 24 (shpS b s r c l (t + 1))) (h : ∀ x, x < t → ¬ shpE b s r c l x) (ht : t < st.toNat) : ¬ shpOk b s r c l st := fun hh => by
  have e : shpF b s r c l st = (t : Int) := fstN_at (p := shpE b s r c l) (.inl hb) h ht
  have := hh.2.2.2.2.2
  unfold shpT at this
  rw [e] at this
  exact this hb
theorem shp_none (h : ∀ x, x < st.toNat → ¬ shpE b s r c l x) : ¬ shpOk b s r c l st := fun hh => by
  have := hh.2.2.2.2.1
  unfold shpF at this
  rw [fstN_none h] at this
  omega
theorem shp_hit (h1 : canP b s r c l) (h2 : 1 ≤ st ∧ st ≤ 64) (h3 : 0 ≤ (trm 24 24 (shp0 r c l)).2.1) (h4 : ¬ brdP 24 24 (shp0 r c l)) (hb : ¬ brdP 24 24 (shpS b s r c l (t + 1))) (hm : matP (shp0 r c l) (shpS b s r c l (t + 1)))
    (h : ∀ x, x < t → ¬ shpE b s r c l x) (ht : t < st.toNat) : shpOk b s r c l st ∧ shpF b s r c l st = (t : Int) ∧ shpT b s r c l st = shpS b s r c l (t + 1) := by
  have e : shpF b s r c l st = (t : Int) := fstN_at (p := shpE b s r c l) (.inr hm) h ht
  have e2 : shpT b s r c l st = shpS b s r c l (t + 1) := by unfold shpT; rw [e]; rfl
  exact ⟨⟨h1, h2, h3, h4, by omega, by rw [e2]; exact hb⟩, e, e2⟩
theorem shp_next (hb : ¬ brdP 24 24 (shpS b s r c l (t + 1))) (hm : ¬ matP (shp0 r c l) (shpS b s r c l (t + 1))) (h : ∀ x, x < t → ¬ shpE b s r c l x) : ∀ x, x < t + 1 → ¬ shpE b s r c l x := fun x hx hp => by
  by_cases e : x = t
  · subst e; exact hp.elim hb hm
  · exact h x (by omega) hp
end
end Go.Proofs.YtialllbbbpmkbaaDoor
/- Fields that are turned and mirrored. -/
namespace Go.Proofs.YtialllbbbpmkbaaDoor
open HL
set_option maxRecDepth 100000
def turG (r c : Int) (l : List Int) (x y : Int) : Int := at_ 0 l ((r - 1 - y) * c + x)
def turL (r c : Int) (l : List Int) : List Int := mkL r (turG r c l) (c.toNat * r.toNat)
def mirG (c : Int) (l : List Int) (x y : Int) : Int := at_ 0 l (x * c + (c - 1 - y))
def mirL (r c : Int) (l : List Int) : List Int := mkL c (mirG c l) (r.toNat * c.toNat)
theorem at_01 {l : List Int} (h : ∀ x ∈ l, 0 ≤ x ∧ x ≤ 1) (i : Int) : 0 ≤ at_ 0 l i ∧ at_ 0 l i ≤ 1 := by
  unfold at_
  rw [List.getD_eq_getElem?_getD]
  cases he : l[i.toNat]? with
  | none => simp
  | some y => exact h y (List.mem_of_getElem? he)
def turF (f : FdL) : FdL := ⟨f.c, f.r, turL f.r f.c f.l⟩
def mirF (f : FdL) : FdL := ⟨f.r, f.c, mirL f.r f.c f.l⟩
def okF (f : FdL) : Prop := fieldN 1 f.r f.c f.l
theorem turF_ok {f : FdL} (h : okF f) : okF (turF f) := mkL_field ⟨h.1.2, h.1.1⟩ (fun _ _ => at_01 h.2.2 _)
theorem mirF_ok {f : FdL} (h : okF f) : okF (mirF f) := mkL_field h.1 (fun _ _ => at_01 h.2.2 _)
def imK (f : FdL) : Nat → FdL
  | 0 => f
  | k + 1 => turF (imK f k)
theorem imK_ok {f : FdL} (h : okF f) : ∀ k, okF (imK f k)
  | 0 => h
  | k + 1 => turF_ok (imK_ok h k)
/-- The field of a side. -/
def imB (f : FdL) (i : Nat) : FdL := if i = 0 then f else mirF f
theorem imB_ok {f : FdL} (h : okF f) (i : Nat) : okF (imB f i) := by
  unfold imB
  split
  · exact h
  · exact mirF_ok h
def imgs (f : FdL) (n : Nat) : List FdL := (List.range n).map fun t => imK (imB f (t / 4)) (t % 4)
theorem imgs_len (f : FdL) (n : Nat) : (imgs f n).length = n := by simp [imgs]
theorem imgs_succ (f : FdL) {i k : Nat} (hk : k < 4) : imgs f (4 * i + k) ++ [⟨(imK (imB f i) k).r, (imK (imB f i) k).c, (imK (imB f i) k).l⟩] = imgs f (4 * i + k + 1) := by
  simp only [imgs, List.range_succ, List.map_append, List.map_cons, List.map_nil]
  rw [show (4 * i + k) / 4 = i by omega, show (4 * i + k) % 4 = k by omega]
theorem cut_all {r c : Int} {l : List Int} (h1 : 0 ≤ r) (h2 : 0 < c) (hl : (l.length : Int) = r * c) : mkL c (cutG c l 0 0) (r.toNat * c.toNat) = l := by
  have hl2 := mkL_len' (c := c) (g := cutG c l 0 0) (rr := r) (cc := c) h1 (by omega)
  apply List.ext_getElem
  · omega
  · intro j g1 g2
    have d := Int.mul_ediv_add_emod (j : Int) c
    rw [Int.mul_comm] at d
    simp only [mkL, List.getElem_map, List.getElem_range, cutG]
    rw [show (0 + (j : Int) / c) * c + 0 + (j : Int) % c = (j : Int) by rw [Int.zero_add]; omega, at_get 0 g2]
theorem fsz_le_mul {n : Nat} : ∀ {fs : List FdL}, (∀ f ∈ fs, f.l.length ≤ n) → fsz fs ≤ fs.length * (2 + n)
  | [], _ => by simp [fsz]
  | f :: fs, h => by
    have h1 := h f (by simp)
    have h2 := fsz_le_mul (fs := fs) (fun g hg => h g (by simp [hg]))
    simp only [fsz, List.length_cons, Nat.add_mul, Nat.one_mul]
    omega
theorem imgs_mem {f : FdL} (h : okF f) {n : Nat} : ∀ g ∈ imgs f n, g.l.length ≤ 576 := by
  intro g hg
  simp only [imgs, List.mem_map] at hg
  obtain ⟨t, _, rfl⟩ := hg
  exact fieldN_len (imK_ok (imB_ok h _) _)
theorem imB_s (f : FdL) (i : Nat) : imB f (i + 1) = mirF f := rfl
/-- What is told of the field of a round, and of the next one. -/
def gL (f : FdL) (i : Nat) : List Int := if i = 0 then f.l else if i = 1 then (mirF f).l else []
def hL (f : FdL) (i : Nat) : List Int := if i = 0 then (mirF f).l else []
theorem hgL (f : FdL) (i : Nat) : hL f i = gL f (i + 1) := by
  unfold hL gL
  rcases i with _ | i <;> simp
theorem gL_eq {f : FdL} {i : Nat} (h : i < 2) : gL f i = (imB f i).l := by
  rcases (by omega : i = 0 ∨ i = 1) with rfl | rfl <;> rfl
theorem imB_r (f : FdL) (i : Nat) : (imB f i).r = f.r := by unfold imB; split <;> rfl
theorem imB_c (f : FdL) (i : Nat) : (imB f i).c = f.c := by unfold imB; split <;> rfl
theorem imgP_len {r c : Int} {l : List Int} : (selL (fieldN 1 r c l) (imgs ⟨r, c, l⟩ 8)).length ≤ 8 ∧ fsz (selL (fieldN 1 r c l) (imgs ⟨r, c, l⟩ 8)) ≤ 5000 ∧ ∀ f ∈ selL (fieldN 1 r c l) (imgs ⟨r, c, l⟩ 8), f.l.length ≤ 1000000000 := by
  by_cases h : fieldN 1 r c l
  · rw [selL_t h, imgs_len]
    have hm := imgs_mem (f := ⟨r, c, l⟩) h (n := 8)
    have := fsz_le_mul hm
    rw [imgs_len] at this
    exact ⟨by omega, by omega, fun f hf => by have := hm f hf; omega⟩
  · rw [selL_f h]; simp [fsz]
end Go.Proofs.YtialllbbbpmkbaaDoor
/- Names of fields: the least text of the trimmed field's images: plain law. -/
namespace Go.Proofs.YtialllbbbpmkbaaDoor
open HL
set_option maxRecDepth 100000
theorem bytesLess_tri : ∀ a b : List UInt8, Op.bytesLess b a = !(Op.bytesLess a b || a == b)
  | [], [] => rfl
  | [], _ :: _ => rfl
  | _ :: _, [] => rfl
  | x :: a, y :: b => by
    have ih := bytesLess_tri a b
    simp only [Op.bytesLess, ih, List.cons_beq_cons]
    rcases Nat.lt_trichotomy x.toNat y.toNat with h | h | h
    · have h1 : x < y := UInt8.lt_iff_toNat_lt.mpr h
      have h2 : ¬ y < x := fun g => by have := UInt8.lt_iff_toNat_lt.mp g; omega
      have h3 : ¬ y = x := fun g => by subst g; omega
      simp [h1, h2, h3]
    · obtain rfl : x = y := UInt8.toNat_inj.mp h
      have h2 : ¬ x < x := fun g => by have := UInt8.lt_iff_toNat_lt.mp g; omega
      simp [h2]
    · have h1 : y < x := UInt8.lt_iff_toNat_lt.mpr h
      have h2 : ¬ x < y := fun g => by have := UInt8.lt_iff_toNat_lt.mp g; omega
      have h3 : ¬ x = y := fun g => by subst g; omega
      simp [h1, h2, h3]
/-- The lesser of two texts. -/
def minT (m x : List UInt8) : List UInt8 := if Op.bytesLess x m = true then x else m
/-- The least of some texts. -/
def minF : List (List UInt8) → List UInt8
  | [] => []
  | a :: r => r.foldl minT a
theorem minF_snoc (ls : List (List UInt8)) (x : List UInt8) (h : ls ≠ []) : minF (ls ++ [x]) = minT (minF ls) x := by
  cases ls with
  | nil => exact absurd rfl h
  | cons a r => simp [minF]
theorem minF_one (x : List UInt8) : minF [x] = x := rfl
theorem min_tr {P : Program} {H : Hp} {K : Value → Hp → Prop} {ts : Array TypeId} {t : TypeId} {bs : Array Bool} {m x : List UInt8} (h : K (vS (minT m x)) H) : hp P (builtin .min ts t bs #[vS m, vS x]) H (nextH P K) := by
  have e : hp P (builtin .min ts t bs #[vS m, vS x]) H (nextH P K) = K (.string (if (Op.bytesLess (tS m).toList (tS x).toList || (tS m).toList == (tS x).toList) = true then tS m else tS x)) H := rfl
  rw [e]
  simp only [tS_toList]
  have : (if (Op.bytesLess m x || m == x) = true then tS m else tS x) = tS (minT m x) := by
    unfold minT
    rw [bytesLess_tri m x]
    cases Op.bytesLess m x || m == x <;> rfl
  rw [this]
  exact h
section
variable {r c : Int} {l : List Int}
theorem trF_ok (h : fieldN 1 r c l) (hb : 0 ≤ (trm r c l).2.1) : fieldN 1 (trR r c l) (trC r c l) (trL r c l) := by
  obtain ⟨h1, h2, h3, h4, h5, h6⟩ := trm_bnd h.1 hb
  have hs := h.1
  obtain ⟨⟨_, _⟩, _, _⟩ := hs
  refine ⟨⟨⟨h3, by omega⟩, h4, by omega⟩, ?_, fun x hx => ?_⟩
  · unfold trL; exact mkL_len (by omega) (by omega)
  · simp only [trL, mkL, List.mem_map] at hx
    obtain ⟨t, _, rfl⟩ := hx
    exact at_01 h.2.2 _
end
/-- The text of a field. -/
def ftx (f : FdL) : List UInt8 := fieldT f.r f.c f.l
/-- The trimmed field. -/
def tmF (r c : Int) (l : List Int) : FdL := ⟨trR r c l, trC r c l, trL r c l⟩
def imF (f : FdL) (i : Nat) : FdL := imK (imB f (i / 4)) (i % 4)
theorem imF_ok {f : FdL} (h : okF f) (i : Nat) : okF (imF f i) := imK_ok (imB_ok h _) _
theorem imF_at {f : FdL} {n i : Nat} (h : i < n) : at_ fd0 (imgs f n) (i : Int) = ⟨(imF f i).r, (imF f i).c, (imF f i).l⟩ := by
  rw [at_eq fd0 (imgs f n) (by rw [imgs_len]; omega)]
  simp [imgs, imF]
def imT (f : FdL) (n : Nat) : List (List UInt8) := (List.range n).map fun i => ftx (imF f i)
theorem imT_len {f : FdL} {n : Nat} : (imT f n).length = n := by simp [imT]
theorem imT_succ {f : FdL} {n : Nat} : imT f (n + 1) = imT f n ++ [fieldT (imF f n).r (imF f n).c (imF f n).l] := by simp [imT, List.range_succ, ftx]
theorem minF_next {f : FdL} {n : Nat} (h : 0 < n) : minF (imT f (n + 1)) = minT (minF (imT f n)) (fieldT (imF f n).r (imF f n).c (imF f n).l) := by
  rw [imT_succ]
  exact minF_snoc _ _ (fun e => by have := congrArg List.length e; rw [imT_len] at this; simp at this; omega)
theorem minF_first {f : FdL} {n : Nat} (h : n = 0) : minF (imT f (n + 1)) = fieldT (imF f n).r (imF f n).c (imF f n).l := by
  subst h; rfl
theorem minT_t {m x : List UInt8} (h : Op.bytesLess x m = true) : minT m x = x := if_pos h
theorem minT_f {m x : List UInt8} (h : ¬ Op.bytesLess x m = true) : minT m x = m := if_neg h
/-- The least of the first texts. -/
theorem minF_take {ls : List (List UInt8)} {t : Nat} (h0 : 1 ≤ t) (h : t < ls.length) : minF (ls.take (t + 1)) = minT (minF (ls.take t)) (at_ [] ls (t : Int)) := by
  rw [take_at [] ls h]
  exact minF_snoc _ _ (fun e => by have := congrArg List.length e; simp only [List.length_take, List.length_nil] at this; omega)
theorem minF_take1 {ls : List (List UInt8)} (h : 1 ≤ ls.length) : minF (ls.take 1) = at_ [] ls 0 := by
  cases ls with
  | nil => simp at h
  | cons a r => rfl
/-- A field's name. -/
def nameT (r c : Int) (l : List Int) : List UInt8 := if 0 ≤ (trm r c l).2.1 then minF (imT (tmF r c l) 8) else []
theorem nameT_t {r c : Int} {l : List Int} (h : 0 ≤ (trm r c l).2.1) : nameT r c l = minF (imT (tmF r c l) 8) := if_pos h
theorem nameT_f {r c : Int} {l : List Int} (h : (trm r c l).2.1 < 0) : nameT r c l = [] := if_neg (by omega)
theorem minT_len {m x : List UInt8} {n : Nat} (h1 : m.length ≤ n) (h2 : x.length ≤ n) : (minT m x).length ≤ n := by
  unfold minT; split <;> assumption
theorem minF_len {n : Nat} : ∀ {ls : List (List UInt8)}, (∀ x ∈ ls, x.length ≤ n) → (minF ls).length ≤ n := by
  intro ls h
  cases ls with
  | nil => simp [minF]
  | cons a r =>
    have : ∀ (r : List (List UInt8)) (a : List UInt8), a.length ≤ n → (∀ x ∈ r, x.length ≤ n) → (r.foldl minT a).length ≤ n := by
      intro r
      induction r with
      | nil => intro a ha _; exact ha
      | cons b r ih => intro a ha hr; exact ih _ (minT_len ha (hr b (by simp))) (fun x hx => hr x (by simp [hx]))
    exact this r a (h a (by simp)) (fun x hx => h x (by simp [hx]))
theorem nameT_len {r c : Int} {l : List Int} (h : fieldN 1 r c l) : (nameT r c l).length ≤ 2000 := by
  unfold nameT
  split
  · rename_i hb
    refine minF_len fun x hx => ?_
    simp only [imT, List.mem_map] at hx
    obtain ⟨i, _, rfl⟩ := hx
    exact fieldT_len (imF_ok (f := tmF r c l) (trF_ok h hb) i).1
  · simp
end Go.Proofs.YtialllbbbpmkbaaDoor
/- Builders of texts: what each of their operations does; strings.Join. -/
namespace Go.Proofs.YtialllbbbpmkbaaDoor
open HL
set_option maxRecDepth 100000
namespace HL
/-- A byte as a value. -/
abbrev eC (b : UInt8) : Value := .int .u8 (b.toNat : Int)
section
variable {P : Program} {H : Hp}
theorem val_eqP0 (d : Nat) {t e : TypeId} (b : Option Addr) (ht : P.underlying t = some (.pointer e)) : val P (Op.equalIn (d + 1) t (.pointer none) (.pointer b)) H = some b.isNone := by
  simp only [Op.equalIn, val_bind', val_underlying, ht, Option.bind_some]; cases b <;> rfl
theorem val_eqP1 (d : Nat) {t e : TypeId} (a : Addr) (ht : P.underlying t = some (.pointer e)) : val P (Op.equalIn (d + 1) t (.pointer (some a)) (.pointer none)) H = some false := by
  simp only [Op.equalIn, val_bind', val_underlying, ht, Option.bind_some]; rfl
theorem val_eqP2 (d : Nat) {t e : TypeId} (a : Addr) {k : Nat} (ht : P.underlying t = some (.pointer e)) (he : szO P e = some (k + 1)) : val P (Op.equalIn (d + 1) t (.pointer (some a)) (.pointer (some a))) H = some true := by
  simp only [Op.equalIn, val_bind', val_underlying, ht, Option.bind_some, val_sizeOf, he]
  rw [if_pos (by omega)]
  simp only [sameAddr, beq_self_eq_true, if_true]
  rfl
theorem val_ptr_nil {t e : TypeId} {x y : Operand} (ht : P.underlying t = some (.pointer e)) : val P (do eqGuard .eql t x y (.pointer none) (.pointer none); binOp .eql t (.pointer none) (.pointer none)) H = some (.bool true) := by
  have e1 : val P (Op.equal t (.pointer none) (.pointer none)) H = some true := val_eqP0 9999 none ht
  rw [val_bind', val_eqGuard_other P .eql t x y _ _ H (by simp) (by simp)]
  simp only [Option.bind_some, binOp, val_bind', e1, val_pure]
theorem val_ptr_some {t e : TypeId} {x y : Operand} {a : Addr} (ht : P.underlying t = some (.pointer e)) : val P (do eqGuard .eql t x y (.pointer (some a)) (.pointer none); binOp .eql t (.pointer (some a)) (.pointer none)) H = some (.bool false) := by
  have e1 : val P (Op.equal t (.pointer (some a)) (.pointer none)) H = some false := val_eqP1 9999 a ht
  rw [val_bind', val_eqGuard_other P .eql t x y _ _ H (by simp) (by simp)]
  simp only [Option.bind_some, binOp, val_bind', e1, val_pure]
theorem val_ptr_same {t e : TypeId} {x y : Operand} {a : Addr} {k : Nat} (ht : P.underlying t = some (.pointer e)) (he : szO P e = some (k + 1)) : val P (do eqGuard .neq t x y (.pointer (some a)) (.pointer (some a)); binOp .neq t (.pointer (some a)) (.pointer (some a))) H = some (.bool false) := by
  have e1 : val P (Op.equal t (.pointer (some a)) (.pointer (some a))) H = some true := val_eqP2 9999 a ht he
  rw [val_bind', val_eqGuard_other P .neq t x y _ _ H (by simp) (by simp)]
  simp only [Option.bind_some, binOp, val_bind', e1, val_pure, Bool.not_true]
theorem val_viewAt {r : Nat} {c : Array Value} {e : TypeId} {f : Nat × Nat} (h : H r = some (.cells c e f)) : val P (viewAt r) H = some none := by
  simp only [viewAt, shape, val_bind', val, h, Option.bind_some]
  rfl
theorem val_seenAt {a : Addr} {c : Array Value} {e : TypeId} {f : Nat × Nat} (h : H a.block = some (.cells c e f)) : val P (Conv.seenAt a) H = some a := by
  simp only [Conv.seenAt, val_bind', val_viewAt h, Option.bind_some]
  rfl
theorem val_cellsIn {r : Nat} {c : Array Value} {e : TypeId} {f : Nat × Nat} (h : H r = some (.cells c e f)) : val P (cellsIn r) H = some (some c.size) := by
  simp only [cellsIn, shape, val_bind', val, h, Option.bind_some]
  rfl
theorem val_variablesAt {a : Addr} {c : Array Value} {e u : TypeId} {f : Nat × Nat} {n : Nat} (h : H a.block = some (.cells c e f)) (hl : liesAt P P.depth e (c.size / P.cellsOf e) a.off u n = true) : val P (variablesAt a u n) H = some true := by
  simp only [variablesAt, shape, program, val_bind', val, h, Option.bind_some]
  rw [hl]
  rfl
theorem val_up {s d t : TypeId} {k : Nat} {a : Addr} {c : Array Value} {e : TypeId} {f : Nat × Nat} (hs : P.underlying s = some (.pointer t)) (hd : P.underlying d = some .unsafePointer) (ht : szO P t = some (k + 1)) (h : H a.block = some (.cells c e f)) (ha : a.off < c.size) :
    val P (convert s d (.pointer (some a))) H = some (.pointer (some a)) := by
  simp only [convert, val_bind', val_underlying, hs, hd, Option.bind_some, Conv.unsafePointer, val_seenAt h, val_cellsIn h, val_sizeOf, ht]
  rw [if_neg]
  · rfl
  · simp; omega
theorem val_down {s d u : TypeId} {a : Addr} {c : Array Value} {e : TypeId} {f : Nat × Nat} {k : Nat} (hs : P.underlying s = some .unsafePointer) (hd : P.underlying d = some (.pointer u)) (hu : szO P u = some (k + 1)) (h : H a.block = some (.cells c e f)) (hl : liesAt P P.depth e (c.size / P.cellsOf e) a.off u 1 = true) :
    val P (convert s d (.pointer (some a))) H = some (.pointer (some a)) := by
  simp only [convert, val_bind', val_underlying, hs, hd, Option.bind_some, Conv.unsafePointer, val_seenAt h, val_sizeOf, hu, val_variablesAt h hl]
  rw [if_pos (by simp)]
  rfl
theorem rowAt_plain {d e u count off n : Nat} (hs : P.cellsOf e = 1) (hf : sameLayout P P.depth e u = true) (h : off + n ≤ count) : liesAt P (d + 1) e count off u n = true := by
  have hd : ∃ d', P.depth = d' + 1 := by
    cases hd : P.depth with
    | zero => rw [hd] at hf; simp [sameLayout] at hf
    | succ d' => exact ⟨d', rfl⟩
  obtain ⟨d', hd⟩ := hd
  unfold liesAt
  rw [hd]
  unfold rowAt
  simp only [hs, Nat.div_one, Nat.mod_one]
  rw [hd] at hf
  simp [hf, h]
theorem lies_plain {e u count off n : Nat} (hs : P.cellsOf e = 1) (hf : sameLayout P P.depth e u = true) (h : off + n ≤ count) : liesAt P P.depth e count off u n = true := by
  obtain ⟨d', hd⟩ : ∃ d', P.depth = d' + 1 := by
    cases hd : P.depth with
    | zero => rw [hd] at hf; simp [sameLayout] at hf
    | succ d' => exact ⟨d', rfl⟩
  have := rowAt_plain (d := d') hs hf h
  rw [← hd] at this
  exact this
theorem val_loadBytes : ∀ (l : List UInt8) (a : Addr) (acc : ByteArray), (∀ i (h : i < l.length), H.cell? (a.add i) = some (eC l[i])) → val P (loadBytes a acc l.length) H = some ⟨acc.data ++ l.toArray⟩
  | [], a, acc, _ => by simp [loadBytes, val_pure]
  | x :: l, a, acc, h => by
    have h0 := h 0 (by simp)
    rw [show a.add 0 = a from rfl] at h0
    have ih := val_loadBytes l (a.add 1) (acc.push x) (fun i hi => by
      have := h (i + 1) (by simpa using hi)
      rw [show (a.add 1).add i = a.add (i + 1) by
        unfold Addr.add
        by_cases hi : i = 0
        · subst hi; rfl
        · simp [hi, Nat.add_comm, Nat.add_left_comm]]
      simpa using this)
    simp only [List.length_cons, loadBytes, load, val_bind', val, h0, Option.bind_some, List.getElem_cons_zero]
    rw [show (Int.toNat ((x.toNat : Nat) : Int)).toUInt8 = x by simp, ih]
    congr 2
    show acc.data.push x ++ l.toArray = acc.data ++ (x :: l).toArray
    simp
theorem digits_size : ∀ (n t : Nat) (acc : Array Value), (Extern.BytealgMakeNoZero.digits n t acc).size = acc.size + n
  | 0, _, _ => rfl
  | n + 1, t, acc => by
    unfold Extern.BytealgMakeNoZero.digits
    rw [digits_size]; simp; omega
theorem hp_makeNoZero {params results : Array TypeId} {t e : TypeId} {n : Int} {Q : Value → Hp → Prop} (hr : results[0]? = some t) (ht : P.underlying t = some (.slice e)) (h0 : 0 ≤ n) (h1 : n ≤ 1099511627776)
    (hk : ∀ c r (cs : Array Value), n.toNat ≤ c → c < 9223372036854775808 → H r = none → cs.size = c → Q (.slice (some ⟨r, 0, none⟩) n.toNat c) (H.put r (.cells cs e (0, 0)))) : hp P (Extern.BytealgMakeNoZero.makeNoZero params results #[.int .i64 n]) H Q := by
  delta Extern.BytealgMakeNoZero.makeNoZero
  have e0 : ∀ (f : Int → Sem Value) (g : Array Value → Sem Value), Extern.BytealgMakeNoZero.makeNoZero.match_3 (fun _ => Sem Value) #[.int .i64 n] f g = f n := fun _ _ => rfl
  rw [e0]
  simp only [hr]
  refine hp_val_bind P _ _ H Q _ (by rw [val_underlying, ht]) ?_
  simp only
  rw [if_neg (by simp; omega)]
  simp only [choose, hp_bind', hp, Question.forced, Bool.false_eq_true, if_false]
  intro tt
  refine hp_askRoom P _ H _ ?_
  intro t2
  refine hp_newRow P _ _ _ _ ?_
  intro r hr'
  have hcut : (Question.appendCap n.toNat 0 e).cut tt = n.toNat + tt % (2 ^ 63 - n.toNat) := rfl
  refine hk _ r _ ?_ ?_ hr' (by rw [digits_size]; simp)
  · rw [hcut]; omega
  · rw [hcut]
    have : tt % (2 ^ 63 - n.toNat) < 2 ^ 63 - n.toNat := Nat.mod_lt _ (by omega)
    omega
end
end HL
/-- A Builder's header and its room. -/
structure Bd (e eb : TypeId) (H : Hp) (r b c : Nat) (l : List UInt8) : Prop where
  ne : r ≠ b
  hdr : H r = some (.cells #[.pointer (some ⟨r, 0, none⟩), .slice (some ⟨b, 0, none⟩) l.length c] e (0, 0))
  buf : ∃ cs : Array Value, H b = some (.cells cs eb (0, 0)) ∧ cs.size = c ∧ l.length ≤ c ∧ ∀ i (h : i < l.length), cs[i]? = some (eC l[i])
noncomputable def nzR : Array TypeId := ((prg.funcs[I.internal_bytealg_MakeNoZero]?).map (·.resultTypes)).getD #[]
noncomputable def nzT : TypeId := (nzR[0]?).getD 0
noncomputable def nzE : TypeId := match prg.underlying nzT with | some (.slice e) => e | _ => 0
section
variable {H : Hp} {K : Value → Hp → Prop} {r b c : Nat} {e eb : TypeId} {l s : List UInt8}
theorem vLoad_cell {H : Hp} {r k : Nat} {c : Array Value} {e : TypeId} {f : Nat × Nat} {v : Value} (h : H r = some (.cells c e f)) (hv : c[k]? = some v) : vLoad (.pointer (some ⟨r, k, none⟩)) H = some v := by
  simp only [vLoad, Hp.cell?, h]
  simpa using hv
theorem st_cell {H : Hp} {r k : Nat} {c : Array Value} {e : TypeId} {x : Value} {K : Hp → Prop} (h : H r = some (.cells c e (0, 0))) (hk : k < c.size) (ho : oneCell x = true) (hz : x.cells = #[x]) (hK : K (H.put r (.cells (c.setIfInBounds k x) e (0, 0)))) : st 1 (.pointer (some ⟨r, k, none⟩)) x H K := by
  simp only [HL.st, hz, List.toList_toArray, List.size_toArray, List.length_singleton, true_and, stC, add_none, Nat.add_zero]
  refine ⟨ho, ?_, ?_, ?_⟩
  · simp only [Hp.cell?, h]; simp [hk]
  · simp only [Hp.frozen?, h]; simp
  · simp only [Hp.setCell, h]; exact hK
end
noncomputable def bdP : TypeId := ((prg.funcs[I.pstrings_Builder_copyCheck]?).bind (·.params[0]?)).getD 0
noncomputable def bdE : TypeId := match prg.underlying bdP with | some (.pointer e) => e | _ => 0
section
variable {H : Hp} {K : Value → Hp → Prop} {r b c : Nat} {eb : TypeId} {l s : List UInt8}
theorem C.Builder_copyCheck_new {u : Value} (h : H r = some (.cells #[.pointer none, u] bdE (0, 0))) (hk : K (.tuple #[]) (H.put r (.cells #[.pointer (some ⟨r, 0, none⟩), u] bdE (0, 0)))) :
    HT prg I.pstrings_Builder_copyCheck [.pointer (some ⟨r, 0, none⟩)].toArray H K := by
  refine R.pstrings_Builder_copyCheck ?_
  unfold F.pstrings_Builder_copyCheck
  refine ob_i (a := .pointer (some ⟨r, 0, none⟩)) rfl ?_
  refine ob_i (a := .pointer (some ⟨r, 0, none⟩)) rfl ?_
  refine ob_i (vLoad_cell h rfl) ?_
  refine ob_i (val_ptr_nil (e := bdE) (by kernel_rfl)) ?_
  refine cnd_t1 ?_
  refine hp_of_val prg _ _ _ _ (val_up (t := bdE) (k := 1) (by kernel_rfl) (by kernel_rfl) (by kernel_rfl) h (by simp)) ?_
  have e0 : ∀ Q, hp prg (callFunc I.internal_abi_NoEscape [Value.pointer (some ⟨r, 0, none⟩)].toArray) H Q = Q (.value (.pointer (some ⟨r, 0, none⟩))) H := fun Q => by kernel_rfl
  rw [e0]
  refine hp_of_val prg _ _ _ _ (val_down (u := bdE) (k := 1) (by kernel_rfl) (by kernel_rfl) (by kernel_rfl) h (by kernel_rfl)) ?_
  refine ob_i (a := .pointer (some ⟨r, 0, none⟩)) rfl ?_
  refine ob_i (a := .pointer (some ⟨r, 0, none⟩)) rfl ?_
  exact st_cell h (by simp) rfl rfl hk
theorem C.Builder_copyCheck_old {u : Value} (h : H r = some (.cells #[.pointer (some ⟨r, 0, none⟩), u] bdE (0, 0))) (hk : K (.tuple #[]) H) :
    HT prg I.pstrings_Builder_copyCheck [.pointer (some ⟨r, 0, none⟩)].toArray H K := by
  refine R.pstrings_Builder_copyCheck ?_
  unfold F.pstrings_Builder_copyCheck
  refine ob_i (a := .pointer (some ⟨r, 0, none⟩)) rfl ?_
  refine ob_i (a := .pointer (some ⟨r, 0, none⟩)) rfl ?_
  refine ob_i (vLoad_cell h rfl) ?_
  refine ob_i (val_ptr_some (e := bdE) (by kernel_rfl)) ?_
  refine cnd_f1 ?_
  refine ob_i (a := .pointer (some ⟨r, 0, none⟩)) rfl ?_
  refine ob_i (a := .pointer (some ⟨r, 0, none⟩)) rfl ?_
  refine ob_i (vLoad_cell h rfl) ?_
  refine ob_i (val_ptr_same (e := bdE) (k := 1) (by kernel_rfl) (by kernel_rfl)) ?_
  refine cnd_f1 ?_
  exact hk
theorem C.Builder_Grow {n : Int} (h : H r = some (.cells #[.pointer none, .slice none 0 0] bdE (0, 0))) (n0 : 1 ≤ n) (n1 : n ≤ 1099511627776)
    (hk : ∀ b c H', n.toNat ≤ c → c < 9223372036854775808 → H b = none → Bd bdE nzE H' r b c [] → (∀ x o, H x = some o → x ≠ r → H' x = some o) → K (.tuple #[]) H') :
    HT prg I.pstrings_Builder_Grow [.pointer (some ⟨r, 0, none⟩), .int .i64 n].toArray H K := by
  refine R.pstrings_Builder_Grow ?_
  unfold F.pstrings_Builder_Grow
  refine C.Builder_copyCheck_new h ?_
  have h1 : (H.put r (.cells #[.pointer (some ⟨r, 0, none⟩), .slice none 0 0] bdE (0, 0))) r = some (.cells #[.pointer (some ⟨r, 0, none⟩), .slice none 0 0] bdE (0, 0)) := Hp.put_same _ _ _
  refine jn_i (fun σ H' => σ 0 = .pointer (some ⟨r, 0, none⟩) ∧ σ 1 = .int .i64 n ∧ H' = H.put r (.cells #[.pointer (some ⟨r, 0, none⟩), .slice none 0 0] bdE (0, 0))) (fun σ H2 hP => ?_) (fun J hJ => ?_)
  · obtain ⟨g0, g1, rfl⟩ := hP
    simp only [g0, g1]
    refine ob_i (a := .pointer (some ⟨r, 0, none⟩)) rfl ?_
    refine ob_i (a := .pointer (some ⟨r, 1, none⟩)) rfl ?_
    refine ob_i (vLoad_cell h1 rfl) ?_
    refine ob_i (a := .int .i64 0) rfl ?_
    refine ob_i (a := .pointer (some ⟨r, 0, none⟩)) rfl ?_
    refine ob_i (a := .pointer (some ⟨r, 1, none⟩)) rfl ?_
    refine ob_i (vLoad_cell h1 rfl) ?_
    refine ob_i (a := .int .i64 0) rfl ?_
    refine ob_i (vInt_sub (by omega) (by omega)) ?_
    refine ob_i (vInt_lss _ _ _) ?_
    rw [decide_eq_true (show (0 : Int) - 0 < n by omega)]
    refine cnd_t1 ?_
    refine R.pstrings_Builder_grow ?_
    unfold F.pstrings_Builder_grow
    refine ob_i (a := .pointer (some ⟨r, 0, none⟩)) rfl ?_
    refine ob_i (a := .pointer (some ⟨r, 1, none⟩)) rfl ?_
    refine ob_i (vLoad_cell h1 rfl) ?_
    refine ob_i (a := .int .i64 0) rfl ?_
    refine ob_i (vInt_mul (by omega) (by omega)) ?_
    refine ob_i (vInt_add (by omega) (by omega)) ?_
    refine ob_i (a := .pointer (some ⟨r, 0, none⟩)) rfl ?_
    refine ob_i (a := .pointer (some ⟨r, 1, none⟩)) rfl ?_
    refine ob_i (vLoad_cell h1 rfl) ?_
    refine ob_i (a := .int .i64 0) rfl ?_
    rw [show (2 : Int) * 0 + n = n by omega]
    have e0 : ∀ H Q, hp prg (callFunc I.internal_bytealg_MakeNoZero [Value.int .i64 n].toArray) H Q = hp prg (do pure (Next.value (← Extern.BytealgMakeNoZero.makeNoZero nzR nzR #[.int .i64 n]))) H Q := fun H Q => by kernel_rfl
    rw [e0]
    refine hp_v ?_
    refine hp_makeNoZero (t := nzT) (e := nzE) (by kernel_rfl) (by kernel_rfl) (by omega) n1 (fun c b cs hc1 hc2 hb hcs => ?_)
    have hrb : r ≠ b := by rintro rfl; rw [h1] at hb; exact absurd hb (by simp)
    have hbH : H b = none := by rw [Hp.put_ne _ _ (Ne.symm hrb)] at hb; exact hb
    refine ⟨Le.put _ hb, ?_⟩
    have e1 : vSl3 1 (.slice (some ⟨b, 0, none⟩) n.toNat c) none (some (.int .i64 0)) none = some (.slice (some ⟨b, 0, none⟩) 0 c) := by
      simp only [vSl3, vSl, bnd]
      rw [if_pos ⟨by omega, by omega⟩]
      simp only [Option.map_some, Nat.zero_mul, Nat.sub_zero]
      congr 1
      split <;> rfl
    refine ob_i e1 ?_
    have h2 : ((H.put r (.cells #[.pointer (some ⟨r, 0, none⟩), .slice none 0 0] bdE (0, 0))).put b (.cells cs nzE (0, 0))) r = some (.cells #[.pointer (some ⟨r, 0, none⟩), .slice none 0 0] bdE (0, 0)) := by
      rw [Hp.put_ne _ _ hrb]; exact h1
    refine ob_i (a := .pointer (some ⟨r, 0, none⟩)) rfl ?_
    refine ob_i (a := .pointer (some ⟨r, 1, none⟩)) rfl ?_
    refine ob_i (vLoad_cell h2 rfl) ?_
    refine hp_v ?_
    refine hp_of_val prg _ _ _ (.int .i64 0) (by kernel_rfl) ?_
    refine ob_i (a := .pointer (some ⟨r, 0, none⟩)) rfl ?_
    refine ob_i (a := .pointer (some ⟨r, 1, none⟩)) rfl ?_
    refine st_cell h2 (by simp) rfl rfl ?_
    refine hk b c _ hc1 hc2 hbH ⟨hrb, Hp.put_same _ _ _, cs, by rw [Hp.put_ne _ _ (Ne.symm hrb), Hp.put_same], hcs, by simp, fun i hi => absurd hi (by simp)⟩ (fun x o hx hxr => ?_)
    have hxb : x ≠ b := by rintro rfl; rw [hbH] at hx; exact absurd hx (by simp)
    rw [Hp.put_ne _ _ hxr, Hp.put_ne _ _ hxb, Hp.put_ne _ _ hxr]
    exact hx
  · refine ob_i (vInt_lss _ _ _) ?_
    rw [decide_eq_false (show ¬ n < 0 by omega)]
    refine cnd_f1 ?_
    exact hJ _ _ ⟨rfl, rfl, rfl⟩
theorem firstC_str {H : Hp} : firstC H 1 s.length (vS s) = some (s.map eC) := by
  simp only [firstC]
  congr 1
  have : (tS s).extract 0 s.length = tS s := by rw [tS_extract]; simp
  rw [this, tS_data]
theorem C.Builder_WriteString (h : Bd bdE eb H r b c l) (hc : l.length + s.length ≤ c)
    (hk : ∀ H', Bd bdE eb H' r b c (l ++ s) → (∀ x o, H x = some o → x ≠ r → x ≠ b → H' x = some o) → K (.tuple #[.int .i64 s.length, .nilIface]) H') :
    HT prg I.pstrings_Builder_WriteString [.pointer (some ⟨r, 0, none⟩), vS s].toArray H K := by
  refine R.pstrings_Builder_WriteString ?_
  unfold F.pstrings_Builder_WriteString
  refine C.Builder_copyCheck_old h.hdr ?_
  refine ob_i (a := .pointer (some ⟨r, 0, none⟩)) rfl ?_
  refine ob_i (a := .pointer (some ⟨r, 1, none⟩)) rfl ?_
  refine ob_i (a := .slice (some ⟨b, 0, none⟩) l.length c) (vLoad_cell h.hdr rfl) ?_
  obtain ⟨cs, hb, hcs, hlc, hel⟩ := h.buf
  have hlen : lenO (vS s) = some s.length := rfl
  simp only [HL.apd, hlen]
  rw [if_pos hc]
  simp only [firstC_str]
  refine stC_run (b := b) (e := eb) (s.map eC) _ 0 cs H (by rw [Nat.mul_one]; unfold Addr.add; split <;> rfl) (by rw [Nat.mul_one]; unfold Addr.add; split <;> rfl) hb (by rw [Nat.mul_one, add_none]; simp; omega) (by simp; intro x _; rfl) ?_
  intro H' cs' h1 h2 h3 h4 h5
  rw [Nat.mul_one, add_none] at h3 h4
  simp only [Nat.add_zero, Nat.zero_add] at h3 h4
  have hr' : H' r = some (.cells #[.pointer (some ⟨r, 0, none⟩), .slice (some ⟨b, 0, none⟩) l.length c] bdE (0, 0)) := by rw [h5 r h.ne]; exact h.hdr
  refine ob_i (a := .pointer (some ⟨r, 0, none⟩)) rfl ?_
  refine ob_i (a := .pointer (some ⟨r, 1, none⟩)) rfl ?_
  refine st_cell hr' (by simp) rfl rfl ?_
  refine ob_i (vLenS_t s) ?_
  refine hk _ ⟨h.ne, by rw [Hp.put_same]; simp, cs', by rw [Hp.put_ne _ _ (Ne.symm h.ne)]; exact h1, by rw [h2, hcs], by simpa using hc, fun i hi => ?_⟩ (fun x o hx hxr hxb => ?_)
  · by_cases hil : i < l.length
    · rw [h3 i hil, hel i hil, List.getElem_append_left hil]
    · have := h4 (i - l.length) (by simp at hi ⊢; omega)
      rw [show l.length + (i - l.length) = i by omega] at this
      rw [this, List.getElem_append_right (by omega)]; simp
  · rw [Hp.put_ne _ _ hxr, h5 x hxb]; exact hx
theorem C.Builder_String (h : Bd bdE nzE H r b c l) (hl : 0 < l.length) (hl2 : l.length ≤ 9223372036854775807) (hk : ∀ H', (∀ x o, H x = some o → x ≠ r → x ≠ b → H' x = some o) → K (vS l) H') :
    HT prg I.pstrings_Builder_String [.pointer (some ⟨r, 0, none⟩)].toArray H K := by
  obtain ⟨cs, hb, hcs, hlc, hel⟩ := h.buf
  have e1 : ∀ ts ty H, val prg (Builtin.unsafeSliceData_ ts ty #[.slice (some ⟨b, 0, none⟩) l.length c]) H = some (.pointer (some ⟨b, 0, none⟩)) := fun ts ty H => by
    obtain ⟨c', hc'⟩ : ∃ c', c = c' + 1 := ⟨c - 1, by omega⟩
    rw [hc']
    kernel_rfl
  have hld : val prg (loadBytes ⟨b, 0, none⟩ .empty l.length) H = some ⟨ByteArray.empty.data ++ l.toArray⟩ := val_loadBytes l _ _ (fun i hi => by
    rw [add_none]
    simp only [Hp.cell?, hb, Nat.zero_add, hel i hi]; rfl)
  have e2 : ∀ (ts : Array TypeId) ty pt (Q : Value → Hp → Prop), ts[0]? = some pt → prg.underlying pt = some (.pointer nzE) → (∀ H', (∀ x o, H x = some o → x ≠ r → x ≠ b → H' x = some o) → Q (vS l) H') → hp prg (Builtin.unsafeString_ ts ty #[.pointer (some ⟨b, 0, none⟩), .int .i64 l.length]) H Q := fun ts ty pt Q ht hpt hQ => by
    delta Builtin.unsafeString_
    have e0 : ∀ (f : Option Addr → Value → Sem Value) (g : Array Value → Sem Value), Builtin.unsafeString_.match_3 (fun _ => Sem Value) #[.pointer (some ⟨b, 0, none⟩), .int .i64 l.length] f g = f (some ⟨b, 0, none⟩) (.int .i64 l.length) := fun _ _ => rfl
    rw [e0]
    refine hp_val_bind prg _ _ H Q (l.length : Int) (by kernel_rfl) ?_
    simp only [ht]
    have em : IntKind.i64.max = 9223372036854775807 := by decide
    rw [if_neg (by omega), if_neg (by rw [em]; omega)]
    have hn0 : ¬ ((l.length : Int) = 0) := by omega
    simp only [hn0, if_false]
    refine hp_val_bind prg _ _ H Q nzE (by simp only [elemOf, val_bind', val_underlying, hpt, Option.bind_some]; rfl) ?_
    have hs1 : prg.cellsOf nzE = 1 := by kernel_rfl
    refine hp_val_bind prg _ _ H Q true (val_variablesAt hb (by rw [hs1, Nat.div_one]; exact lies_plain hs1 (by kernel_rfl) (by simp; omega))) ?_
    simp only [if_true]
    rw [Int.toNat_natCast]
    refine hp_val_bind prg _ _ H Q _ hld ?_
    simp only [freeze, hp_bind', hp, hb]
    rw [if_neg (by omega)]
    have et : (⟨ByteArray.empty.data ++ l.toArray⟩ : ByteArray) = tS l := by
      show (⟨#[] ++ l.toArray⟩ : ByteArray) = _
      rw [Array.empty_append]; rfl
    rw [et]
    exact hQ _ (fun x o hx hxr hxb => by rw [Hp.put_ne _ _ hxb]; exact hx)
  refine R.pstrings_Builder_String ?_
  unfold F.pstrings_Builder_String
  refine ⟨?_, ?_⟩
  · refine ob_i (a := .pointer (some ⟨r, 0, none⟩)) rfl ?_
    refine ob_i (a := .pointer (some ⟨r, 1, none⟩)) rfl ?_
    refine ob_i (a := .slice (some ⟨b, 0, none⟩) l.length c) (vLoad_cell h.hdr rfl) ?_
    refine ob_i (a := .pointer (some ⟨r, 0, none⟩)) rfl ?_
    refine ob_i (a := .pointer (some ⟨r, 1, none⟩)) rfl ?_
    refine ob_i (a := .slice (some ⟨b, 0, none⟩) l.length c) (vLoad_cell h.hdr rfl) ?_
    refine ob_i (a := .int .i64 l.length) rfl ?_
    refine hp_v (hp_of_val prg _ _ _ _ (e1 _ _ _) ?_)
    refine hp_v (e2 _ _ _ _ rfl (by kernel_rfl) (fun H' hH' => hk H' hH'))
  · refine ob_i (a := .pointer (some ⟨r, 0, none⟩)) rfl ?_
    refine ob_i (a := .pointer (some ⟨r, 1, none⟩)) rfl ?_
    refine ob_i (a := .slice (some ⟨b, 0, none⟩) l.length c) (vLoad_cell h.hdr rfl) ?_
    refine ob_i (a := .pointer (some ⟨r, 0, none⟩)) rfl ?_
    refine ob_i (a := .pointer (some ⟨r, 1, none⟩)) rfl ?_
    refine hp_v (hp_of_val prg _ _ _ _ (e1 _ _ _) ?_)
    refine ob_i (a := .slice (some ⟨b, 0, none⟩) l.length c) (vLoad_cell h.hdr rfl) ?_
    refine ob_i (a := .int .i64 l.length) rfl ?_
    refine hp_v (e2 _ _ _ _ rfl (by kernel_rfl) (fun H' hH' => hk H' hH'))
end
end Go.Proofs.YtialllbbbpmkbaaDoor
/- strings.Join, with one byte between the texts. -/
namespace Go.Proofs.YtialllbbbpmkbaaDoor
open HL
set_option maxRecDepth 100000
theorem joinT_len (x : UInt8) (a : List UInt8) : ∀ r : List (List UInt8), (joinT [x] (a :: r)).length = r.length + (a :: r).flatten.length
  | [] => by simp [joinT]
  | b :: r => by
    have ih := joinT_len x a r
    simp only [joinT, List.flatMap_cons, List.length_append, List.length_cons, List.length_nil, List.flatten_cons] at ih ⊢
    omega
theorem flat_snoc (ls : List (List UInt8)) (x : List UInt8) : (ls ++ [x]).flatten.length = ls.flatten.length + x.length := by simp
theorem flat_take (ls : List (List UInt8)) (t : Nat) : (ls.take t).flatten.length ≤ ls.flatten.length := by
  have := congrArg (fun l => l.flatten.length) (List.take_append_drop t ls)
  simp only [List.flatten_append, List.length_append] at this
  omega
theorem flat_at (ls : List (List UInt8)) {t : Nat} (ht : t < ls.length) : (ls.take t).flatten.length + (at_ [] ls (t : Int)).length ≤ ls.flatten.length := by
  have := flat_take ls (t + 1)
  rw [take_at [] ls ht, flat_snoc] at this
  exact this
theorem C.strings_Join {v : Value} {ls : List (List UInt8)} {x : UInt8} {H : Hp} {K : Value → Hp → Prop} (hv : Sl vS H v ls) (h1 : ls.length ≤ 1000000) (h2 : ls.flatten.length ≤ 1000000000) (hk : ∀ H', Le H H' → K (vS (joinT [x] ls)) H') :
    HT prg I.strings_Join [v, vS [x]].toArray H K := by
  refine R.strings_Join ?_
  unfold F.strings_Join
  refine ob_i hv.len ?_
  refine ob_i (vInt_eql _ _ _) ?_
  refine cnd_d (fun h0 => ?_) (fun h0 => ?_)
  · obtain rfl : ls = [] := List.length_eq_zero_iff.mp (by omega)
    exact hk H (Le.refl H)
  refine ob_i (vInt_eql _ _ _) ?_
  refine cnd_d (fun h3 => ?_) (fun h3 => ?_)
  · refine ob_i (hv.ix (by omega) (by omega)) ?_
    refine ob_i (hv.ld [] (by omega) (by omega)) ?_
    obtain ⟨a, rfl⟩ := List.length_eq_one_iff.mp (show ls.length = 1 by omega)
    have := hk H (Le.refl H)
    simp only [joinT, List.flatMap_nil, List.append_nil] at this
    exact this
  obtain ⟨a, r, rfl⟩ : ∃ a r, ls = a :: r := by cases ls with | nil => simp at h0 | cons a r => exact ⟨a, r, rfl⟩
  have hjl := joinT_len x a r
  have hrl : (a :: r).length = r.length + 1 := rfl
  have h2' := h2
  generalize hLS : a :: r = ls at *
  refine jn_i (fun σ H' => σ 0 = v ∧ σ 1 = vS [x] ∧ σ 5 = .int .i64 (r.length : Int) ∧ H' = H) (fun σ H6 hP => ?_) (fun J6 hJ6 => ?_)
  · obtain ⟨g0, g1, g5, rfl⟩ := hP
    refine jn_i (fun σ' H' => σ' 0 = v ∧ σ' 1 = vS [x] ∧ σ' 5 = .int .i64 ((joinT [x] ls).length : Int) ∧ H' = H6) (fun σ7 H7 hP => ?_) (fun J7 hJ7 => ?_)
    · obtain ⟨g0, g1, g5, rfl⟩ := hP
      simp only [g0, g1, g5]
      intro rb hrb
      have hH : (H7.put rb (.cells #[.pointer none, .slice none 0 0] bdE (0, 0))) rb = some (.cells #[.pointer none, .slice none 0 0] bdE (0, 0)) := Hp.put_same _ _ _
      have hle1 : Le H7 (H7.put rb (.cells #[.pointer none, .slice none 0 0] bdE (0, 0))) := Le.put _ hrb
      refine (?_ : HT prg I.pstrings_Builder_Grow [.pointer (some ⟨rb, 0, none⟩), .int .i64 ((joinT [x] ls).length : Int)].toArray (H7.put rb (.cells #[.pointer none, .slice none 0 0] bdE (0, 0))) _)
      refine C.Builder_Grow hH (by omega) (by omega) (fun b c H11 hc1 hc2 hb hB hoth => ?_)
      have hbH : H7 b = none := by
        have : b ≠ rb := by rintro rfl; rw [hH] at hb; exact absurd hb (by simp)
        rw [Hp.put_ne _ _ this] at hb; exact hb
      have hle2 : Le H7 H11 := fun y o hy => hoth y o (hle1 y o hy) (by rintro rfl; rw [hrb] at hy; exact absurd hy (by simp))
      have keep : ∀ {A B : Hp}, Le H7 A → (∀ y o, A y = some o → y ≠ rb → y ≠ b → B y = some o) → Le H7 B := fun hA hAB y o hy =>
        hAB y o (hA y o hy) (by rintro rfl; rw [hrb] at hy; exact absurd hy (by simp)) (by rintro rfl; rw [hbH] at hy; exact absurd hy (by simp))
      have hv11 := hv.le hle2
      refine ob_i (hv11.ix (by omega) (by omega)) ?_
      refine ob_i (hv11.ld [] (by omega) (by omega)) ?_
      have ha0 : at_ [] ls 0 = a := by rw [← hLS]; rfl
      rw [ha0]
      have hal : a.length ≤ (joinT [x] ls).length := by
        rw [hjl, ← hLS]; simp; omega
      refine C.Builder_WriteString hB (by rw [Int.toNat_natCast] at hc1; simp; omega) (fun H15 hB15 hoth15 => ?_)
      have hle3 := keep hle2 hoth15
      rw [List.nil_append] at hB15
      have e1 : vSl3 1 v (some (.int .i64 1)) none none = some (vSl3 1 v (some (.int .i64 1)) none none).get! := by
        obtain ⟨y, _, hy2, _⟩ := hv.cut (lo := 1) (hi := (ls.length : Int)) (by omega) (by omega) (by omega)
        rw [hy2 rfl]; rfl
      obtain ⟨y, _, hy2, _, _, hy5, _⟩ := hv.cut (lo := 1) (hi := (ls.length : Int)) (by omega) (by omega) (by omega)
      have hy2 := hy2 rfl
      have hyl : ((ls.drop (Int.toNat 1)).take ((ls.length : Int).toNat - Int.toNat 1)) = r := by
        rw [← hLS]; simp
      rw [hyl] at hy5
      refine jn_i (fun σ' H' => σ' 8 = .pointer (some ⟨rb, 0, none⟩) ∧ Bd bdE nzE H' rb b c (joinT [x] ls) ∧ Le H7 H') (fun σ16 H16 hP => ?_) (fun J16 hJ16 => ?_)
      · obtain ⟨g8, hB16, hle16⟩ := hP
        simp only [g8]
        refine C.Builder_String hB16 (by omega) (by omega) (fun H' hoth' => ?_)
        exact hk H' (keep hle16 hoth')
      · refine ob_i hy2 ?_
        refine ob_i hy5.len ?_
        refine ⟨fun n σ' H' => ∃ t : Nat, n = r.length - t ∧ t ≤ r.length ∧ σ' 1 = vS [x] ∧ σ' 8 = .pointer (some ⟨rb, 0, none⟩) ∧ σ' 63 = y ∧ σ' 64 = .int .i64 (r.length : Int) ∧ σ' 65 = .int .i64 (t : Int) ∧ Bd bdE nzE H' rb b c (joinT [x] (ls.take (t + 1))) ∧ Le H7 H',
          ⟨_, 0, rfl, by omega, g1, rfl, rfl, rfl, rfl, by rw [← hLS]; simpa [joinT] using hB15, hle3⟩, ?_⟩
        rintro n σ' H21 ⟨t, rfl, ht, q1, q8, q63, q64, q65, hB21, hle21⟩
        simp only [q1, q8, q63, q64, q65]
        refine ob_i (vInt_lss _ _ _) ?_
        refine cnd_d (fun hlt => ?_) (fun hge => ?_)
        · have hy21 := hy5.le hle21
          refine ob_i (hy21.ix (by omega) (by omega)) ?_
          refine ob_i (hy21.ld [] (by omega) (by omega)) ?_
          have hnx : at_ [] r (t : Int) = at_ [] ls ((t + 1 : Nat) : Int) := by
            rw [at_eq [] r (by omega), at_eq [] ls (by rw [hrl]; omega)]
            subst hLS
            simp
          rw [hnx]
          have hsn := joinT_snoc [x] (at_ [] ls ((t + 1 : Nat) : Int)) (ls.take (t + 1)) (by rw [← hLS]; simp)
          rw [← take_at [] ls (by rw [hrl]; omega)] at hsn
          have hl1 : ((joinT [x] (ls.take (t + 1 + 1))).length) ≤ (joinT [x] ls).length := by
            have e2 : ls.take (t + 1 + 1) = a :: r.take (t + 1) := by rw [← hLS]; simp
            have e3 := joinT_len x a (r.take (t + 1))
            have e4 := flat_take ls (t + 1 + 1)
            rw [e2] at e4
            rw [e2, e3, hjl]
            rw [List.length_take]
            have e5 : ls.flatten.length = (a :: r).flatten.length := by rw [hLS]
            omega
          rw [hsn] at hl1
          simp only [List.length_append, List.length_singleton] at hl1
          rw [Int.toNat_natCast] at hc1
          refine C.Builder_WriteString hB21 (by simp only [List.length_singleton]; omega) (fun H26 hB26 hoth26 => ?_)
          refine C.Builder_WriteString hB26 (by simp only [List.length_append, List.length_singleton]; omega) (fun H28 hB28 hoth28 => ?_)
          refine ob_i (vInt_add (by omega) (by omega)) ?_
          exact nxt (r.length - (t + 1)) (by omega) ⟨t + 1, rfl, by omega, q1, q8, q63, q64, rfl, by rw [hsn]; exact hB28, keep (keep hle21 hoth26) hoth28⟩
        · obtain rfl : t = r.length := by omega
          refine hJ16 _ _ ⟨q8, ?_, hle21⟩
          rw [← hrl, List.take_length] at hB21
          exact hB21
    · simp only [g0, g1, g5]
      refine ob_i hv.len ?_
      refine ⟨fun n σ' H' => ∃ t : Nat, n = ls.length - t ∧ t ≤ ls.length ∧ σ' 0 = v ∧ σ' 1 = vS [x] ∧ σ' 39 = v ∧ σ' 40 = .int .i64 (ls.length : Int) ∧ σ' 41 = .int .i64 (t : Int) ∧ σ' 5 = .int .i64 ((r.length : Int) + ((ls.take t).flatten.length : Int)) ∧ H' = H6,
        ⟨_, 0, rfl, by omega, g0, g1, rfl, rfl, rfl, g5.trans (congrArg (Value.int .i64) (by simp)), rfl⟩, ?_⟩
      rintro n σ' H31 ⟨t, rfl, ht, q0, q1, q39, q40, q41, q5, rfl⟩
      simp only [q39, q40, q41, q5]
      refine ob_i (vInt_lss _ _ _) ?_
      refine cnd_d (fun hlt => ?_) (fun hge => ?_)
      · refine ob_i (hv.ix (by omega) (by omega)) ?_
        refine ob_i (hv.ld [] (by omega) (by omega)) ?_
        refine ob_i (vLenS_t _) ?_
        have hf := flat_at ls (t := t) (by omega)
        refine ob_i (vInt_sub (by omega) (by omega)) ?_
        refine ob_i (vInt_gtr _ _ _) ?_
        rw [decide_eq_false (by omega)]
        refine cnd_f1 ?_
        refine ob_i (vLenS_t _) ?_
        refine ob_i (vInt_add (by omega) (by omega)) ?_
        refine ob_i (vInt_add (by omega) (by omega)) ?_
        exact nxt (ls.length - (t + 1)) (by omega) ⟨t + 1, rfl, by omega, q0, q1, q39, q40, congrArg (Value.int .i64) (by omega), congrArg (Value.int .i64) (by rw [take_at [] ls (by omega), flat_snoc]; omega), rfl⟩
      · obtain rfl : t = ls.length := by omega
        exact hJ7 _ _ ⟨q0, q1, q5.trans (congrArg (Value.int .i64) (by rw [List.take_length, hjl]; omega)), rfl⟩
  · refine ob_i (vLenS_t [x]) ?_
    refine ob_i (vInt_gtr _ _ _) ?_
    rw [decide_eq_true (show (0 : Int) < (([x] : List UInt8).length : Int) by simp)]
    refine cnd_t1 ?_
    refine ob_i (vLenS_t [x]) ?_
    refine ob_i hv.len ?_
    refine ob_i (vInt_sub (by omega) (by omega)) ?_
    refine ob_i (vInt_quoN (by omega) (by omega) (by omega)) ?_
    refine ob_i (vInt_geq _ _ _) ?_
    have hq : (2 : Int) ≤ 9223372036854775807 / ((ls.length : Int) - 1) := (Int.le_ediv_iff_mul_le (by omega)).mpr (by omega)
    rw [decide_eq_false (by simp only [List.length_singleton]; omega)]
    refine cnd_f1 ?_
    refine ob_i (vLenS_t [x]) ?_
    refine ob_i hv.len ?_
    refine ob_i (vInt_sub (by omega) (by omega)) ?_
    refine ob_i (vInt_mul (by simp only [List.length_singleton]; omega) (by simp only [List.length_singleton]; omega)) ?_
    refine ob_i (vInt_add (by simp only [List.length_singleton]; omega) (by simp only [List.length_singleton]; omega)) ?_
    exact hJ6 _ _ ⟨rfl, rfl, congrArg (Value.int .i64) (by simp only [List.length_singleton]; omega), rfl⟩
end Go.Proofs.YtialllbbbpmkbaaDoor
/- Fields as texts. -/
namespace Go.Proofs.YtialllbbbpmkbaaDoor
open HL
set_option maxRecDepth 100000
attribute [local irreducible] vStr
theorem C.internal_strconv_small {n : Int}  {H : Hp} {K : Value → Hp → Prop} (n0 : 0 ≤ n) (n1 : n < 100)
    (hk : K (vS (decT n.toNat)) H) : HT prg I.internal_strconv_small [(.int .i64 (n))].toArray H K := by
  have lE := Le.refl H
  refine R.internal_strconv_small ?_
  unfold F.internal_strconv_small
  refine ob_i (vInt_lss _ _ _) ?_
  refine cnd_d (fun hg1 => ?_) (fun hg1 => ?_)
  · skip
    refine ob_i (vInt_add (by omega) (by omega)) ?_
    refine ob_i (vSlS_t (a := ([48, 49, 50, 51, 52, 53, 54, 55, 56, 57, 97, 98, 99, 100, 101, 102, 103, 104, 105, 106, 107, 108, 109, 110, 111, 112, 113, 114, 115, 116, 117, 118, 119, 120, 121, 122] : List UInt8)) (by omega) (by omega) (by first | omega | (simp only [List.length_append, List.length_cons, List.length_nil, List.length_take, List.length_drop]; omega))) ?_
    skip
    exact keq (K := K) (by rw [show (decT n.toNat) = (((([48, 49, 50, 51, 52, 53, 54, 55, 56, 57, 97, 98, 99, 100, 101, 102, 103, 104, 105, 106, 107, 108, 109, 110, 111, 112, 113, 114, 115, 116, 117, 118, 119, 120, 121, 122] : List UInt8)).drop (n : Int).toNat).take ((n + 1 : Int).toNat - (n : Int).toNat)) from by exact (small_one (by omega) (by omega)).symm]; try rfl) (hk )
  · skip
    refine ob_i (vInt_mul (by omega) (by omega)) ?_
    refine ob_i (vInt_mul (by omega) (by omega)) ?_
    refine ob_i (vInt_add (by omega) (by omega)) ?_
    refine ob_i (vSlS_t (a := ([48, 48, 48, 49, 48, 50, 48, 51, 48, 52, 48, 53, 48, 54, 48, 55, 48, 56, 48, 57, 49, 48, 49, 49, 49, 50, 49, 51, 49, 52, 49, 53, 49, 54, 49, 55, 49, 56, 49, 57, 50, 48, 50, 49, 50, 50, 50, 51, 50, 52, 50, 53, 50, 54, 50, 55, 50, 56, 50, 57, 51, 48, 51, 49, 51, 50, 51, 51, 51, 52, 51, 53, 51, 54, 51, 55, 51, 56, 51, 57, 52, 48, 52, 49, 52, 50, 52, 51, 52, 52, 52, 53, 52, 54, 52, 55, 52, 56, 52, 57, 53, 48, 53, 49, 53, 50, 53, 51, 53, 52, 53, 53, 53, 54, 53, 55, 53, 56, 53, 57, 54, 48, 54, 49, 54, 50, 54, 51, 54, 52, 54, 53, 54, 54, 54, 55, 54, 56, 54, 57, 55, 48, 55, 49, 55, 50, 55, 51, 55, 52, 55, 53, 55, 54, 55, 55, 55, 56, 55, 57, 56, 48, 56, 49, 56, 50, 56, 51, 56, 52, 56, 53, 56, 54, 56, 55, 56, 56, 56, 57, 57, 48, 57, 49, 57, 50, 57, 51, 57, 52, 57, 53, 57, 54, 57, 55, 57, 56, 57, 57] : List UInt8)) (by omega) (by omega) (by first | omega | (simp only [List.length_append, List.length_cons, List.length_nil, List.length_take, List.length_drop]; omega))) ?_
    skip
    exact keq (K := K) (by rw [show (decT n.toNat) = (((([48, 48, 48, 49, 48, 50, 48, 51, 48, 52, 48, 53, 48, 54, 48, 55, 48, 56, 48, 57, 49, 48, 49, 49, 49, 50, 49, 51, 49, 52, 49, 53, 49, 54, 49, 55, 49, 56, 49, 57, 50, 48, 50, 49, 50, 50, 50, 51, 50, 52, 50, 53, 50, 54, 50, 55, 50, 56, 50, 57, 51, 48, 51, 49, 51, 50, 51, 51, 51, 52, 51, 53, 51, 54, 51, 55, 51, 56, 51, 57, 52, 48, 52, 49, 52, 50, 52, 51, 52, 52, 52, 53, 52, 54, 52, 55, 52, 56, 52, 57, 53, 48, 53, 49, 53, 50, 53, 51, 53, 52, 53, 53, 53, 54, 53, 55, 53, 56, 53, 57, 54, 48, 54, 49, 54, 50, 54, 51, 54, 52, 54, 53, 54, 54, 54, 55, 54, 56, 54, 57, 55, 48, 55, 49, 55, 50, 55, 51, 55, 52, 55, 53, 55, 54, 55, 55, 55, 56, 55, 57, 56, 48, 56, 49, 56, 50, 56, 51, 56, 52, 56, 53, 56, 54, 56, 55, 56, 56, 56, 57, 57, 48, 57, 49, 57, 50, 57, 51, 57, 52, 57, 53, 57, 54, 57, 55, 57, 56, 57, 57] : List UInt8)).drop (n * 2 : Int).toNat).take (((n * 2) + 2 : Int).toNat - (n * 2 : Int).toNat)) from by exact (small_two (by omega) (by omega)).symm]; try rfl) (hk )
theorem C.internal_strconv_FormatInt {n : Int}  {H : Hp} {K : Value → Hp → Prop} (n0 : 0 ≤ n) (n1 : n < 100)
    (hk : K (vS (decT n.toNat)) H) : HT prg I.internal_strconv_FormatInt [(.int .i64 (n)), (.int .i64 (10))].toArray H K := by
  have lE := Le.refl H
  refine R.internal_strconv_FormatInt ?_
  unfold F.internal_strconv_FormatInt
  refine ob_i (a := .bool true) (by kernel_rfl) ?_
  refine cnd_t1 ?_
  refine ob_i (vInt_leq _ _ _) ?_
  by_cases hc1 : 0 ≤ n
  · skip
    refine gop_e (decide_eq_true hc1) ?_
    refine gop_rt ?_
    refine gop_e (decide_eq_true hc1) ?_
    refine gop_rt ?_
    refine ob_i (vInt_lss _ _ _) ?_
    refine ob_i (vPick_et (decide_eq_true hc1) _ _) ?_
    refine cnd_d (fun hg2 => ?_) (fun hg2 => ?_)
    · skip
      refine C.internal_strconv_small (by first | omega | assumption) (by first | omega | assumption) ?_
      skip
      exact hk 
    · skip
      exact absurd hg2 ((fun h => h n1))
  · skip
    exact absurd hc1 ((fun h => h n0))
theorem C.strconv_FormatInt {n : Int}  {H : Hp} {K : Value → Hp → Prop} (n0 : 0 ≤ n) (n1 : n < 100)
    (hk : K (vS (decT n.toNat)) H) : HT prg I.strconv_FormatInt [(.int .i64 (n)), (.int .i64 (10))].toArray H K := by
  have lE := Le.refl H
  refine R.strconv_FormatInt ?_
  unfold F.strconv_FormatInt
  refine C.internal_strconv_FormatInt (by first | omega | assumption) (by first | omega | assumption) ?_
  skip
  exact hk 
theorem C.impl_Decimal {n : Int}  {H : Hp} {K : Value → Hp → Prop} (n0 : 0 ≤ n) (n1 : n < 100)
    (hk : K (vS (decT n.toNat)) H) : HT prg I.impl_Decimal [(.int .i64 (n))].toArray H K := by
  have lE := Le.refl H
  refine R.impl_Decimal ?_
  unfold F.impl_Decimal
  refine C.strconv_FormatInt (by first | omega | assumption) (by first | omega | assumption) ?_
  skip
  exact hk 
theorem C.l05Number_d {n : Int}  {H : Hp} {K : Value → Hp → Prop} (n0 : 0 ≤ n) (n1 : n < 10)
    (hk : ∀ H', Le H H' → K (vS (decT n.toNat)) H') : HT prg I.spec_l05Number [(.int .i64 (n))].toArray H K := by
  have lE := Le.refl H
  refine R.spec_l05Number ?_
  unfold F.spec_l05Number
  refine ob_i (vInt_lss _ _ _) ?_
  refine cnd_d (fun hg1 => ?_) (fun hg1 => ?_)
  · skip
    refine ob_i (vInt_add (by omega) (by omega)) ?_
    refine ob_i (vCI_u8 (by omega) (by omega)) ?_
    refine bS_i (enc := eU) (l := [48 + n]) (by omega) rfl (by kernel_rfl) (fun u2 H3 ou2 nn4 le6 => ?_)
    have nu2 : Nw H u2 := nn4.le lE
    replace lE := lE.trans le6
    refine ob_i (val_convT (by kernel_rfl) ou2.sl) ?_
    skip
    exact keq (K := K) (by rw [show (decT n.toNat) = (btT ([48 + n])) from by exact (num_one (by omega) (by omega)).symm]; try rfl) (hk   _    lE)
  · skip
    exact absurd hg1 ((fun h => h n1))
theorem C.spec_l05Number {n : Int}  {H : Hp} {K : Value → Hp → Prop} (n0 : 0 ≤ n) (n1 : n < 100)
    (hk : ∀ H', Le H H' → K (vS (decT n.toNat)) H') : HT prg I.spec_l05Number [(.int .i64 (n))].toArray H K := by
  have lE := Le.refl H
  refine R.spec_l05Number ?_
  unfold F.spec_l05Number
  have d1 := decT_len (n / 10).toNat
  have d2 : (btT ([48 + (n % 10)])).length = 1 := rfl
  refine ob_i (vInt_lss _ _ _) ?_
  refine cnd_d (fun hg1 => ?_) (fun hg1 => ?_)
  · skip
    refine ob_i (vInt_add (by omega) (by omega)) ?_
    refine ob_i (vCI_u8 (by omega) (by omega)) ?_
    refine bS_i (enc := eU) (l := [48 + n]) (by omega) rfl (by kernel_rfl) (fun u2 H3 ou2 nn4 le6 => ?_)
    have nu2 : Nw H u2 := nn4.le lE
    replace lE := lE.trans le6
    refine ob_i (val_convT (by kernel_rfl) ou2.sl) ?_
    skip
    exact keq (K := K) (by rw [show (decT n.toNat) = (btT ([48 + n])) from by exact (num_one (by omega) (by omega)).symm]; try rfl) (hk   _    lE)
  · skip
    refine ⟨?_, ?_⟩
    · skip
      refine ob_i (vInt_quoN (by omega) (by omega) (by omega)) ?_
      refine ob_i (vInt_remN (by omega) (by omega)) ?_
      refine ob_i (vInt_add (by omega) (by omega)) ?_
      refine ob_i (vCI_u8 (by omega) (by omega)) ?_
      refine C.l05Number_d (by first | omega | assumption) (by first | omega | assumption) (fun   H7    le8 => ?_)
      replace lE := lE.trans le8
      refine ⟨le8, ?_⟩
      refine bS_i (enc := eU) (l := [48 + (n % 10)]) (by omega) rfl (by kernel_rfl) (fun u9 H10 ou9 nn11 le13 => ?_)
      have nu9 : Nw H u9 := nn11.le lE
      replace lE := lE.trans le13
      refine ob_i (val_convT (by kernel_rfl) ou9.sl) ?_
      refine ob_i (vStr_add (a := decT (n / 10).toNat) (b := btT ([48 + (n % 10)])) (by first | omega | (simp only [List.length_append, List.length_cons, List.length_nil, List.length_take, List.length_drop]; omega))) ?_
      skip
      exact keq (K := K) (by rw [show (decT n.toNat) = ((decT (n / 10).toNat) ++ (btT ([48 + (n % 10)]))) from by exact (num_two (by omega) (by omega)).symm]; try rfl) (hk   _    lE)
    · skip
      refine ob_i (vInt_quoN (by omega) (by omega) (by omega)) ?_
      refine ob_i (vInt_remN (by omega) (by omega)) ?_
      refine ob_i (vInt_add (by omega) (by omega)) ?_
      refine ob_i (vCI_u8 (by omega) (by omega)) ?_
      refine bS_i (enc := eU) (l := [48 + (n % 10)]) (by omega) rfl (by kernel_rfl) (fun u14 H15 ou14 nn16 le18 => ?_)
      have nu14 : Nw H u14 := nn16.le lE
      replace lE := lE.trans le18
      refine ob_i (val_convT (by kernel_rfl) ou14.sl) ?_
      refine C.l05Number_d (by first | omega | assumption) (by first | omega | assumption) (fun   H19    le20 => ?_)
      replace ou14 := ou14.le le20
      replace lE := lE.trans le20
      refine ⟨le20, ?_⟩
      refine ob_i (vStr_add (a := decT (n / 10).toNat) (b := btT ([48 + (n % 10)])) (by first | omega | (simp only [List.length_append, List.length_cons, List.length_nil, List.length_take, List.length_drop]; omega))) ?_
      skip
      exact keq (K := K) (by rw [show (decT n.toNat) = ((decT (n / 10).toNat) ++ (btT ([48 + (n % 10)]))) from by exact (num_two (by omega) (by omega)).symm]; try rfl) (hk   _    lE)
theorem C.impl_runsText {v : Value} {row : List Int}  {H : Hp} {K : Value → Hp → Prop} (hv0 : Sl eI H v row) (h1 : row.length ≤ 24) (hx : ∀ x ∈ row, 0 ≤ x ∧ x ≤ 1)
    (hk : ∀ H', Le H H' → K (vS (rtx row)) H') : HT prg I.impl_runsText [v].toArray H K := by
  have lE := Le.refl H
  have hv := hv0
  refine R.impl_runsText ?_
  unfold F.impl_runsText
  have rl := rtx_len row.length row (Nat.le_refl _)
  refine jn_i (fun σ' H' => σ' 3 = (vS (rtx row)) ∧ Le H H') (fun σ1 H1 hP => ?_) (fun J1 hJ1 => ?_)
  · skip
    obtain ⟨g3L1, lE⟩ := hP
    have hv := hv0.le lE
    try simp only [g3L1]
    skip
    exact hk   _    lE
  refine ⟨fun n' σ' H' => ∃ i : Nat, n' = row.length - i ∧ i ≤ row.length ∧ ∃ out : List UInt8, ∃ a : Nat, σ' 0 = v ∧ σ' 3 = (vS (out)) ∧ σ' 4 = (.int .i64 ((a : Int))) ∧ Le H H' ∧ i ≤ a ∧ a ≤ row.length ∧ out ++ rtx (row.drop a) = rtx row,
    ⟨_, 0, rfl, by omega, [], 0, rfl, rfl, (congrArg (Value.int .i64) (by first | omega | rfl | (simp; done))), lE, (by omega), (by omega), rfl⟩, ?_⟩
  rintro n2 σ2 H2 ⟨i, rfl, hiN, out, a, g0L2, g3L2, g4L2, lE, hm0, hm1, hm2⟩
  have hv := hv0.le lE
  try simp only [g0L2, g3L2, g4L2]
  have ol := congrArg List.length hm2
  rw [List.length_append] at ol
  refine ob_i (hv.len) ?_
  refine ob_i (vInt_lss _ _ _) ?_
  refine cnd_d (fun hg3 => ?_) (fun hg3 => ?_)
  · skip
    have ti := hg3
    refine jn_i (fun σ' H' => ∃ k : Nat, σ' 0 = v ∧ σ' 3 = (vS (out)) ∧ σ' 4 = (.int .i64 ((a : Int))) ∧ σ' 5 = (.int .i64 ((a : Int) + (k : Int))) ∧ Le H H' ∧ k = rN (at_ 0 row (a : Int)) (row.drop a) ∧ a + k ≤ row.length ∧ 1 ≤ k) (fun σ4 H4 hP => ?_) (fun J4 hJ4 => ?_)
    · skip
      obtain ⟨k, g0L4, g3L4, g4L4, g5L4, lE, hk, hk2, hk3⟩ := hP
      have hv := hv0.le lE
      try simp only [g0L4, g3L4, g4L4, g5L4]
      have dl := decT_len (((a : Int) + (k : Int)) - (a : Int)).toNat
      have xa := hx _ (at_mem 0 row (i := (a : Int)) (by omega) (by omega))
      refine ob_i (hv.ix (by omega) (by omega)) ?_
      refine ob_i (hv.ld 0 (by omega) (by omega)) ?_
      refine ob_i (vInt_eql _ _ _) ?_
      by_cases hc5 : (at_ 0 (row) ((a : Int))) = 0
      · skip
        refine gop_e (decide_eq_true hc5) ?_
        refine gop_rt ?_
        refine gop_e (decide_eq_true hc5) ?_
        refine gop_rt ?_
        refine gop_e (decide_eq_true hc5) ?_
        refine gop_rt ?_
        refine ob_i (hv.len) ?_
        refine gop_e (decide_eq_true hc5) ?_
        refine gop_rt ?_
        refine ob_i (vInt_eql _ _ _) ?_
        refine ob_i (vPick_et (decide_eq_true hc5) _ _) ?_
        refine cnd_d (fun hg6 => ?_) (fun hg6 => ?_)
        · skip
          have hfin : out = rtx row := by rw [← hm2, rtx_stop (a := a) (k := k) (by omega) hk ⟨hc5, by omega⟩, List.append_nil]
          exact hJ1 _ _ ⟨(g3L4.trans (congrArg vS hfin)), lE⟩
        · skip
          refine ob_i (vInt_sub (by omega) (by omega)) ?_
          refine ob_i (vInt_gtr _ _ _) ?_
          refine cnd_d (fun hg7 => ?_) (fun hg7 => ?_)
          · skip
            refine ob_i (vInt_sub (by omega) (by omega)) ?_
            refine C.impl_Decimal (by first | omega | assumption) (by first | omega | assumption) ?_
            refine ob_i (vStr_add (a := out) (b := decT (((a : Int) + (k : Int)) - (a : Int)).toNat) (by first | omega | (simp only [List.length_append, List.length_cons, List.length_nil, List.length_take, List.length_drop]; omega))) ?_
            refine ob_i (hv.ix (by omega) (by omega)) ?_
            refine ob_i (hv.ld 0 (by omega) (by omega)) ?_
            refine ob_i (hv.ix (by omega) (by omega)) ?_
            refine ob_i (hv.ld 0 (by omega) (by omega)) ?_
            refine ob_i (vInt_add (by omega) (by omega)) ?_
            refine ob_i (vSlS_t (a := ([98, 111] : List UInt8)) (by omega) (by omega) (by first | omega | (simp only [List.length_append, List.length_cons, List.length_nil, List.length_take, List.length_drop]; omega))) ?_
            refine ob_i (vStr_add (a := out ++ (decT (((a : Int) + (k : Int)) - (a : Int)).toNat)) (b := ((([98, 111] : List UInt8)).drop (at_ 0 (row) ((a : Int)) : Int).toNat).take (((at_ 0 (row) ((a : Int))) + 1 : Int).toNat - (at_ 0 (row) ((a : Int)) : Int).toNat)) (by first | omega | (simp only [List.length_append, List.length_cons, List.length_nil, List.length_take, List.length_drop]; omega))) ?_
            exact nxt (row.length - (i + 1)) (by omega) ⟨i + 1, rfl, by omega, ((out ++ (decT (((a : Int) + (k : Int)) - (a : Int)).toNat)) ++ (((([98, 111] : List UInt8)).drop (at_ 0 (row) ((a : Int)) : Int).toNat).take (((at_ 0 (row) ((a : Int))) + 1 : Int).toNat - (at_ 0 (row) ((a : Int)) : Int).toNat))), (a + k), g0L4, rfl, (congrArg (Value.int .i64) (by omega)), lE, (by omega), (by omega), (by have hr := rtx_run (a := a) (k := k) (by omega) hk (fun h => by exact hg6 (by omega)); rw [← hm2, hr, if_neg (show ¬ k = 1 by omega)]; rw [bo_T (hx _ (at_mem 0 row (by omega) (by omega))).1 (hx _ (at_mem 0 row (by omega) (by omega))).2]; rw [show ((a : Int) + (k : Int) - (a : Int)).toNat = k by omega]; simp only [List.append_assoc, List.nil_append])⟩
          · skip
            refine ob_i (hv.ix (by omega) (by omega)) ?_
            refine ob_i (hv.ld 0 (by omega) (by omega)) ?_
            refine ob_i (hv.ix (by omega) (by omega)) ?_
            refine ob_i (hv.ld 0 (by omega) (by omega)) ?_
            refine ob_i (vInt_add (by omega) (by omega)) ?_
            refine ob_i (vSlS_t (a := ([98, 111] : List UInt8)) (by omega) (by omega) (by first | omega | (simp only [List.length_append, List.length_cons, List.length_nil, List.length_take, List.length_drop]; omega))) ?_
            refine ob_i (vStr_add (a := out) (b := ((([98, 111] : List UInt8)).drop (at_ 0 (row) ((a : Int)) : Int).toNat).take (((at_ 0 (row) ((a : Int))) + 1 : Int).toNat - (at_ 0 (row) ((a : Int)) : Int).toNat)) (by first | omega | (simp only [List.length_append, List.length_cons, List.length_nil, List.length_take, List.length_drop]; omega))) ?_
            exact nxt (row.length - (i + 1)) (by omega) ⟨i + 1, rfl, by omega, (out ++ (((([98, 111] : List UInt8)).drop (at_ 0 (row) ((a : Int)) : Int).toNat).take (((at_ 0 (row) ((a : Int))) + 1 : Int).toNat - (at_ 0 (row) ((a : Int)) : Int).toNat))), (a + k), g0L4, rfl, (congrArg (Value.int .i64) (by omega)), lE, (by omega), (by omega), (by have hr := rtx_run (a := a) (k := k) (by omega) hk (fun h => by exact hg6 (by omega)); rw [← hm2, hr, if_pos (show k = 1 by omega)]; rw [bo_T (hx _ (at_mem 0 row (by omega) (by omega))).1 (hx _ (at_mem 0 row (by omega) (by omega))).2]; simp only [List.append_assoc, List.nil_append])⟩
      · skip
        refine gop_e (decide_eq_false hc5) ?_
        refine gop_sf ?_
        refine gop_e (decide_eq_false hc5) ?_
        refine gop_sf ?_
        refine gop_e (decide_eq_false hc5) ?_
        refine gop_sf ?_
        refine gop_e (decide_eq_false hc5) ?_
        refine gop_sf ?_
        refine ob_i (vPick_ef (decide_eq_false hc5) _ _) ?_
        refine cnd_f1 ?_
        refine ob_i (vInt_sub (by omega) (by omega)) ?_
        refine ob_i (vInt_gtr _ _ _) ?_
        refine cnd_d (fun hg8 => ?_) (fun hg8 => ?_)
        · skip
          refine ob_i (vInt_sub (by omega) (by omega)) ?_
          refine C.impl_Decimal (by first | omega | assumption) (by first | omega | assumption) ?_
          refine ob_i (vStr_add (a := out) (b := decT (((a : Int) + (k : Int)) - (a : Int)).toNat) (by first | omega | (simp only [List.length_append, List.length_cons, List.length_nil, List.length_take, List.length_drop]; omega))) ?_
          refine ob_i (hv.ix (by omega) (by omega)) ?_
          refine ob_i (hv.ld 0 (by omega) (by omega)) ?_
          refine ob_i (hv.ix (by omega) (by omega)) ?_
          refine ob_i (hv.ld 0 (by omega) (by omega)) ?_
          refine ob_i (vInt_add (by omega) (by omega)) ?_
          refine ob_i (vSlS_t (a := ([98, 111] : List UInt8)) (by omega) (by omega) (by first | omega | (simp only [List.length_append, List.length_cons, List.length_nil, List.length_take, List.length_drop]; omega))) ?_
          refine ob_i (vStr_add (a := out ++ (decT (((a : Int) + (k : Int)) - (a : Int)).toNat)) (b := ((([98, 111] : List UInt8)).drop (at_ 0 (row) ((a : Int)) : Int).toNat).take (((at_ 0 (row) ((a : Int))) + 1 : Int).toNat - (at_ 0 (row) ((a : Int)) : Int).toNat)) (by first | omega | (simp only [List.length_append, List.length_cons, List.length_nil, List.length_take, List.length_drop]; omega))) ?_
          exact nxt (row.length - (i + 1)) (by omega) ⟨i + 1, rfl, by omega, ((out ++ (decT (((a : Int) + (k : Int)) - (a : Int)).toNat)) ++ (((([98, 111] : List UInt8)).drop (at_ 0 (row) ((a : Int)) : Int).toNat).take (((at_ 0 (row) ((a : Int))) + 1 : Int).toNat - (at_ 0 (row) ((a : Int)) : Int).toNat))), (a + k), g0L4, rfl, (congrArg (Value.int .i64) (by omega)), lE, (by omega), (by omega), (by have hr := rtx_run (a := a) (k := k) (by omega) hk (fun h => by exact hc5 h.1); rw [← hm2, hr, if_neg (show ¬ k = 1 by omega)]; rw [bo_T (hx _ (at_mem 0 row (by omega) (by omega))).1 (hx _ (at_mem 0 row (by omega) (by omega))).2]; rw [show ((a : Int) + (k : Int) - (a : Int)).toNat = k by omega]; simp only [List.append_assoc, List.nil_append])⟩
        · skip
          refine ob_i (hv.ix (by omega) (by omega)) ?_
          refine ob_i (hv.ld 0 (by omega) (by omega)) ?_
          refine ob_i (hv.ix (by omega) (by omega)) ?_
          refine ob_i (hv.ld 0 (by omega) (by omega)) ?_
          refine ob_i (vInt_add (by omega) (by omega)) ?_
          refine ob_i (vSlS_t (a := ([98, 111] : List UInt8)) (by omega) (by omega) (by first | omega | (simp only [List.length_append, List.length_cons, List.length_nil, List.length_take, List.length_drop]; omega))) ?_
          refine ob_i (vStr_add (a := out) (b := ((([98, 111] : List UInt8)).drop (at_ 0 (row) ((a : Int)) : Int).toNat).take (((at_ 0 (row) ((a : Int))) + 1 : Int).toNat - (at_ 0 (row) ((a : Int)) : Int).toNat)) (by first | omega | (simp only [List.length_append, List.length_cons, List.length_nil, List.length_take, List.length_drop]; omega))) ?_
          exact nxt (row.length - (i + 1)) (by omega) ⟨i + 1, rfl, by omega, (out ++ (((([98, 111] : List UInt8)).drop (at_ 0 (row) ((a : Int)) : Int).toNat).take (((at_ 0 (row) ((a : Int))) + 1 : Int).toNat - (at_ 0 (row) ((a : Int)) : Int).toNat))), (a + k), g0L4, rfl, (congrArg (Value.int .i64) (by omega)), lE, (by omega), (by omega), (by have hr := rtx_run (a := a) (k := k) (by omega) hk (fun h => by exact hc5 h.1); rw [← hm2, hr, if_pos (show k = 1 by omega)]; rw [bo_T (hx _ (at_mem 0 row (by omega) (by omega))).1 (hx _ (at_mem 0 row (by omega) (by omega))).2]; simp only [List.append_assoc, List.nil_append])⟩
    refine ⟨fun n' σ' H' => ∃ j : Nat, n' = row.length - j ∧ j ≤ row.length ∧ σ' 0 = v ∧ σ' 3 = (vS (out)) ∧ σ' 4 = (.int .i64 ((a : Int))) ∧ σ' 5 = (.int .i64 ((a : Int) + (j : Int))) ∧ Le H H' ∧ j ≤ rN (at_ 0 row (a : Int)) (row.drop a) ∧ a + j ≤ row.length,
      ⟨_, 0, rfl, by omega, g0L2, g3L2, g4L2, (congrArg (Value.int .i64) (by first | omega | rfl | (simp; done))), lE, (by omega), (by omega)⟩, ?_⟩
    rintro n9 σ9 H9 ⟨j, rfl, hjN, g0L9, g3L9, g4L9, g5L9, lE, hm0', hm1'⟩
    have hv := hv0.le lE
    try simp only [g0L9, g4L9, g5L9]
    refine ob_i (hv.len) ?_
    refine ob_i (vInt_lss _ _ _) ?_
    by_cases hc10 : ((a : Int) + (j : Int)) < (((row).length : Int))
    · skip
      refine gop_e (decide_eq_true hc10) ?_
      refine gop_rt ?_
      refine gop_e (decide_eq_true hc10) ?_
      refine gop_rt ?_
      refine gop_e (decide_eq_true hc10) ?_
      refine gop_rt ?_
      refine ob_i (hv.ix (by omega) (by omega)) ?_
      refine gop_e (decide_eq_true hc10) ?_
      refine gop_rt ?_
      refine ob_i (hv.ld 0 (by omega) (by omega)) ?_
      refine gop_e (decide_eq_true hc10) ?_
      refine gop_rt ?_
      refine gop_e (decide_eq_true hc10) ?_
      refine gop_rt ?_
      refine gop_e (decide_eq_true hc10) ?_
      refine gop_rt ?_
      refine ob_i (hv.ix (by omega) (by omega)) ?_
      refine gop_e (decide_eq_true hc10) ?_
      refine gop_rt ?_
      refine ob_i (hv.ld 0 (by omega) (by omega)) ?_
      refine gop_e (decide_eq_true hc10) ?_
      refine gop_rt ?_
      refine ob_i (vInt_eql _ _ _) ?_
      refine ob_i (vPick_et (decide_eq_true hc10) _ _) ?_
      refine cnd_d (fun hg11 => ?_) (fun hg11 => ?_)
      · skip
        refine ob_i (vInt_add (by omega) (by omega)) ?_
        exact nxt (row.length - (j + 1)) (by omega) ⟨j + 1, rfl, by omega, g0L9, g3L9, g4L9, (congrArg (Value.int .i64) (by first | omega | rfl | (simp; done))), lE, (by have := run_next (a := a) (e := a + j) (by omega) (by rw [show a + j - a = j by omega]; exact hm0') (by omega) (by rw [show ((a + j : Nat) : Int) = (a : Int) + (j : Int) by omega]; exact hg11); omega), (by omega)⟩
      · skip
        exact hJ4 _ _ ⟨j, g0L9, g3L9, g4L9, (g5L9.trans (congrArg (Value.int .i64) (by first | omega | rfl | (simp; done)))), lE, (by have := run_end (a := a) (e := a + j) (by omega) (by rw [show a + j - a = j by omega]; exact hm0') (by omega) (Or.inr (by rw [show ((a + j : Nat) : Int) = (a : Int) + (j : Int) by omega]; exact hg11)); omega), (by omega), (by have h9 := run_end (a := a) (e := a + j) (by omega) (by rw [show a + j - a = j by omega]; exact hm0') (by omega) (Or.inr (by rw [show ((a + j : Nat) : Int) = (a : Int) + (j : Int) by omega]; exact hg11)); have := (run_pos (row := row) (a := a) (by omega)).1; omega)⟩
    · skip
      refine gop_e (decide_eq_false hc10) ?_
      refine gop_sf ?_
      refine gop_e (decide_eq_false hc10) ?_
      refine gop_sf ?_
      refine gop_e (decide_eq_false hc10) ?_
      refine gop_sf ?_
      refine gop_e (decide_eq_false hc10) ?_
      refine gop_sf ?_
      refine gop_e (decide_eq_false hc10) ?_
      refine gop_sf ?_
      refine gop_e (decide_eq_false hc10) ?_
      refine gop_sf ?_
      refine gop_e (decide_eq_false hc10) ?_
      refine gop_sf ?_
      refine gop_e (decide_eq_false hc10) ?_
      refine gop_sf ?_
      refine gop_e (decide_eq_false hc10) ?_
      refine gop_sf ?_
      refine ob_i (vPick_ef (decide_eq_false hc10) _ _) ?_
      refine cnd_f1 ?_
      exact hJ4 _ _ ⟨j, g0L9, g3L9, g4L9, (g5L9.trans (congrArg (Value.int .i64) (by first | omega | rfl | (simp; done)))), lE, (by have := run_end (a := a) (e := a + j) (by omega) (by rw [show a + j - a = j by omega]; exact hm0') (by omega) (Or.inl (by omega)); omega), (by omega), (by have h9 := run_end (a := a) (e := a + j) (by omega) (by rw [show a + j - a = j by omega]; exact hm0') (by omega) (Or.inl (by omega)); have := (run_pos (row := row) (a := a) (by omega)).1; omega)⟩
  · skip
    have ti := hg3
    have hfin : out = rtx row := by rw [← hm2, show row.drop a = [] from List.drop_eq_nil_of_le (by omega), rtx_nil, List.append_nil]
    exact hJ1 _ _ ⟨(g3L2.trans (congrArg vS hfin)), lE⟩
theorem C.spec_l05Write {p vc : Value} {r c : Int} {l : List Int}  {H : Hp} {K : Value → Hp → Prop} (hp0 : CelR H p [(.int .i64 (r)), (.int .i64 (c)), vc]) (hvc0 : Sl eI H vc l) (hf : fieldN 1 r c l)
    (hk : ∀ H', Le H H' → K (vS (fieldT r c l)) H') : HT prg I.spec_l05Write [p].toArray H K := by
  have lE := Le.refl H
  have hp := hp0
  have hvc := hvc0
  refine R.spec_l05Write ?_
  unfold F.spec_l05Write
  have hs := hf.1
  have hl := hf.2.1
  have q1 := hs.1
  have q2 := hs.2
  have qm := sidesF_mul hs
  have l1 := fieldN_len hf
  have dc := decT_len c.toNat
  have dr := decT_len r.toNat
  refine ob_i (hp.nilC) ?_
  refine ob_i (hp.fa 1) ?_
  refine ob_i (hp.ld 1 rfl) ?_
  refine ob_i (hp.nilC) ?_
  refine ob_i (hp.fa 0) ?_
  refine ob_i (hp.ld 0 rfl) ?_
  refine C.spec_l05Number (by first | omega | assumption) (by first | omega | assumption) (fun   H1    le2 => ?_)
  replace hp := hp.le le2
  replace hvc := hvc.le le2
  replace lE := lE.trans le2
  refine ⟨le2, ?_⟩
  refine ob_i (vStr_add (a := decT c.toNat) (b := ([44] : List UInt8)) (by first | omega | (simp only [List.length_append, List.length_cons, List.length_nil, List.length_take, List.length_drop]; omega))) ?_
  refine C.spec_l05Number (by first | omega | assumption) (by first | omega | assumption) (fun   H3    le4 => ?_)
  replace hp := hp.le le4
  replace hvc := hvc.le le4
  replace lE := lE.trans le4
  refine ⟨le4, ?_⟩
  refine ob_i (vStr_add (a := (decT c.toNat) ++ ([44] : List UInt8)) (b := decT r.toNat) (by first | omega | (simp only [List.length_append, List.length_cons, List.length_nil, List.length_take, List.length_drop]; omega))) ?_
  refine ob_i (vStr_add (a := ((decT c.toNat) ++ ([44] : List UInt8)) ++ (decT r.toNat)) (b := ([58] : List UInt8)) (by first | omega | (simp only [List.length_append, List.length_cons, List.length_nil, List.length_take, List.length_drop]; omega))) ?_
  refine jn_i (fun σ' H' => σ' 3 = (vS (headT r c ++ joinR c.toNat l r.toNat)) ∧ Le H H') (fun σ5 H5 hP => ?_) (fun J5 hJ5 => ?_)
  · skip
    obtain ⟨g3L5, lE⟩ := hP
    have hp := hp0.le lE
    have hvc := hvc0.le lE
    try simp only [g3L5]
    have jl0 := joinR_len (c := c.toNat) (l := l) r.toNat
    have jm0 : r.toNat * (3 * c.toNat + 1) ≤ 24 * 73 := Nat.mul_le_mul (by omega) (by omega)
    have hl0 := headT_len r c
    refine ob_i (vStr_add (a := headT r c ++ joinR c.toNat l r.toNat) (b := ([33] : List UInt8)) (by first | omega | (simp only [List.length_append, List.length_cons, List.length_nil, List.length_take, List.length_drop]; omega))) ?_
    skip
    exact keq (K := K) (by rw [show (fieldT r c l) = ((headT r c ++ joinR c.toNat l r.toNat) ++ ([33] : List UInt8)) from by rfl]; try rfl) (hk   _    lE)
  refine ⟨fun n' σ' H' => ∃ i : Nat, n' = r.toNat - i ∧ i ≤ r.toNat ∧ σ' 0 = p ∧ σ' 3 = (vS (headT r c ++ joinR c.toNat l i)) ∧ σ' 4 = (.int .i64 ((i : Int))) ∧ Le H H',
    ⟨_, 0, rfl, by omega, rfl, (congrArg vS (by rw [joinR_zero, List.append_nil]; rfl)), (congrArg (Value.int .i64) (by first | omega | rfl | (simp; done))), lE⟩, ?_⟩
  rintro n6 σ6 H6 ⟨i, rfl, hiN, g0L6, g3L6, g4L6, lE⟩
  have hp := hp0.le lE
  have hvc := hvc0.le lE
  try simp only [g0L6, g3L6, g4L6]
  have jl0 := joinR_len (c := c.toNat) (l := l) i
  have jm0 : i * (3 * c.toNat + 1) ≤ 24 * 73 := Nat.mul_le_mul (by omega) (by omega)
  have hl0 := headT_len r c
  refine ob_i (hp.nilC) ?_
  refine ob_i (hp.fa 0) ?_
  refine ob_i (hp.ld 0 rfl) ?_
  refine ob_i (vInt_lss _ _ _) ?_
  refine cnd_d (fun hg7 => ?_) (fun hg7 => ?_)
  · skip
    have ti := hg7
    have rm := row_mul (i := i) hs (by omega)
    refine jn_i (fun σ' H' => σ' 0 = p ∧ σ' 3 = (vS (headT r c ++ joinR c.toNat l (i + 1))) ∧ σ' 4 = (.int .i64 ((i : Int))) ∧ Le H H') (fun σ8 H8 hP => ?_) (fun J8 hJ8 => ?_)
    · skip
      obtain ⟨g0L8, g3L8, g4L8, lE⟩ := hP
      have hp := hp0.le lE
      have hvc := hvc0.le lE
      try simp only [g4L8]
      refine ob_i (vInt_add (by omega) (by omega)) ?_
      exact nxt (r.toNat - (i + 1)) (by omega) ⟨i + 1, rfl, by omega, g0L8, g3L8, (congrArg (Value.int .i64) (by first | omega | rfl | (simp; done))), lE⟩
    refine jn_i (fun σ' H' => ∃ B : List UInt8, σ' 0 = p ∧ σ' 3 = (vS (B)) ∧ σ' 4 = (.int .i64 ((i : Int))) ∧ Le H H' ∧ B ++ rtx (rowL c.toNat l i) = headT r c ++ joinR c.toNat l (i + 1)) (fun σ9 H9 hP => ?_) (fun J9 hJ9 => ?_)
    · skip
      obtain ⟨B, g0L9, g3L9, g4L9, lE, hB⟩ := hP
      have hp := hp0.le lE
      have hvc := hvc0.le lE
      try simp only [g0L9, g3L9, g4L9]
      refine ob_i (hp.nilC) ?_
      refine ob_i (hp.fa 2) ?_
      refine ob_i (hp.ld 2 rfl) ?_
      refine ob_i (hp.nilC) ?_
      refine ob_i (hp.fa 1) ?_
      refine ob_i (hp.ld 1 rfl) ?_
      refine ob_i (vInt_mul (by omega) (by omega)) ?_
      refine ob_i (vInt_add (by omega) (by omega)) ?_
      refine ob_i (hp.nilC) ?_
      refine ob_i (hp.fa 1) ?_
      refine ob_i (hp.ld 1 rfl) ?_
      refine ob_i (vInt_mul (by omega) (by omega)) ?_
      obtain ⟨x10, eq11a, eq11b, eq11c, eq11d, hx100, hb12⟩ := hvc0.cut (lo := (i : Int) * c) (hi := ((i : Int) + 1) * c) (by omega) (by omega) (by omega)
      refine ob_i (eq11a) ?_
      rw [row_eq (l := l) (i := i) hs (by omega)] at hx100
      obtain ⟨row, hr0⟩ : ∃ row, row = rowL c.toNat l i := ⟨_, rfl⟩
      rw [← hr0] at hx100 hB
      have hrl : row.length = c.toNat := by rw [hr0]; exact rowL_len (r := r.toNat) (by rw [← Int.natCast_inj]; rw [Int.natCast_mul, Int.toNat_of_nonneg (by omega), Int.toNat_of_nonneg (by omega)]; exact hl) (by omega)
      have rtl := rtx_len row.length row (Nat.le_refl _)
      have bl := congrArg List.length hB
      simp only [List.length_append] at bl
      have jl := joinR_len (c := c.toNat) (l := l) (i + 1)
      have jm : (i + 1) * (3 * c.toNat + 1) ≤ 24 * 73 := Nat.mul_le_mul (by omega) (by omega)
      have hl6 := headT_len r c
      have hx10 := hx100.le lE
      refine ob_i (hx10.len) ?_
      refine jn_i (fun σ' H' => ∃ e : Nat, σ' 0 = p ∧ σ' 3 = (vS (B)) ∧ σ' 4 = (.int .i64 ((i : Int))) ∧ σ' 5 = x10 ∧ σ' 6 = (.int .i64 ((e : Int))) ∧ Le H H' ∧ endP row e ∧ (0 < e → at_ 0 row ((e - 1 : Nat) : Int) ≠ 0) ∧ e ≤ c.toNat) (fun σ13 H13 hP => ?_) (fun J13 hJ13 => ?_)
      · skip
        obtain ⟨e, g0L13, g3L13, g4L13, g5L13, g6L13, lE, hend, hlast, hec⟩ := hP
        have hp := hp0.le lE
        have hvc := hvc0.le lE
        have hx10 := hx100.le lE
        try simp only [g3L13, g5L13, g6L13]
        refine ⟨fun n' σ' H' => ∃ t : Nat, n' = c.toNat - t ∧ t ≤ c.toNat ∧ ∃ out : List UInt8, ∃ a : Nat, σ' 0 = p ∧ σ' 3 = (vS (out)) ∧ σ' 4 = (.int .i64 ((i : Int))) ∧ σ' 5 = x10 ∧ σ' 6 = (.int .i64 ((e : Int))) ∧ σ' 7 = (.int .i64 ((a : Int))) ∧ Le H H' ∧ t ≤ a ∧ a ≤ e ∧ out ++ rtx (row.drop a) = B ++ rtx row,
          ⟨_, 0, rfl, by omega, B, 0, g0L13, g3L13, g4L13, g5L13, g6L13, (congrArg (Value.int .i64) (by first | omega | rfl | (simp; done))), lE, (by omega), (by omega), rfl⟩, ?_⟩
        rintro n14 σ14 H14 ⟨t, rfl, htN, out, a, g0L14, g3L14, g4L14, g5L14, g6L14, g7L14, lE, hq0, hq1, hq2⟩
        have hp := hp0.le lE
        have hvc := hvc0.le lE
        have hx10 := hx100.le lE
        try simp only [g3L14, g5L14, g6L14, g7L14]
        have ol := congrArg List.length hq2
        simp only [List.length_append] at ol
        refine ob_i (vInt_lss _ _ _) ?_
        refine cnd_d (fun hg15 => ?_) (fun hg15 => ?_)
        · skip
          have tt := hg15
          refine jn_i (fun σ' H' => ∃ k : Nat, σ' 0 = p ∧ σ' 3 = (vS (out)) ∧ σ' 4 = (.int .i64 ((i : Int))) ∧ σ' 5 = x10 ∧ σ' 6 = (.int .i64 ((e : Int))) ∧ σ' 7 = (.int .i64 ((a : Int))) ∧ σ' 8 = (.int .i64 ((k : Int))) ∧ Le H H' ∧ k = rN (at_ 0 row (a : Int)) (row.drop a) ∧ ¬ (at_ 0 row (a : Int) = 0 ∧ a + k = row.length) ∧ 1 ≤ k ∧ a + k ≤ e) (fun σ16 H16 hP => ?_) (fun J16 hJ16 => ?_)
          · skip
            obtain ⟨k, g0L16, g3L16, g4L16, g5L16, g6L16, g7L16, g8L16, lE, hk, hne, hk1, hk2⟩ := hP
            have hp := hp0.le lE
            have hvc := hvc0.le lE
            have hx10 := hx100.le lE
            try simp only [g3L16, g5L16, g7L16, g8L16]
            have dl := decT_len (k : Int).toNat
            refine ob_i (vInt_gtr _ _ _) ?_
            refine cnd_d (fun hg17 => ?_) (fun hg17 => ?_)
            · skip
              refine C.spec_l05Number (by first | omega | assumption) (by first | omega | assumption) (fun   H18    le19 => ?_)
              replace hp := hp.le le19
              replace hvc := hvc.le le19
              replace hx10 := hx10.le le19
              replace lE := lE.trans le19
              refine ob_i (vStr_add (a := out) (b := decT (k : Int).toNat) (by first | omega | (simp only [List.length_append, List.length_cons, List.length_nil, List.length_take, List.length_drop]; omega))) ?_
              refine ob_i (hx10.ix (by omega) (by omega)) ?_
              refine ob_i (hx10.ld 0 (by omega) (by omega)) ?_
              refine ob_i (vInt_eql _ _ _) ?_
              refine cnd_d (fun hg20 => ?_) (fun hg20 => ?_)
              · skip
                refine ob_i (vStr_add (a := out ++ (decT (k : Int).toNat)) (b := ([111] : List UInt8)) (by first | omega | (simp only [List.length_append, List.length_cons, List.length_nil, List.length_take, List.length_drop]; omega))) ?_
                refine ob_i (vInt_add (by omega) (by omega)) ?_
                exact nxt (c.toNat - (t + 1)) (by omega) ⟨t + 1, rfl, by omega, ((out ++ (decT (k : Int).toNat)) ++ ([111] : List UInt8)), (a + k), g0L16, rfl, g4L16, g5L16, g6L16, (congrArg (Value.int .i64) (by omega)), lE, (by omega), (by omega), (by rw [← hq2, rtx_run (a := a) (k := k) (by omega) hk hne, if_neg (show ¬ k = 1 by omega), chT_1 hg20]; simp only [List.append_assoc, List.nil_append, Int.toNat_natCast])⟩
              · skip
                refine ob_i (vStr_add (a := out ++ (decT (k : Int).toNat)) (b := ([98] : List UInt8)) (by first | omega | (simp only [List.length_append, List.length_cons, List.length_nil, List.length_take, List.length_drop]; omega))) ?_
                refine ob_i (vInt_add (by omega) (by omega)) ?_
                exact nxt (c.toNat - (t + 1)) (by omega) ⟨t + 1, rfl, by omega, ((out ++ (decT (k : Int).toNat)) ++ ([98] : List UInt8)), (a + k), g0L16, rfl, g4L16, g5L16, g6L16, (congrArg (Value.int .i64) (by omega)), lE, (by omega), (by omega), (by rw [← hq2, rtx_run (a := a) (k := k) (by omega) hk hne, if_neg (show ¬ k = 1 by omega), chT_0 hg20]; simp only [List.append_assoc, List.nil_append, Int.toNat_natCast])⟩
            · skip
              refine ob_i (hx10.ix (by omega) (by omega)) ?_
              refine ob_i (hx10.ld 0 (by omega) (by omega)) ?_
              refine ob_i (vInt_eql _ _ _) ?_
              refine cnd_d (fun hg21 => ?_) (fun hg21 => ?_)
              · skip
                refine ob_i (vStr_add (a := out) (b := ([111] : List UInt8)) (by first | omega | (simp only [List.length_append, List.length_cons, List.length_nil, List.length_take, List.length_drop]; omega))) ?_
                refine ob_i (vInt_add (by omega) (by omega)) ?_
                exact nxt (c.toNat - (t + 1)) (by omega) ⟨t + 1, rfl, by omega, (out ++ ([111] : List UInt8)), (a + k), g0L16, rfl, g4L16, g5L16, g6L16, (congrArg (Value.int .i64) (by omega)), lE, (by omega), (by omega), (by rw [← hq2, rtx_run (a := a) (k := k) (by omega) hk hne, if_pos (show k = 1 by omega), chT_1 hg21]; simp only [List.append_assoc, List.nil_append, Int.toNat_natCast])⟩
              · skip
                refine ob_i (vStr_add (a := out) (b := ([98] : List UInt8)) (by first | omega | (simp only [List.length_append, List.length_cons, List.length_nil, List.length_take, List.length_drop]; omega))) ?_
                refine ob_i (vInt_add (by omega) (by omega)) ?_
                exact nxt (c.toNat - (t + 1)) (by omega) ⟨t + 1, rfl, by omega, (out ++ ([98] : List UInt8)), (a + k), g0L16, rfl, g4L16, g5L16, g6L16, (congrArg (Value.int .i64) (by omega)), lE, (by omega), (by omega), (by rw [← hq2, rtx_run (a := a) (k := k) (by omega) hk hne, if_pos (show k = 1 by omega), chT_0 hg21]; simp only [List.append_assoc, List.nil_append, Int.toNat_natCast])⟩
          refine ⟨fun n' σ' H' => ∃ j : Nat, n' = c.toNat - j ∧ j ≤ c.toNat ∧ σ' 0 = p ∧ σ' 3 = (vS (out)) ∧ σ' 4 = (.int .i64 ((i : Int))) ∧ σ' 5 = x10 ∧ σ' 6 = (.int .i64 ((e : Int))) ∧ σ' 7 = (.int .i64 ((a : Int))) ∧ σ' 8 = (.int .i64 ((1 : Int) + (j : Int))) ∧ Le H H' ∧ 1 + j ≤ rN (at_ 0 row (a : Int)) (row.drop a) ∧ a + (1 + j) ≤ e,
            ⟨_, 0, rfl, by omega, g0L14, g3L14, g4L14, g5L14, g6L14, g7L14, (congrArg (Value.int .i64) (by first | omega | rfl | (simp; done))), lE, (by have := run_zero (row := row) (a := a) (by omega); omega), (by omega)⟩, ?_⟩
          rintro n22 σ22 H22 ⟨j, rfl, hjN, g0L22, g3L22, g4L22, g5L22, g6L22, g7L22, g8L22, lE, hj0, hj1⟩
          have hp := hp0.le lE
          have hvc := hvc0.le lE
          have hx10 := hx100.le lE
          try simp only [g5L22, g6L22, g7L22, g8L22]
          refine ob_i (vInt_add (by omega) (by omega)) ?_
          refine ob_i (vInt_lss _ _ _) ?_
          by_cases hc23 : ((a : Int) + ((1 : Int) + (j : Int))) < (e : Int)
          · skip
            refine gop_e (decide_eq_true hc23) ?_
            refine gop_rt ?_
            refine gop_e (decide_eq_true hc23) ?_
            refine gop_rt ?_
            refine gop_e (decide_eq_true hc23) ?_
            refine gop_rt ?_
            refine gop_e (decide_eq_true hc23) ?_
            refine gop_rt ?_
            refine ob_i (vInt_add (by omega) (by omega)) ?_
            refine gop_e (decide_eq_true hc23) ?_
            refine gop_rt ?_
            refine ob_i (hx10.ix (by omega) (by omega)) ?_
            refine gop_e (decide_eq_true hc23) ?_
            refine gop_rt ?_
            refine ob_i (hx10.ld 0 (by omega) (by omega)) ?_
            refine gop_e (decide_eq_true hc23) ?_
            refine gop_rt ?_
            refine gop_e (decide_eq_true hc23) ?_
            refine gop_rt ?_
            refine gop_e (decide_eq_true hc23) ?_
            refine gop_rt ?_
            refine ob_i (hx10.ix (by omega) (by omega)) ?_
            refine gop_e (decide_eq_true hc23) ?_
            refine gop_rt ?_
            refine ob_i (hx10.ld 0 (by omega) (by omega)) ?_
            refine gop_e (decide_eq_true hc23) ?_
            refine gop_rt ?_
            refine ob_i (vInt_eql _ _ _) ?_
            refine ob_i (vPick_et (decide_eq_true hc23) _ _) ?_
            refine cnd_d (fun hg24 => ?_) (fun hg24 => ?_)
            · skip
              refine ob_i (vInt_add (by omega) (by omega)) ?_
              exact nxt (c.toNat - (j + 1)) (by omega) ⟨j + 1, rfl, by omega, g0L22, g3L22, g4L22, g5L22, g6L22, g7L22, (congrArg (Value.int .i64) (by first | omega | rfl | (simp; done))), lE, (by have := run_next (a := a) (e := a + (1 + j)) (by omega) (by rw [show a + (1 + j) - a = 1 + j by omega]; exact hj0) (by omega) (by rw [show ((a + (1 + j) : Nat) : Int) = (a : Int) + ((1 : Int) + (j : Int)) by omega]; exact hg24); omega), (by omega)⟩
            · skip
              have hcut := run_cut (k := 1 + j) hend hlast (a := a) (by omega) (by omega) hj0 (by omega) (.inr (by rw [show ((a + (1 + j) : Nat) : Int) = (a : Int) + ((1 : Int) + (j : Int)) by omega]; exact hg24))
              exact hJ16 _ _ ⟨(1 + j), g0L22, g3L22, g4L22, g5L22, g6L22, g7L22, (g8L22.trans (congrArg (Value.int .i64) (by first | omega | rfl | (simp; done)))), lE, hcut.1, hcut.2, (by omega), (by omega)⟩
          · skip
            refine gop_e (decide_eq_false hc23) ?_
            refine gop_sf ?_
            refine gop_e (decide_eq_false hc23) ?_
            refine gop_sf ?_
            refine gop_e (decide_eq_false hc23) ?_
            refine gop_sf ?_
            refine gop_e (decide_eq_false hc23) ?_
            refine gop_sf ?_
            refine gop_e (decide_eq_false hc23) ?_
            refine gop_sf ?_
            refine gop_e (decide_eq_false hc23) ?_
            refine gop_sf ?_
            refine gop_e (decide_eq_false hc23) ?_
            refine gop_sf ?_
            refine gop_e (decide_eq_false hc23) ?_
            refine gop_sf ?_
            refine gop_e (decide_eq_false hc23) ?_
            refine gop_sf ?_
            refine gop_e (decide_eq_false hc23) ?_
            refine gop_sf ?_
            refine gop_e (decide_eq_false hc23) ?_
            refine gop_sf ?_
            refine ob_i (vPick_ef (decide_eq_false hc23) _ _) ?_
            refine cnd_f1 ?_
            have hcut := run_cut (k := 1 + j) hend hlast (a := a) (by omega) (by omega) hj0 (by omega) (.inl (by omega))
            exact hJ16 _ _ ⟨(1 + j), g0L22, g3L22, g4L22, g5L22, g6L22, g7L22, (g8L22.trans (congrArg (Value.int .i64) (by first | omega | rfl | (simp; done)))), lE, hcut.1, hcut.2, (by omega), (by omega)⟩
        · skip
          have tt := hg15
          exact hJ8 _ _ ⟨g0L14, (g3L14.trans (congrArg vS (by rw [show a = e by omega, endP_rtx hend, List.append_nil] at hq2; rw [hq2, hB]))), g4L14, lE⟩
      refine ⟨fun n' σ' H' => ∃ j : Nat, n' = c.toNat - j ∧ j ≤ c.toNat ∧ σ' 0 = p ∧ σ' 3 = (vS (B)) ∧ σ' 4 = (.int .i64 ((i : Int))) ∧ σ' 5 = x10 ∧ σ' 6 = (.int .i64 (((c.toNat - j : Nat) : Int))) ∧ Le H H' ∧ endP row (c.toNat - j),
        ⟨_, 0, rfl, by omega, g0L9, g3L9, g4L9, rfl, (congrArg (Value.int .i64) (by first | omega | rfl | (simp; done))), lE, ⟨by omega, fun q h1 h2 => by omega⟩⟩, ?_⟩
      rintro n25 σ25 H25 ⟨j, rfl, hjN, g0L25, g3L25, g4L25, g5L25, g6L25, lE, he0⟩
      have hp := hp0.le lE
      have hvc := hvc0.le lE
      have hx10 := hx100.le lE
      try simp only [g5L25, g6L25]
      refine ob_i (vInt_gtr _ _ _) ?_
      by_cases hc26 : 0 < (((c.toNat - j : Nat) : Int))
      · skip
        refine gop_e (decide_eq_true hc26) ?_
        refine gop_rt ?_
        refine gop_e (decide_eq_true hc26) ?_
        refine gop_rt ?_
        refine gop_e (decide_eq_true hc26) ?_
        refine gop_rt ?_
        refine ob_i (vInt_sub (by omega) (by omega)) ?_
        refine gop_e (decide_eq_true hc26) ?_
        refine gop_rt ?_
        refine ob_i (hx10.ix (by omega) (by omega)) ?_
        refine gop_e (decide_eq_true hc26) ?_
        refine gop_rt ?_
        refine ob_i (hx10.ld 0 (by omega) (by omega)) ?_
        refine gop_e (decide_eq_true hc26) ?_
        refine gop_rt ?_
        refine ob_i (vInt_eql _ _ _) ?_
        refine ob_i (vPick_et (decide_eq_true hc26) _ _) ?_
        refine cnd_d (fun hg27 => ?_) (fun hg27 => ?_)
        · skip
          refine ob_i (vInt_sub (by omega) (by omega)) ?_
          exact nxt (c.toNat - (j + 1)) (by omega) ⟨j + 1, rfl, by omega, g0L25, g3L25, g4L25, g5L25, (congrArg (Value.int .i64) (by first | omega | rfl | (simp; done))), lE, (endP_back he0 (by omega) hg27 (by omega))⟩
        · skip
          exact hJ13 _ _ ⟨(c.toNat - j), g0L25, g3L25, g4L25, g5L25, (g6L25.trans (congrArg (Value.int .i64) (by first | omega | rfl | (simp; done)))), lE, he0, (fun h => by rw [show ((c.toNat - j - 1 : Nat) : Int) = ((c.toNat - j : Nat) : Int) - 1 by omega]; exact hg27), (by omega)⟩
      · skip
        refine gop_e (decide_eq_false hc26) ?_
        refine gop_sf ?_
        refine gop_e (decide_eq_false hc26) ?_
        refine gop_sf ?_
        refine gop_e (decide_eq_false hc26) ?_
        refine gop_sf ?_
        refine gop_e (decide_eq_false hc26) ?_
        refine gop_sf ?_
        refine gop_e (decide_eq_false hc26) ?_
        refine gop_sf ?_
        refine gop_e (decide_eq_false hc26) ?_
        refine gop_sf ?_
        refine ob_i (vPick_ef (decide_eq_false hc26) _ _) ?_
        refine cnd_f1 ?_
        exact hJ13 _ _ ⟨(c.toNat - j), g0L25, g3L25, g4L25, g5L25, (g6L25.trans (congrArg (Value.int .i64) (by first | omega | rfl | (simp; done)))), lE, he0, (fun h => absurd h (by omega)), (by omega)⟩
    refine ob_i (vInt_gtr _ _ _) ?_
    refine cnd_d (fun hg28 => ?_) (fun hg28 => ?_)
    · skip
      have tj := hg28
      refine ob_i (vStr_add (a := headT r c ++ joinR c.toNat l i) (b := ([36] : List UInt8)) (by first | omega | (simp only [List.length_append, List.length_cons, List.length_nil, List.length_take, List.length_drop]; omega))) ?_
      exact hJ9 _ _ ⟨_, g0L6, rfl, g4L6, lE, (by rw [joinR_succ (by omega)]; simp only [List.append_assoc])⟩
    · skip
      have tj := hg28
      exact hJ9 _ _ ⟨_, g0L6, g3L6, g4L6, lE, (by rw [joinR_one (by omega), show joinR c.toNat l i = [] by rw [show i = 0 by omega, joinR_zero], List.append_nil])⟩
  · skip
    have ti := hg7
    exact hJ5 _ _ ⟨(g3L6.trans (congrArg vS (by rw [show i = r.toNat by omega]))), lE⟩
theorem C.impl_Field_text {vc : Value} {r c : Int} {l : List Int}  {H : Hp} {K : Value → Hp → Prop} (hvc0 : Sl eI H vc l) (hf : fieldN 1 r c l)
    (hk : ∀ H', Le H H' → K (vS (fieldT r c l)) H') : HT prg I.impl_Field_text [(.agg #[(.int .i64 (r)), (.int .i64 (c)), vc])].toArray H K := by
  have lE := Le.refl H
  have hvc := hvc0
  refine R.impl_Field_text ?_
  unfold F.impl_Field_text
  have hs := hf.1
  have hl := hf.2.1
  have q1 := hs.1
  have q2 := hs.2
  have qm := sidesF_mul hs
  have l1 := fieldN_len hf
  have hlN : l.length = r.toNat * c.toNat := by rw [← Int.natCast_inj, Int.natCast_mul, Int.toNat_of_nonneg (by omega), Int.toNat_of_nonneg (by omega)]; exact hl
  have dc := decT_len c.toNat
  have dr := decT_len r.toNat
  have rf := rowsT_flat (c := c.toNat) (l := l) r.toNat
  have rg : r.toNat * (3 * c.toNat) ≤ 24 * 72 := Nat.mul_le_mul (by omega) (by omega)
  have rjl : (joinT [36] (rowsT c.toNat l r.toNat)).length ≤ r.toNat * (3 * c.toNat + 1) := joinR_len _
  have rjm : r.toNat * (3 * c.toNat + 1) ≤ 24 * 73 := Nat.mul_le_mul (by omega) (by omega)
  have rn := rowsT_len (c := c.toNat) (l := l) (n := r.toNat)
  refine nw_i (fun pf H1 opf nn2 le3 => ?_)
  have npf : Nw H pf := nn2.le lE
  replace hvc := hvc.le le3
  replace lE := lE.trans le3
  replace opf : Cel H1 pf [(.int .i64 (r)), (.int .i64 (c)), vc] := opf
  refine bS_nil (enc := vS) (fun ou H4 oou nn5 kk6 le7 => ?_)
  have apfXou : Apart pf ou := opf.apart nn5
  have nou : Nw H ou := nn5.le lE
  replace opf := opf.le le7
  replace hvc := hvc.le le7
  replace lE := lE.trans le7
  refine nw_i (fun po H8 opo nn9 le10 => ?_)
  have apfXpo : Apart pf po := opf.apart nn9
  have aouXpo : Apart ou po := oou.apart nn9
  have npo : Nw H po := nn9.le lE
  replace opf := opf.le le10
  replace oou := oou.le le10
  replace hvc := hvc.le le10
  replace lE := lE.trans le10
  replace opo : Cel H8 po [(.slice none 0 0)] := opo
  refine opo.st0 (by simp) oou.one oou.cells (fun H11 opo off12 => ?_)
  replace opf := opf.off off12 apfXpo
  replace oou := oou.off off12 aouXpo
  replace hvc := hvc0.le (off12.le lE npo)
  replace lE := off12.le lE npo
  replace opo : Cel H11 po [ou] := opo
  refine jn_i (fun σ' H' => ∃ ou, σ' 1 = pf ∧ σ' 3 = po ∧ Cel H' pf [(.int .i64 (r)), (.int .i64 (c)), vc] ∧ Own vS H' ou (rowsT c.toNat l r.toNat) ∧ Cel H' po [ou] ∧ Nw H ou ∧ Apart pf ou ∧ Apart ou po ∧ Le H H') (fun σ13 H13 hP => ?_) (fun J13 hJ13 => ?_)
  · skip
    obtain ⟨ou, g1L13, g3L13, opf, oou, opo, nou, apfXou, aouXpo, lE⟩ := hP
    have hvc := hvc0.le lE
    try simp only [g1L13, g3L13]
    refine ob_i (opf.fa 1) ?_
    refine ob_i (opf.ld 1 rfl) ?_
    refine ob_i (opf.fa 0) ?_
    refine ob_i (opf.ld 0 rfl) ?_
    refine ob_i (opo.ld0 rfl) ?_
    refine C.impl_Decimal (by first | omega | assumption) (by first | omega | assumption) ?_
    refine ⟨Le.refl _, ?_⟩
    refine ob_i (vStr_add (a := decT c.toNat) (b := ([44] : List UInt8)) (by first | omega | (simp only [List.length_append, List.length_cons, List.length_nil, List.length_take, List.length_drop]; omega))) ?_
    refine C.impl_Decimal (by first | omega | assumption) (by first | omega | assumption) ?_
    refine ⟨Le.refl _, ?_⟩
    refine ob_i (vStr_add (a := (decT c.toNat) ++ ([44] : List UInt8)) (b := decT r.toNat) (by first | omega | (simp only [List.length_append, List.length_cons, List.length_nil, List.length_take, List.length_drop]; omega))) ?_
    refine ob_i (vStr_add (a := ((decT c.toNat) ++ ([44] : List UInt8)) ++ (decT r.toNat)) (b := ([58] : List UInt8)) (by first | omega | (simp only [List.length_append, List.length_cons, List.length_nil, List.length_take, List.length_drop]; omega))) ?_
    refine C.strings_Join oou.sl (by first | omega | assumption) (by first | omega | assumption) (fun   H14    le15 => ?_)
    replace opf := opf.le le15
    replace oou := oou.le le15
    replace opo := opo.le le15
    replace hvc := hvc.le le15
    replace lE := lE.trans le15
    refine ⟨le15, ?_⟩
    refine ob_i (vStr_add (a := (((decT c.toNat) ++ ([44] : List UInt8)) ++ (decT r.toNat)) ++ ([58] : List UInt8)) (b := joinT [36] (rowsT c.toNat l r.toNat)) (by first | omega | (simp only [List.length_append, List.length_cons, List.length_nil, List.length_take, List.length_drop]; omega))) ?_
    refine ob_i (vStr_add (a := ((((decT c.toNat) ++ ([44] : List UInt8)) ++ (decT r.toNat)) ++ ([58] : List UInt8)) ++ (joinT [36] (rowsT c.toNat l r.toNat))) (b := ([33] : List UInt8)) (by first | omega | (simp only [List.length_append, List.length_cons, List.length_nil, List.length_take, List.length_drop]; omega))) ?_
    skip
    exact keq (K := K) (by rw [show (fieldT r c l) = ((((((decT c.toNat) ++ ([44] : List UInt8)) ++ (decT r.toNat)) ++ ([58] : List UInt8)) ++ (joinT [36] (rowsT c.toNat l r.toNat))) ++ ([33] : List UInt8)) from by rfl]; try rfl) (hk   _    lE)
  refine ob_i (opf.fa 2) ?_
  refine ob_i (opf.ld 2 rfl) ?_
  refine ob_i (opf.fa 1) ?_
  refine ob_i (opf.ld 1 rfl) ?_
  refine C.slices_Chunk hvc (by omega) (fun ps16 pn17 H18 ops16 opn17 nn20 nn21 aps16Xpn17 le19 => ?_)
  have apfXps16 : Apart pf ps16 := opf.apart nn20
  have aouXps16 : Apart ou ps16 := oou.apart nn20
  have apoXps16 : Apart po ps16 := opo.apart nn20
  have nps16 : Nw H ps16 := nn20.le lE
  have apfXpn17 : Apart pf pn17 := opf.apart nn21
  have aouXpn17 : Apart ou pn17 := oou.apart nn21
  have apoXpn17 : Apart po pn17 := opo.apart nn21
  have npn17 : Nw H pn17 := nn21.le lE
  replace opf := opf.le le19
  replace oou := oou.le le19
  replace opo := opo.le le19
  replace hvc := hvc.le le19
  replace lE := lE.trans le19
  replace ops16 : Cel H18 ps16 [vc] := ops16
  replace opn17 : Cel H18 pn17 [(.int .i64 (c))] := opn17
  refine rgE_i (r.toNat) (fun (i : Nat) => [chV vc (i * c.toNat) c.toNat]) (fun (i : Nat) H' => ∃ ou, Cel H' pf [(.int .i64 (r)), (.int .i64 (c)), vc] ∧ Own vS H' ou (rowsT c.toNat l i) ∧ Cel H' po [ou] ∧ Cel H' ps16 [vc] ∧ Cel H' pn17 [(.int .i64 (c))] ∧ Nw H ou ∧ Apart pf ou ∧ Apart ou po ∧ Apart ou ps16 ∧ Apart ou pn17 ∧ Le H H') trivial (fun _ => rfl) ⟨ou, opf, (Own.cast (by first | rfl | (simp; done)) oou), opo, ops16, opn17, nou, apfXou, aouXpo, aouXps16, aouXpn17, lE⟩ (fun i H22 σ22 Q22 hiN hσ22 qn22 qr22 qx22 hI22 => ?_) (fun H22 hI22 => ?_) (fun yv J St H1 K1 hJ h0 hst hk1 hs1 => ?_)
  · obtain ⟨ou, opf, oou, opo, ops16, opn17, nou, apfXou, aouXpo, aouXps16, aouXpn17, lE⟩ := hI22
    have hvc := hvc0.le lE
    have hmz23 : (i + 1) * c.toNat ≤ r.toNat * c.toNat := Nat.mul_le_mul_right _ (by omega)
    rw [Nat.add_mul, Nat.one_mul] at hmz23
    have hz230 : Sl eI H (chV vc (i * c.toNat) c.toNat) (rowL c.toNat l i) := (chV_sl hvc0 (lo := i * c.toNat) (c := c.toNat) (by omega)).2
    obtain ⟨z23, ez23⟩ : ∃ z, z = chV vc (i * c.toNat) c.toNat := ⟨_, rfl⟩
    rw [← ez23] at hz230
    have hz23 := hz230.le lE
    have rz23 : (rowL c.toNat l i).length = c.toNat := rowL_len (r := r.toNat) hlN (by omega)
    have g3L22 : σ22 3 = po := by rw [hσ22]; exact rfl
    have g11L22 : σ22 11 = z23 := by rw [hσ22, ← ez23]; rfl
    try simp only [g3L22, g11L22]
    have ri := rowsT_len (c := c.toNat) (l := l) (n := i)
    refine ob_i (opo.ld0 rfl) ?_
    refine C.impl_runsText hz23 (by first | omega | assumption) (by exact row_01 hf.2.2) (fun   H24    le25 => ?_)
    replace opf := opf.le le25
    replace oou := oou.le le25
    replace opo := opo.le le25
    replace ops16 := ops16.le le25
    replace opn17 := opn17.le le25
    replace hvc := hvc.le le25
    replace hz23 := hz23.le le25
    replace lE := lE.trans le25
    refine ⟨le25, ?_⟩
    refine bS_i (enc := vS) (l := [rtx (rowL c.toNat l i)]) (by omega) rfl (by kernel_rfl) (fun u26 H27 ou26 nn28 le30 => ?_)
    have apfXu26 : Apart pf u26 := opf.apart nn28
    have aouXu26 : Apart ou u26 := oou.apart nn28
    have apoXu26 : Apart po u26 := opo.apart nn28
    have aps16Xu26 : Apart ps16 u26 := ops16.apart nn28
    have apn17Xu26 : Apart pn17 u26 := opn17.apart nn28
    have nu26 : Nw H u26 := nn28.le lE
    replace opf := opf.le le30
    replace oou := oou.le le30
    replace opo := opo.le le30
    replace ops16 := ops16.le le30
    replace opn17 := opn17.le le30
    replace hvc := hvc.le le30
    replace hz23 := hz23.le le30
    replace lE := lE.trans le30
    refine apd_any oou ou26.sl (fun _ => rfl) (by omega) (by first | omega | (simp only [List.length_cons, List.length_nil, List.length_append, List.length_replicate, List.length_map, List.length_range]; omega)) (fun u34 H31 ou34 off32 hb33 => ?_)
    have apfXu34 : Apart pf u34 := Apart.ap2 opf.known apfXou hb33
    have apoXu34 : Apart po u34 := Apart.ap2 opo.known aouXpo.symm hb33
    have aps16Xu34 : Apart ps16 u34 := Apart.ap2 ops16.known aouXps16.symm hb33
    have apn17Xu34 : Apart pn17 u34 := Apart.ap2 opn17.known aouXpn17.symm hb33
    have au26Xu34 : Apart u26 u34 := Apart.ap2 ou26.known aouXu26.symm hb33
    have nu34 : Nw H u34 := Nw.ap2 nou lE hb33
    replace opf := opf.off off32 apfXou
    replace opo := opo.off off32 aouXpo.symm
    replace ops16 := ops16.off off32 aouXps16.symm
    replace opn17 := opn17.off off32 aouXpn17.symm
    replace ou26 := ou26.off off32 aouXu26.symm
    replace hvc := hvc0.le (off32.le lE nou)
    replace hz23 := hz230.le (off32.le lE nou)
    replace lE := off32.le lE nou
    refine opo.st0 (by simp) ou34.one ou34.cells (fun H35 opo off36 => ?_)
    replace opf := opf.off off36 apfXpo
    replace ops16 := ops16.off off36 apoXps16.symm
    replace opn17 := opn17.off off36 apoXpn17.symm
    replace ou26 := ou26.off off36 apoXu26.symm
    replace ou34 := ou34.off off36 apoXu34.symm
    replace hvc := hvc0.le (off36.le lE npo)
    replace hz23 := hz230.le (off36.le lE npo)
    replace lE := off36.le lE npo
    replace opo : Cel H35 po [u34] := opo
    exact qn22 _ _ ⟨u34, opf, (Own.cast rowsT_succ.symm ou34), opo, ops16, opn17, nu34, apfXu34, apoXu34.symm, aps16Xu34.symm, apn17Xu34.symm, lE⟩
  · obtain ⟨ou, opf, oou, opo, ops16, opn17, nou, apfXou, aouXpo, aouXps16, aouXpn17, lE⟩ := hI22
    have hvc := hvc0.le lE
    exact hJ13 _ _ ⟨ou, rfl, rfl, opf, oou, opo, nou, apfXou, aouXpo, lE⟩
  · refine ⟨by kernel_rfl, C.slices_ChunkZ1 (r := r.toNat) (c := c.toNat) hvc0 hlN (by omega) (by omega) (by omega) (fun t A hA => ?_) h0 hst hk1 hs1⟩
    obtain ⟨A', b, o, rfl, hn, ou, opf, oou, opo, ops16, opn17, nou, apfXou, aouXpo, aouXps16, aouXpn17, lE⟩ := hJ t A hA
    exact ⟨ops16.le (Le.put _ hn), Cel.castX (by rw [Int.toNat_of_nonneg (by omega)]) (opn17.le (Le.put _ hn))⟩
theorem C.impl_WriteRuns {vc : Value} {r c : Int} {l : List Int}  {H : Hp} {K : Value → Hp → Prop} (hvc0 : Sl eI H vc l) (k1 : l.length ≤ 9223372036854775807)
    (hk : ∀ H', Le H H' → K (.tuple #[(vS (selL (fieldN 1 r c l) (fieldT r c l))), (.bool (decide (fieldN 1 r c l)))]) H') : HT prg I.impl_WriteRuns [(.agg #[(.int .i64 (r)), (.int .i64 (c)), vc])].toArray H K := by
  have lE := Le.refl H
  have hvc := hvc0
  refine R.impl_WriteRuns ?_
  unfold F.impl_WriteRuns
  refine nw_i (fun p1 H2 op1 nn3 le4 => ?_)
  have np1 : Nw H p1 := nn3.le lE
  replace hvc := hvc.le le4
  replace lE := lE.trans le4
  replace op1 : Cel H2 p1 [(.int .i64 (r)), (.int .i64 (c)), vc] := op1
  refine ob_i (op1.ldn rfl) ?_
  refine C.impl_isPlain hvc (by first | omega | assumption) (fun   H5    le6 => ?_)
  replace op1 := op1.le le6
  replace hvc := hvc.le le6
  replace lE := lE.trans le6
  refine ob_nd (fun hc7 => ?_) (fun hc7 => ?_)
  · skip
    refine cnd_f1 ?_
    refine ob_i (op1.ldn rfl) ?_
    refine C.impl_Field_text hvc (by first | omega | assumption) (fun   H8    le9 => ?_)
    replace op1 := op1.le le9
    replace hvc := hvc.le le9
    replace lE := lE.trans le9
    skip
    have hok : fieldN 1 r c l := by assumption
    exact keq (K := K) (by rw [show (selL (fieldN 1 r c l) (fieldT r c l)) = (fieldT r c l) from by first | exact selL_t hok | exact selL_f hok]; rw [decide_eq_true (show (fieldN 1 r c l) from by exact hok)]; try rfl) (hk   _    lE)
  · skip
    refine cnd_t1 ?_
    skip
    have hok : ¬ (fieldN 1 r c l) := by assumption
    exact keq (K := K) (by rw [show (selL (fieldN 1 r c l) (fieldT r c l)) = (([] : List UInt8)) from by first | exact selL_t hok | exact selL_f hok]; rw [decide_eq_false (show ¬ (fieldN 1 r c l) from by exact hok)]; try rfl) (hk   _    lE)
theorem C.spec_WriteRuns {vc : Value} {r c : Int} {l : List Int}  {H : Hp} {K : Value → Hp → Prop} (hvc0 : Sl eI H vc l) (k1 : l.length ≤ 9223372036854775807)
    (hk : ∀ H', Le H H' → K (.tuple #[(vS (selL (fieldN 1 r c l) (fieldT r c l))), (.bool (decide (fieldN 1 r c l)))]) H') : HT prg I.spec_WriteRuns [(.agg #[(.int .i64 (r)), (.int .i64 (c)), vc])].toArray H K := by
  have lE := Le.refl H
  have hvc := hvc0
  refine R.spec_WriteRuns ?_
  unfold F.spec_WriteRuns
  refine nw_i (fun p1 H2 op1 nn3 le4 => ?_)
  have np1 : Nw H p1 := nn3.le lE
  replace hvc := hvc.le le4
  replace lE := lE.trans le4
  replace op1 : Cel H2 p1 [(.int .i64 (r)), (.int .i64 (c)), vc] := op1
  refine C.spec_l04Plain op1 hvc (by first | omega | assumption) ?_
  refine ob_nd (fun hc5 => ?_) (fun hc5 => ?_)
  · skip
    refine cnd_f1 ?_
    refine C.spec_l05Write op1.r hvc (by first | omega | assumption) (fun   H6    le7 => ?_)
    replace op1 := op1.le le7
    replace hvc := hvc.le le7
    replace lE := lE.trans le7
    skip
    have hok : fieldN 1 r c l := by assumption
    exact keq (K := K) (by rw [show (selL (fieldN 1 r c l) (fieldT r c l)) = (fieldT r c l) from by first | exact selL_t hok | exact selL_f hok]; rw [decide_eq_true (show (fieldN 1 r c l) from by exact hok)]; try rfl) (hk   _    lE)
  · skip
    refine cnd_t1 ?_
    skip
    have hok : ¬ (fieldN 1 r c l) := by assumption
    exact keq (K := K) (by rw [show (selL (fieldN 1 r c l) (fieldT r c l)) = (([] : List UInt8)) from by first | exact selL_t hok | exact selL_f hok]; rw [decide_eq_false (show ¬ (fieldN 1 r c l) from by exact hok)]; try rfl) (hk   _    lE)
end Go.Proofs.YtialllbbbpmkbaaDoor
