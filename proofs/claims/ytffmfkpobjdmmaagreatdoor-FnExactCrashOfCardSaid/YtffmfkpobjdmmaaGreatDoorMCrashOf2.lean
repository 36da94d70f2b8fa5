/- Several texts in one. -/
import Derived.Test.YtffmfkpobjdmmaaGreatDoorMCrashOf1
import Derived.Test.YtffmfkpobjdmmaaGreatDoorMCrashOf0
import Derived.Laws.Strings
/- Two fields put together: the program's and the reference's. -/
namespace Go.Proofs.YtffmfkpobjdmmaaGreatDoor
open HL
set_option maxRecDepth 100000
theorem mkL_congr {c : Int} {f g : Int → Int → Int} {N : Nat} (hc : 0 < c) (h : ∀ x y, 0 ≤ x → 0 ≤ y → y < c → x * c + y < N → f x y = g x y) : mkL c f N = mkL c g N := by
  unfold mkL
  apply List.map_congr_left
  intro j hj
  have := List.mem_range.mp hj
  have d := Int.mul_ediv_add_emod (j : Int) c
  rw [Int.mul_comm] at d
  exact h _ _ (Int.ediv_nonneg (by omega) (by omega)) (Int.emod_nonneg _ (by omega)) (Int.emod_lt_of_pos _ hc) (by omega)
theorem mkL_set {c : Int} {f : Int → Int → Int} {N : Nat} {i k v : Int} (hc : 0 < c) (k0 : 0 ≤ k) (k1 : k < c) (h : 0 ≤ i * c) : (mkL c f N).set (i * c + k).toNat v = mkL c (fun x y => if x = i ∧ y = k then v else f x y) N := by
  have hd := divmod (c := c) (i := i) (k := k) hc k0 k1
  apply List.ext_getElem?
  intro j
  rw [List.getElem?_set]
  simp only [mkL, List.getElem?_map, List.length_map, List.length_range]
  by_cases hj : j < N
  · rw [List.getElem?_range hj]
    simp only [Option.map_some]
    by_cases e : (i * c + k).toNat = j
    · rw [if_pos e, if_pos (by omega), if_pos]
      have ej : (j : Int) = i * c + k := by omega
      rw [ej]; exact hd
    · rw [if_neg e, if_neg]
      rintro ⟨h1, h2⟩
      have d := Int.mul_ediv_add_emod (j : Int) c
      rw [h1, h2, Int.mul_comm] at d
      omega
  · rw [List.getElem?_eq_none (by simpa using hj)]
    simp only [Option.map_none]
    split
    · rw [if_neg (by omega)]
    · rfl
theorem mkL_len {c : Int} {g : Int → Int → Int} {rr cc : Int} (h1 : 0 ≤ rr) (h2 : 0 ≤ cc) : ((mkL c g (rr.toNat * cc.toNat)).length : Int) = rr * cc := by
  rw [mkL_length, Int.natCast_mul, Int.toNat_of_nonneg h1, Int.toNat_of_nonneg h2]
theorem mkL_zero {c : Int} {N : Nat} : mkL c (fun _ _ => 0) N = List.replicate N 0 := by
  rw [List.eq_replicate_iff]
  refine ⟨mkL_length _ _ _, fun x hx => ?_⟩
  simp only [mkL, List.mem_map] at hx
  obtain ⟨j, _, rfl⟩ := hx
  rfl
theorem flatF_01 {r c : Int} {l : List Int} (h : fieldN 1 r c l) (x y : Int) : 0 ≤ flatF r c l x y ∧ flatF r c l x y ≤ 1 := by
  unfold flatF
  split
  · rename_i h1
    have b := ix_lt (a := x) (b := y) (r := r) (c := c) (by omega) (by omega) (by omega) (by omega)
    exact fieldN_at h (by omega) (by omega)
  · omega
/-- Two fields' cells. -/
def metG (ra ca : Int) (la : List Int) (rb cb : Int) (lb : List Int) (row col x y : Int) : Int := max (flatF ra ca la x y) (flatF rb cb lb (x - row) (y - col))
def metA (ca : Int) (la : List Int) (i k x y : Int) : Int := if (x < i ∧ y < ca) ∨ (x = i ∧ y < k) then at_ 0 la (x * ca + y) else 0
def metB (ra ca : Int) (la : List Int) (cb : Int) (lb : List Int) (row col i k x y : Int) : Int :=
  if ((0 ≤ x - row ∧ x - row < i ∧ 0 ≤ y - col ∧ y - col < cb) ∨ (x - row = i ∧ 0 ≤ y - col ∧ y - col < k)) ∧ at_ 0 lb ((x - row) * cb + (y - col)) = 1 then 1 else flatF ra ca la x y
def metO (ra ca rb cb row col : Int) : Prop := (0 ≤ row ∧ row ≤ 24) ∧ (0 ≤ col ∧ col ≤ 24) ∧ (1 ≤ max ra (row + rb) ∧ max ra (row + rb) ≤ 24) ∧ (1 ≤ max ca (col + cb) ∧ max ca (col + cb) ≤ 24)
def metOk (ra ca : Int) (la : List Int) (rb cb : Int) (lb : List Int) (row col : Int) : Prop := fieldN 1 ra ca la ∧ fieldN 1 rb cb lb ∧ metO ra ca rb cb row col
instance (ra ca rb cb row col : Int) : Decidable (metO ra ca rb cb row col) := by unfold metO; infer_instance
instance (ra ca : Int) (la : List Int) (rb cb : Int) (lb : List Int) (row col : Int) : Decidable (metOk ra ca la rb cb lb row col) := by unfold metOk; infer_instance
def metL0 (ra ca : Int) (la : List Int) (rb cb : Int) (lb : List Int) (row col : Int) : List Int := mkL (max ca (col + cb)) (metG ra ca la rb cb lb row col) ((max ra (row + rb)).toNat * (max ca (col + cb)).toNat)
theorem metA_zero {c ca : Int} {la : List Int} {N : Nat} (hc : 0 < c) (h : 0 ≤ ca) : List.replicate N 0 = mkL c (metA ca la 0 0) N := by
  rw [← mkL_zero (c := c)]
  apply mkL_congr hc
  intro x y h1 h2 _ _
  unfold metA
  rw [if_neg (by omega)]
theorem metA_set {c ca : Int} {la : List Int} {N : Nat} {i k : Int} (k0 : 0 ≤ k) (k1 : k < ca) (k2 : k < c) (i0 : 0 ≤ i) (h : 0 ≤ i * c) : (mkL c (metA ca la i k) N).set (i * c + k).toNat (at_ 0 la (i * ca + k)) = mkL c (metA ca la i (k + 1)) N := by
  rw [mkL_set (by omega) k0 k2 h]
  apply mkL_congr (by omega)
  intro x y h1 h2 _ _
  unfold metA
  by_cases e : x = i ∧ y = k
  · obtain ⟨rfl, rfl⟩ := e
    rw [if_pos ⟨rfl, rfl⟩, if_pos (by omega)]
  · rw [if_neg e]
    by_cases e2 : (x < i ∧ y < ca) ∨ (x = i ∧ y < k)
    · rw [if_pos e2, if_pos (by omega)]
    · rw [if_neg e2, if_neg (by omega)]
theorem metA_row {c ca : Int} {la : List Int} {N : Nat} {i k : Int} (hc : 0 < c) (k1 : k = ca) : mkL c (metA ca la i k) N = mkL c (metA ca la (i + 1) 0) N := by
  apply mkL_congr hc
  intro x y h1 h2 _ _
  unfold metA
  by_cases e2 : (x < i ∧ y < ca) ∨ (x = i ∧ y < k)
  · rw [if_pos e2, if_pos (by omega)]
  · rw [if_neg e2, if_neg (by omega)]
theorem metA_end {c ra ca cb : Int} {la lb : List Int} {row col : Int} {N : Nat} (hc : 0 < c) : mkL c (metA ca la ra 0) N = mkL c (metB ra ca la cb lb row col 0 0) N := by
  apply mkL_congr hc
  intro x y h1 h2 _ _
  unfold metA metB
  rw [if_neg (show ¬ (((0 ≤ x - row ∧ x - row < 0 ∧ 0 ≤ y - col ∧ y - col < cb) ∨ (x - row = 0 ∧ 0 ≤ y - col ∧ y - col < 0)) ∧ at_ 0 lb ((x - row) * cb + (y - col)) = 1) from fun h => by have := h.1; omega)]
  unfold flatF
  by_cases e2 : (x < ra ∧ y < ca) ∨ (x = ra ∧ y < 0)
  · rw [if_pos e2, if_pos (by omega)]
  · rw [if_neg e2, if_neg (by omega)]
theorem metB_set {c ra ca cb : Int} {la lb : List Int} {row col : Int} {N : Nat} {i k : Int} (k0 : 0 ≤ k) (k1 : k < cb) (k2 : col + k < c) (i0 : 0 ≤ i) (c0 : 0 ≤ col) (h : 0 ≤ (row + i) * c) (h1 : at_ 0 lb (i * cb + k) = 1) :
    (mkL c (metB ra ca la cb lb row col i k) N).set ((row + i) * c + col + k).toNat 1 = mkL c (metB ra ca la cb lb row col i (k + 1)) N := by
  rw [show (row + i) * c + col + k = (row + i) * c + (col + k) by omega, mkL_set (by omega) (by omega) k2 h]
  apply mkL_congr (by omega)
  intro x y _ _ _ _
  unfold metB
  by_cases e : x = row + i ∧ y = col + k
  · obtain ⟨rfl, rfl⟩ := e
    rw [if_pos ⟨rfl, rfl⟩, if_pos]
    rw [show row + i - row = i by omega, show col + k - col = k by omega]
    exact ⟨by omega, h1⟩
  · rw [if_neg e]
    by_cases e2 : ((0 ≤ x - row ∧ x - row < i ∧ 0 ≤ y - col ∧ y - col < cb) ∨ (x - row = i ∧ 0 ≤ y - col ∧ y - col < k)) ∧ at_ 0 lb ((x - row) * cb + (y - col)) = 1
    · rw [if_pos e2, if_pos ⟨by have := e2.1; omega, e2.2⟩]
    · rw [if_neg e2, if_neg (fun h => e2 ⟨by have := h.1; omega, h.2⟩)]
theorem metB_skip {c ra ca cb : Int} {la lb : List Int} {row col : Int} {N : Nat} {i k : Int} (hc : 0 < c) (h1 : ¬ at_ 0 lb (i * cb + k) = 1) :
    mkL c (metB ra ca la cb lb row col i k) N = mkL c (metB ra ca la cb lb row col i (k + 1)) N := by
  apply mkL_congr hc
  intro x y _ _ _ _
  unfold metB
  by_cases e : x - row = i ∧ y - col = k
  · obtain ⟨rfl, rfl⟩ := e
    rw [if_neg (fun h => h1 h.2), if_neg (fun h => h1 h.2)]
  · by_cases e2 : ((0 ≤ x - row ∧ x - row < i ∧ 0 ≤ y - col ∧ y - col < cb) ∨ (x - row = i ∧ 0 ≤ y - col ∧ y - col < k)) ∧ at_ 0 lb ((x - row) * cb + (y - col)) = 1
    · rw [if_pos e2, if_pos ⟨by have := e2.1; omega, e2.2⟩]
    · rw [if_neg e2, if_neg (fun h => e2 ⟨by have := h.1; omega, h.2⟩)]
theorem metB_row {c ra ca cb : Int} {la lb : List Int} {row col : Int} {N : Nat} {i k : Int} (hc : 0 < c) (i0 : 0 ≤ i) (k1 : k = cb) : mkL c (metB ra ca la cb lb row col i k) N = mkL c (metB ra ca la cb lb row col (i + 1) 0) N := by
  apply mkL_congr hc
  intro x y _ _ _ _
  unfold metB
  by_cases e2 : ((0 ≤ x - row ∧ x - row < i ∧ 0 ≤ y - col ∧ y - col < cb) ∨ (x - row = i ∧ 0 ≤ y - col ∧ y - col < k)) ∧ at_ 0 lb ((x - row) * cb + (y - col)) = 1
  · rw [if_pos e2, if_pos ⟨by have := e2.1; omega, e2.2⟩]
  · rw [if_neg e2, if_neg (fun h => e2 ⟨by have := h.1; omega, h.2⟩)]
theorem metB_end {c ra ca rb cb : Int} {la lb : List Int} {row col : Int} {N : Nat} (hc : 0 < c) (ha : fieldN 1 ra ca la) (hb : fieldN 1 rb cb lb) : mkL c (metB ra ca la cb lb row col rb 0) N = mkL c (metG ra ca la rb cb lb row col) N := by
  apply mkL_congr hc
  intro x y _ _ _ _
  have fa := flatF_01 ha x y
  have fb := flatF_01 hb (x - row) (y - col)
  unfold metB metG
  by_cases e : (0 ≤ x - row ∧ x - row ≤ rb - 1) ∧ 0 ≤ y - col ∧ y - col ≤ cb - 1
  · have e3 : flatF rb cb lb (x - row) (y - col) = at_ 0 lb ((x - row) * cb + (y - col)) := by unfold flatF; rw [if_pos e]
    rw [e3] at fb ⊢
    by_cases e4 : at_ 0 lb ((x - row) * cb + (y - col)) = 1
    · rw [if_pos ⟨by omega, e4⟩]; omega
    · rw [if_neg (fun h => e4 h.2)]; omega
  · have e3 : flatF rb cb lb (x - row) (y - col) = 0 := by unfold flatF; rw [if_neg e]
    rw [e3, if_neg (fun h => e (by have := h.1; omega))]; omega
theorem C.spec_l05Meet {p p2 va vb : Value} {ra ca rb cb row col : Int} {la lb : List Int} {H : Hp} {K : Value → Hp → Prop} (hp0 : Cel H p [.int .i64 ra, .int .i64 ca, va]) (hp20 : Cel H p2 [.int .i64 rb, .int .i64 cb, vb]) (hva0 : Sl eI H va la) (hvb0 : Sl eI H vb lb) (ha : fieldN 1 ra ca la) (hb : fieldN 1 rb cb lb)
    (hk1 : ¬ metO ra ca rb cb row col → ∀ H', Le H H' → K (.tuple #[.agg #[.int .i64 0, .int .i64 0, .slice none 0 0], .bool false]) H')
    (hk2 : metO ra ca rb cb row col → ∀ u H', Own eI H' u (metL0 ra ca la rb cb lb row col) → Nw H u → Le H H' → K (.tuple #[.agg #[.int .i64 (max ra (row + rb)), .int .i64 (max ca (col + cb)), u], .bool true]) H') : HT prg I.spec_l05Meet [p, p2, .int .i64 row, .int .i64 col].toArray H K := by
 have lE := Le.refl H
 have hp := hp0
 have hp2 := hp20
 have hva := hva0
 have hvb := hvb0
 refine R.spec_l05Meet ?_
 unfold F.spec_l05Meet
 have q1 := ha.1.1
 have q2 := ha.1.2
 have q3 := hb.1.1
 have q4 := hb.1.2
 have q5 := sidesF_mul ha.1
 have q6 := sidesF_mul hb.1
 have q7 := ha.2.1
 have q8 := hb.2.1
 refine nw_i (fun q H1 oq nn2 le3 => ?_)
 have nq : Nw H q := nn2.le lE
 replace hp := hp.le le3
 replace hp2 := hp2.le le3
 replace hva := hva.le le3
 replace hvb := hvb.le le3
 replace lE := lE.trans le3
 replace oq : Cel H1 q [(.int .i64 (0)), (.int .i64 (0)), (.slice none 0 0)] := oq
 refine C.spec_l00In  ?_
 refine ob_nd (fun hc4 => ?_) (fun hc4 => ?_)
 ·skip
  refine gop_rf ?_
  refine gop_rf ?_
  refine C.spec_l00In  ?_
  refine gop_rf ?_
  refine ob_nd (fun hc5 => ?_) (fun hc5 => ?_)
  ·skip
   refine ob_i (vPick_f _ _) ?_
   refine cnd_f1 ?_
   refine ob_i (hp.nilC) ?_
   refine ob_i (hp.fa 0) ?_
   refine ob_i (hp.ld 0 rfl) ?_
   refine ob_i (hp2.nilC) ?_
   refine ob_i (hp2.fa 0) ?_
   refine ob_i (hp2.ld 0 rfl) ?_
   refine ob_i (vInt_add (by omega) (by omega)) ?_
   refine C.spec_l00Max  ?_
   refine ⟨Le.refl _, ?_⟩
   obtain ⟨mr, hmr⟩ : ∃ x, x = max (ra) (row + rb) := ⟨_, rfl⟩
   rw [← hmr]
   refine ob_i (hp.nilC) ?_
   refine ob_i (hp.fa 1) ?_
   refine ob_i (hp.ld 1 rfl) ?_
   refine ob_i (hp2.nilC) ?_
   refine ob_i (hp2.fa 1) ?_
   refine ob_i (hp2.ld 1 rfl) ?_
   refine ob_i (vInt_add (by omega) (by omega)) ?_
   refine C.spec_l00Max  ?_
   refine ⟨Le.refl _, ?_⟩
   obtain ⟨mc, hmc⟩ : ∃ x, x = max (ca) (col + cb) := ⟨_, rfl⟩
   rw [← hmc]
   refine C.spec_l05Sides  ?_
   refine ob_nd (fun hc6 => ?_) (fun hc6 => ?_)
   ·skip
    refine cnd_f1 ?_
    refine C.spec_l04New (by omega) (by omega) (by omega) (by omega) (fun u H7 ou nn9  le8 => ?_)
    have aqXu : Apart q u := oq.apart nn9
    have nu : Nw H u := nn9.le lE
    replace oq := oq.le le8
    replace hp := hp.le le8
    replace hp2 := hp2.le le8
    replace hva := hva.le le8
    replace hvb := hvb.le le8
    replace lE := lE.trans le8
    refine nw_i (fun s H10 os nn11 le12 => ?_)
    have aqXs : Apart q s := oq.apart nn11
    have auXs : Apart u s := ou.apart nn11
    have ns : Nw H s := nn11.le lE
    replace oq := oq.le le12
    replace ou := ou.le le12
    replace hp := hp.le le12
    replace hp2 := hp2.le le12
    replace hva := hva.le le12
    replace hvb := hvb.le le12
    replace lE := lE.trans le12
    replace os : Cel H10 s [(.int .i64 (0)), (.int .i64 (0)), (.slice none 0 0)] := os
    refine os.stn (ws := [(.int .i64 (mr)), (.int .i64 (mc)), u]) rfl rfl (oc1 rfl (oc1 rfl (oc1 ou.one oc0))) (fun H13 os off14 => ?_)
    replace oq := oq.off off14 aqXs
    replace ou := ou.off off14 auXs
    replace hp := hp0.le (off14.le lE ns)
    replace hp2 := hp20.le (off14.le lE ns)
    replace hva := hva0.le (off14.le lE ns)
    replace hvb := hvb0.le (off14.le lE ns)
    replace lE := off14.le lE ns
    replace os : Cel H13 s [(.int .i64 (mr)), (.int .i64 (mc)), u] := os
    refine jn_i (fun σ' H' => σ' 1 = p2 ∧ σ' 2 = (.int .i64 (row)) ∧ σ' 3 = (.int .i64 (col)) ∧ σ' 8 = q ∧ σ' 11 = (.int .i64 (mc)) ∧ σ' 12 = s ∧ Cel H' q [(.int .i64 (0)), (.int .i64 (0)), (.slice none 0 0)] ∧ Own eI H' u (mkL mc (metB ra ca la cb lb row col (0) (0)) (mr.toNat * mc.toNat)) ∧ Cel H' s [(.int .i64 (mr)), (.int .i64 (mc)), u] ∧ Le H H') (fun σ15 H15 hP => ?_) (fun J15 hJ15 => ?_)
    ·skip
     obtain ⟨g1L15, g2L15, g3L15, g8L15, g11L15, g12L15, oq, ou, os, lE⟩ := hP
     have hp := hp0.le lE
     have hp2 := hp20.le lE
     have hva := hva0.le lE
     have hvb := hvb0.le lE
     try simp only [g1L15, g2L15, g3L15, g8L15, g11L15, g12L15]
     refine jn_i (fun σ' H' => σ' 8 = q ∧ σ' 12 = s ∧ Cel H' q [(.int .i64 (0)), (.int .i64 (0)), (.slice none 0 0)] ∧ Own eI H' u (mkL mc (metG ra ca la rb cb lb row col) (mr.toNat * mc.toNat)) ∧ Cel H' s [(.int .i64 (mr)), (.int .i64 (mc)), u] ∧ Le H H') (fun σ16 H16 hP => ?_) (fun J16 hJ16 => ?_)
     ·skip
      obtain ⟨g8L16, g12L16, oq, ou, os, lE⟩ := hP
      have hp := hp0.le lE
      have hp2 := hp20.le lE
      have hva := hva0.le lE
      have hvb := hvb0.le lE
      try simp only [g8L16, g12L16]
      refine ob_i (os.ldn rfl) ?_
      refine oq.stn (ws := [(.int .i64 (mr)), (.int .i64 (mc)), u]) rfl rfl (oc1 rfl (oc1 rfl (oc1 ou.one oc0))) (fun H17 oq off18 => ?_)
      replace ou := ou.off off18 aqXu.symm
      replace hp := hp0.le (off18.le lE nq)
      replace hp2 := hp20.le (off18.le lE nq)
      replace hva := hva0.le (off18.le lE nq)
      replace hvb := hvb0.le (off18.le lE nq)
      replace lE := off18.le lE nq
      replace oq : Cel H17 q [(.int .i64 (mr)), (.int .i64 (mc)), u] := oq
      refine ob_i (oq.ldn rfl) ?_
      subst hmr hmc
      exact hk2 ⟨hc4, hc5, hc6⟩ u _ ou nu lE
     refine ⟨fun n' σ' H' => ∃ i : Nat, n' = rb.toNat - i ∧ i ≤ rb.toNat ∧ σ' 1 = p2 ∧ σ' 2 = (.int .i64 (row)) ∧ σ' 3 = (.int .i64 (col)) ∧ σ' 8 = q ∧ σ' 11 = (.int .i64 (mc)) ∧ σ' 12 = s ∧ σ' 15 = (.int .i64 ((i : Int))) ∧ Cel H' q [(.int .i64 (0)), (.int .i64 (0)), (.slice none 0 0)] ∧ Own eI H' u (mkL mc (metB ra ca la cb lb row col ((i : Int)) (0)) (mr.toNat * mc.toNat)) ∧ Cel H' s [(.int .i64 (mr)), (.int .i64 (mc)), u] ∧ Le H H',
      ⟨_, 0, rfl, by omega, g1L15, g2L15, g3L15, g8L15, g11L15, g12L15, rfl, oq, ou, os, lE⟩, ?_⟩
     rintro n19 σ19 H19 ⟨i, rfl, hiN, g1L19, g2L19, g3L19, g8L19, g11L19, g12L19, g15L19, oq, ou, os, lE⟩
     have hp := hp0.le lE
     have hp2 := hp20.le lE
     have hva := hva0.le lE
     have hvb := hvb0.le lE
     try simp only [g1L19, g15L19]
     refine ob_i (hp2.nilC) ?_
     refine ob_i (hp2.fa 0) ?_
     refine ob_i (hp2.ld 0 rfl) ?_
     refine ob_i (vInt_lss _ _ _) ?_
     refine cnd_d (fun hg20 => ?_) (fun hg20 => ?_)
     ·skip
      have ti := hg20
      refine jn_i (fun σ' H' => σ' 1 = p2 ∧ σ' 2 = (.int .i64 (row)) ∧ σ' 3 = (.int .i64 (col)) ∧ σ' 8 = q ∧ σ' 11 = (.int .i64 (mc)) ∧ σ' 12 = s ∧ σ' 15 = (.int .i64 ((i : Int))) ∧ Cel H' q [(.int .i64 (0)), (.int .i64 (0)), (.slice none 0 0)] ∧ Own eI H' u (mkL mc (metB ra ca la cb lb row col ((i : Int) + 1) (0)) (mr.toNat * mc.toNat)) ∧ Cel H' s [(.int .i64 (mr)), (.int .i64 (mc)), u] ∧ Le H H') (fun σ21 H21 hP => ?_) (fun J21 hJ21 => ?_)
      ·skip
       obtain ⟨g1L21, g2L21, g3L21, g8L21, g11L21, g12L21, g15L21, oq, ou, os, lE⟩ := hP
       try simp only [g15L21]
       refine ob_i (vInt_add (by omega) (by omega)) ?_
       exact nxt (rb.toNat - (i + 1)) (by omega) ⟨i + 1, rfl, by omega, g1L21, g2L21, g3L21, g8L21, g11L21, g12L21, rfl, oq, ou, os, lE⟩
      refine ⟨fun n' σ' H' => ∃ k : Nat, n' = cb.toNat - k ∧ k ≤ cb.toNat ∧ σ' 1 = p2 ∧ σ' 2 = (.int .i64 (row)) ∧ σ' 3 = (.int .i64 (col)) ∧ σ' 8 = q ∧ σ' 11 = (.int .i64 (mc)) ∧ σ' 12 = s ∧ σ' 15 = (.int .i64 ((i : Int))) ∧ σ' 16 = (.int .i64 ((k : Int))) ∧ Cel H' q [(.int .i64 (0)), (.int .i64 (0)), (.slice none 0 0)] ∧ Own eI H' u (mkL mc (metB ra ca la cb lb row col ((i : Int)) ((k : Int))) (mr.toNat * mc.toNat)) ∧ Cel H' s [(.int .i64 (mr)), (.int .i64 (mc)), u] ∧ Le H H',
       ⟨_, 0, rfl, by omega, g1L19, g2L19, g3L19, g8L19, g11L19, g12L19, g15L19, rfl, oq, ou, os, lE⟩, ?_⟩
      rintro n22 σ22 H22 ⟨k, rfl, hkN, g1L22, g2L22, g3L22, g8L22, g11L22, g12L22, g15L22, g16L22, oq, ou, os, lE⟩
      have hp := hp0.le lE
      have hp2 := hp20.le lE
      have hva := hva0.le lE
      have hvb := hvb0.le lE
      try simp only [g1L22, g2L22, g3L22, g11L22, g12L22, g15L22, g16L22]
      refine ob_i (hp2.nilC) ?_
      refine ob_i (hp2.fa 1) ?_
      refine ob_i (hp2.ld 1 rfl) ?_
      refine ob_i (vInt_lss _ _ _) ?_
      refine cnd_d (fun hg23 => ?_) (fun hg23 => ?_)
      ·skip
       have tk := hg23
       have x1 := ix_lt (a := (i : Int)) (b := (k : Int)) (r := rb) (c := cb) (by omega) (by omega) (by omega) (by omega)
       have x2 := ix_lt (a := row + (i : Int)) (b := col + (k : Int)) (r := mr) (c := mc) (by omega) (by omega) (by omega) (by omega)
       have x3 := mkL_len (c := mc) (g := metB ra ca la cb lb row col (i : Int) (k : Int)) (rr := mr) (cc := mc) (by omega) (by omega)
       have x4 := ix_le (a := mr) (b := mc) (by omega) (by omega) (by omega) (by omega)
       refine ob_i (hp2.nilC) ?_
       refine ob_i (hp2.fa 2) ?_
       refine ob_i (hp2.ld 2 rfl) ?_
       refine ob_i (hp2.nilC) ?_
       refine ob_i (hp2.fa 1) ?_
       refine ob_i (hp2.ld 1 rfl) ?_
       refine ob_i (vInt_mul (by omega) (by omega)) ?_
       refine ob_i (vInt_add (by omega) (by omega)) ?_
       refine ob_i (hvb.ix (by omega) (by omega)) ?_
       refine ob_i (hvb.ld 0 (by omega) (by omega)) ?_
       refine ob_i (vInt_eql _ _ _) ?_
       refine cnd_d (fun hg24 => ?_) (fun hg24 => ?_)
       ·skip
        refine ob_i (os.fa 2) ?_
        refine ob_i (os.ld 2 rfl) ?_
        refine ob_i (vInt_add (by omega) (by omega)) ?_
        refine ob_i (vInt_mul (by omega) (by omega)) ?_
        refine ob_i (vInt_add (by omega) (by omega)) ?_
        refine ob_i (vInt_add (by omega) (by omega)) ?_
        refine ob_i (ou.sl.ix (by omega) (by omega)) ?_
        refine ou.st (x := 1) (by omega) (by omega) rfl rfl (fun H25 ou off26 => ?_)
        replace oq := oq.off off26 aqXu
        replace os := os.off off26 auXs.symm
        replace hp := hp0.le (off26.le lE nu)
        replace hp2 := hp20.le (off26.le lE nu)
        replace hva := hva0.le (off26.le lE nu)
        replace hvb := hvb0.le (off26.le lE nu)
        replace lE := off26.le lE nu
        refine ob_i (vInt_add (by omega) (by omega)) ?_
        rw [metB_set (by omega) (by omega) (by omega) (by omega) (by omega) (by omega) hg24] at ou
        exact nxt (cb.toNat - (k + 1)) (by omega) ⟨k + 1, rfl, by omega, g1L22, g2L22, g3L22, g8L22, g11L22, g12L22, g15L22, rfl, oq, ou, os, lE⟩
       ·skip
        refine ob_i (vInt_add (by omega) (by omega)) ?_
        rw [metB_skip (by omega) hg24] at ou
        exact nxt (cb.toNat - (k + 1)) (by omega) ⟨k + 1, rfl, by omega, g1L22, g2L22, g3L22, g8L22, g11L22, g12L22, g15L22, rfl, oq, ou, os, lE⟩
      ·skip
       have tk := hg23
       rw [metB_row (by omega) (by omega) (show (k : Int) = cb by omega)] at ou
       exact hJ21 _ _ ⟨g1L22, g2L22, g3L22, g8L22, g11L22, g12L22, g15L22, oq, ou, os, lE⟩
     ·skip
      have ti := hg20
      rw [show (i : Int) = rb by omega, metB_end (by omega) ha hb] at ou
      exact hJ16 _ _ ⟨g8L19, g12L19, oq, ou, os, lE⟩
    refine ⟨fun n' σ' H' => ∃ i : Nat, n' = ra.toNat - i ∧ i ≤ ra.toNat ∧ σ' 0 = p ∧ σ' 1 = p2 ∧ σ' 2 = (.int .i64 (row)) ∧ σ' 3 = (.int .i64 (col)) ∧ σ' 8 = q ∧ σ' 11 = (.int .i64 (mc)) ∧ σ' 12 = s ∧ σ' 13 = (.int .i64 ((i : Int))) ∧ Cel H' q [(.int .i64 (0)), (.int .i64 (0)), (.slice none 0 0)] ∧ Own eI H' u (mkL mc (metA ca la ((i : Int)) (0)) (mr.toNat * mc.toNat)) ∧ Cel H' s [(.int .i64 (mr)), (.int .i64 (mc)), u] ∧ Le H H',
     ⟨_, 0, rfl, by omega, rfl, rfl, rfl, rfl, rfl, rfl, rfl, rfl, oq, by rw [metA_zero (c := mc) (ca := ca) (la := la) (by omega) (by omega)] at ou; exact ou, os, lE⟩, ?_⟩
    rintro n27 σ27 H27 ⟨i, rfl, hiN, g0L27, g1L27, g2L27, g3L27, g8L27, g11L27, g12L27, g13L27, oq, ou, os, lE⟩
    have hp := hp0.le lE
    have hp2 := hp20.le lE
    have hva := hva0.le lE
    have hvb := hvb0.le lE
    try simp only [g0L27, g13L27]
    refine ob_i (hp.nilC) ?_
    refine ob_i (hp.fa 0) ?_
    refine ob_i (hp.ld 0 rfl) ?_
    refine ob_i (vInt_lss _ _ _) ?_
    refine cnd_d (fun hg28 => ?_) (fun hg28 => ?_)
    ·skip
     have ti := hg28
     refine jn_i (fun σ' H' => σ' 0 = p ∧ σ' 1 = p2 ∧ σ' 2 = (.int .i64 (row)) ∧ σ' 3 = (.int .i64 (col)) ∧ σ' 8 = q ∧ σ' 11 = (.int .i64 (mc)) ∧ σ' 12 = s ∧ σ' 13 = (.int .i64 ((i : Int))) ∧ Cel H' q [(.int .i64 (0)), (.int .i64 (0)), (.slice none 0 0)] ∧ Own eI H' u (mkL mc (metA ca la ((i : Int) + 1) (0)) (mr.toNat * mc.toNat)) ∧ Cel H' s [(.int .i64 (mr)), (.int .i64 (mc)), u] ∧ Le H H') (fun σ29 H29 hP => ?_) (fun J29 hJ29 => ?_)
     ·skip
      obtain ⟨g0L29, g1L29, g2L29, g3L29, g8L29, g11L29, g12L29, g13L29, oq, ou, os, lE⟩ := hP
      try simp only [g13L29]
      refine ob_i (vInt_add (by omega) (by omega)) ?_
      exact nxt (ra.toNat - (i + 1)) (by omega) ⟨i + 1, rfl, by omega, g0L29, g1L29, g2L29, g3L29, g8L29, g11L29, g12L29, rfl, oq, ou, os, lE⟩
     refine ⟨fun n' σ' H' => ∃ k : Nat, n' = ca.toNat - k ∧ k ≤ ca.toNat ∧ σ' 0 = p ∧ σ' 1 = p2 ∧ σ' 2 = (.int .i64 (row)) ∧ σ' 3 = (.int .i64 (col)) ∧ σ' 8 = q ∧ σ' 11 = (.int .i64 (mc)) ∧ σ' 12 = s ∧ σ' 13 = (.int .i64 ((i : Int))) ∧ σ' 14 = (.int .i64 ((k : Int))) ∧ Cel H' q [(.int .i64 (0)), (.int .i64 (0)), (.slice none 0 0)] ∧ Own eI H' u (mkL mc (metA ca la ((i : Int)) ((k : Int))) (mr.toNat * mc.toNat)) ∧ Cel H' s [(.int .i64 (mr)), (.int .i64 (mc)), u] ∧ Le H H',
      ⟨_, 0, rfl, by omega, g0L27, g1L27, g2L27, g3L27, g8L27, g11L27, g12L27, g13L27, rfl, oq, ou, os, lE⟩, ?_⟩
     rintro n30 σ30 H30 ⟨k, rfl, hkN, g0L30, g1L30, g2L30, g3L30, g8L30, g11L30, g12L30, g13L30, g14L30, oq, ou, os, lE⟩
     have hp := hp0.le lE
     have hp2 := hp20.le lE
     have hva := hva0.le lE
     have hvb := hvb0.le lE
     try simp only [g0L30, g11L30, g12L30, g13L30, g14L30]
     refine ob_i (hp.nilC) ?_
     refine ob_i (hp.fa 1) ?_
     refine ob_i (hp.ld 1 rfl) ?_
     refine ob_i (vInt_lss _ _ _) ?_
     refine cnd_d (fun hg31 => ?_) (fun hg31 => ?_)
     ·skip
      have tk := hg31
      have x1 := ix_lt (a := (i : Int)) (b := (k : Int)) (r := ra) (c := ca) (by omega) (by omega) (by omega) (by omega)
      have x2 := ix_lt (a := (i : Int)) (b := (k : Int)) (r := mr) (c := mc) (by omega) (by omega) (by omega) (by omega)
      have x3 := mkL_len (c := mc) (g := metA ca la (i : Int) (k : Int)) (rr := mr) (cc := mc) (by omega) (by omega)
      have x4 := ix_le (a := mr) (b := mc) (by omega) (by omega) (by omega) (by omega)
      refine ob_i (os.fa 2) ?_
      refine ob_i (os.ld 2 rfl) ?_
      refine ob_i (vInt_mul (by omega) (by omega)) ?_
      refine ob_i (vInt_add (by omega) (by omega)) ?_
      refine ob_i (hp.nilC) ?_
      refine ob_i (hp.fa 2) ?_
      refine ob_i (hp.ld 2 rfl) ?_
      refine ob_i (hp.nilC) ?_
      refine ob_i (hp.fa 1) ?_
      refine ob_i (hp.ld 1 rfl) ?_
      refine ob_i (vInt_mul (by omega) (by omega)) ?_
      refine ob_i (vInt_add (by omega) (by omega)) ?_
      refine ob_i (hva.ix (by omega) (by omega)) ?_
      refine ob_i (hva.ld 0 (by omega) (by omega)) ?_
      refine ob_i (ou.sl.ix (by omega) (by omega)) ?_
      refine ou.st (x := at_ 0 (la) (((i : Int) * ca) + (k : Int))) (by omega) (by omega) rfl rfl (fun H32 ou off33 => ?_)
      replace oq := oq.off off33 aqXu
      replace os := os.off off33 auXs.symm
      replace hp := hp0.le (off33.le lE nu)
      replace hp2 := hp20.le (off33.le lE nu)
      replace hva := hva0.le (off33.le lE nu)
      replace hvb := hvb0.le (off33.le lE nu)
      replace lE := off33.le lE nu
      refine ob_i (vInt_add (by omega) (by omega)) ?_
      rw [metA_set (by omega) (by omega) (by omega) (by omega) (by omega)] at ou
      exact nxt (ca.toNat - (k + 1)) (by omega) ⟨k + 1, rfl, by omega, g0L30, g1L30, g2L30, g3L30, g8L30, g11L30, g12L30, g13L30, rfl, oq, ou, os, lE⟩
     ·skip
      have tk := hg31
      rw [metA_row (by omega) (show (k : Int) = ca by omega)] at ou
      exact hJ29 _ _ ⟨g0L30, g1L30, g2L30, g3L30, g8L30, g11L30, g12L30, g13L30, oq, ou, os, lE⟩
    ·skip
     have ti := hg28
     rw [show (i : Int) = ra by omega, metA_end (cb := cb) (lb := lb) (row := row) (col := col) (by omega)] at ou
     exact hJ15 _ _ ⟨g1L27, g2L27, g3L27, g8L27, g11L27, g12L27, oq, ou, os, lE⟩
   ·skip
    refine cnd_t1 ?_
    refine ob_i (a := (.agg #[(.int .i64 (0)), (.int .i64 (0)), (.slice none 0 0)])) (by rfl) ?_
    refine oq.stn (ws := [(.int .i64 (0)), (.int .i64 (0)), (.slice none 0 0)]) rfl rfl (oc1 rfl (oc1 rfl (oc1 rfl oc0))) (fun H34 oq off35 => ?_)
    replace hp := hp0.le (off35.le lE nq)
    replace hp2 := hp20.le (off35.le lE nq)
    replace hva := hva0.le (off35.le lE nq)
    replace hvb := hvb0.le (off35.le lE nq)
    replace lE := off35.le lE nq
    replace oq : Cel H34 q [(.int .i64 (0)), (.int .i64 (0)), (.slice none 0 0)] := oq
    refine ob_i (oq.ldn rfl) ?_
    subst hmr hmc
    exact hk1 (fun h => hc6 ⟨h.2.2.1, h.2.2.2⟩) _ lE
  ·skip
   refine ob_i (vPick_f _ _) ?_
   refine cnd_t1 ?_
   refine ob_i (a := (.agg #[(.int .i64 (0)), (.int .i64 (0)), (.slice none 0 0)])) (by rfl) ?_
   refine oq.stn (ws := [(.int .i64 (0)), (.int .i64 (0)), (.slice none 0 0)]) rfl rfl (oc1 rfl (oc1 rfl (oc1 rfl oc0))) (fun H36 oq off37 => ?_)
   replace hp := hp0.le (off37.le lE nq)
   replace hp2 := hp20.le (off37.le lE nq)
   replace hva := hva0.le (off37.le lE nq)
   replace hvb := hvb0.le (off37.le lE nq)
   replace lE := off37.le lE nq
   replace oq : Cel H36 q [(.int .i64 (0)), (.int .i64 (0)), (.slice none 0 0)] := oq
   refine ob_i (oq.ldn rfl) ?_
   exact hk1 (fun h => hc5 h.2.1) _ lE
 ·skip
  refine gop_st ?_
  refine gop_st ?_
  refine gop_st ?_
  refine ob_i (vPick_t _ _) ?_
  refine cnd_t1 ?_
  refine ob_i (a := (.agg #[(.int .i64 (0)), (.int .i64 (0)), (.slice none 0 0)])) (by rfl) ?_
  refine oq.stn (ws := [(.int .i64 (0)), (.int .i64 (0)), (.slice none 0 0)]) rfl rfl (oc1 rfl (oc1 rfl (oc1 rfl oc0))) (fun H38 oq off39 => ?_)
  replace hp := hp0.le (off39.le lE nq)
  replace hp2 := hp20.le (off39.le lE nq)
  replace hva := hva0.le (off39.le lE nq)
  replace hvb := hvb0.le (off39.le lE nq)
  replace lE := off39.le lE nq
  replace oq : Cel H38 q [(.int .i64 (0)), (.int .i64 (0)), (.slice none 0 0)] := oq
  refine ob_i (oq.ldn rfl) ?_
  exact hk1 (fun h => hc4 h.1) _ lE
theorem C.impl_meet_1 {p p2 q s va vb : Value} {ra ca rb cb row col i k : Int} {la lb : List Int} {H : Hp} {K : Value → Hp → Prop} (hp0 : Cel H p [.int .i64 ra, .int .i64 ca, va]) (hp20 : Cel H p2 [.int .i64 rb, .int .i64 cb, vb]) (hq0 : Cel H q [.int .i64 row]) (hs0 : Cel H s [.int .i64 col])
    (hva0 : Sl eI H va la) (hvb0 : Sl eI H vb lb) (ha : fieldN 1 ra ca la) (hb : fieldN 1 rb cb lb) (i0 : 0 ≤ i) (i1 : i ≤ 1000) (k0 : 0 ≤ k) (k1 : k ≤ 1000) (h0 : 0 ≤ row ∧ row ≤ 24) (h1 : 0 ≤ col ∧ col ≤ 24)
    (hk : ∀ H', Le H H' → K (.int .i64 (metG ra ca la rb cb lb row col i k)) H') : HT prg I.impl_meet_1 [.int .i64 i, .int .i64 k, p, p2, q, s].toArray H K := by
 have lE := Le.refl H
 have hp := hp0
 have hp2 := hp20
 have hq := hq0
 have hs := hs0
 have hva := hva0
 have hvb := hvb0
 refine R.impl_meet_1 ?_
 unfold F.impl_meet_1
 refine ob_i (hp.ldn rfl) ?_
 refine ob_i (hp2.ldn rfl) ?_
 refine ob_i (hq.ld0 rfl) ?_
 refine ob_i (vInt_sub (by omega) (by omega)) ?_
 refine ob_i (hs.ld0 rfl) ?_
 refine ob_i (vInt_sub (by omega) (by omega)) ?_
 refine C.look_flat hva ha.1 ha.2.1 (fun H1 le2 => ?_)
 replace hvb := hvb.le le2
 replace lE := lE.trans le2
 refine ⟨le2, ?_⟩
 refine C.look_flat hvb hb.1 hb.2.1 (fun H3 le4 => ?_)
 replace lE := lE.trans le4
 refine ⟨le4, ?_⟩
 refine ob_i (vMx_max _ _ _) ?_
 exact hk _ lE
theorem C.impl_meet {va vb : Value} {ra ca rb cb row col : Int} {la lb : List Int} {H : Hp} {K : Value → Hp → Prop} (hva0 : Sl eI H va la) (hvb0 : Sl eI H vb lb) (k1 : la.length ≤ 9223372036854775807) (k2 : lb.length ≤ 9223372036854775807)
    (hk1 : ¬ metOk ra ca la rb cb lb row col → ∀ H', Le H H' → K (.tuple #[.agg #[.int .i64 0, .int .i64 0, .slice none 0 0], .bool false]) H')
    (hk2 : metOk ra ca la rb cb lb row col → ∀ u H', Own eI H' u (metL0 ra ca la rb cb lb row col) → Nw H u → Le H H' → K (.tuple #[.agg #[.int .i64 (max ra (row + rb)), .int .i64 (max ca (col + cb)), u], .bool true]) H') : HT prg I.impl_meet [.agg #[.int .i64 ra, .int .i64 ca, va], .agg #[.int .i64 rb, .int .i64 cb, vb], .int .i64 row, .int .i64 col].toArray H K := by
 have lE := Le.refl H
 have hva := hva0
 have hvb := hvb0
 refine R.impl_meet ?_
 unfold F.impl_meet
 refine nw_i (fun p H1 op nn2 le3 => ?_)
 replace hva := hva.le le3
 replace hvb := hvb.le le3
 replace lE := lE.trans le3
 replace op : Cel H1 p [(.int .i64 (ra)), (.int .i64 (ca)), va] := op
 refine nw_i (fun p2 H4 op2 nn5 le6 => ?_)
 replace op := op.le le6
 replace hva := hva.le le6
 replace hvb := hvb.le le6
 replace lE := lE.trans le6
 replace op2 : Cel H4 p2 [(.int .i64 (rb)), (.int .i64 (cb)), vb] := op2
 refine nw_i (fun r1 H7 or1 nn8 le9 => ?_)
 replace op := op.le le9
 replace op2 := op2.le le9
 replace hva := hva.le le9
 replace hvb := hvb.le le9
 replace lE := lE.trans le9
 replace or1 : Cel H7 r1 [(.int .i64 (row))] := or1
 refine nw_i (fun r2 H10 or2 nn11 le12 => ?_)
 replace op := op.le le12
 replace op2 := op2.le le12
 replace or1 := or1.le le12
 replace hva := hva.le le12
 replace hvb := hvb.le le12
 replace lE := lE.trans le12
 replace or2 : Cel H10 r2 [(.int .i64 (col))] := or2
 refine nw_i (fun q H13 oq nn14 le15 => ?_)
 have nq : Nw H q := nn14.le lE
 replace op := op.le le15
 replace op2 := op2.le le15
 replace or1 := or1.le le15
 replace or2 := or2.le le15
 replace hva := hva.le le15
 replace hvb := hvb.le le15
 replace lE := lE.trans le15
 replace oq : Cel H13 q [(.int .i64 (0)), (.int .i64 (0)), (.slice none 0 0)] := oq
 refine ob_i (op.ldn rfl) ?_
 refine C.impl_isPlain hva k1 (fun H16 le17 => ?_)
 replace op := op.le le17
 replace op2 := op2.le le17
 replace or1 := or1.le le17
 replace or2 := or2.le le17
 replace oq := oq.le le17
 replace hva := hva.le le17
 replace hvb := hvb.le le17
 replace lE := lE.trans le17
 refine ob_nd (fun hc18 => ?_) (fun hc18 => ?_)
 ·skip
  have q1 := hc18.1.1
  have q2 := hc18.1.2
  refine gop_rf ?_
  refine ob_i (op2.ldn rfl) ?_
  refine gop_rf ?_
  refine C.impl_isPlain hvb k2 (fun H19 le20 => ?_)
  replace op := op.le le20
  replace op2 := op2.le le20
  replace or1 := or1.le le20
  replace or2 := or2.le le20
  replace oq := oq.le le20
  replace hva := hva.le le20
  replace hvb := hvb.le le20
  replace lE := lE.trans le20
  refine gop_rf ?_
  refine ob_nd (fun hc21 => ?_) (fun hc21 => ?_)
  ·skip
   have q3 := hc21.1.1
   have q4 := hc21.1.2
   refine ob_i (vPick_f _ _) ?_
   refine gop_rf ?_
   refine ob_i (or1.ld0 rfl) ?_
   refine gop_rf ?_
   refine C.impl_within  ?_
   refine gop_rf ?_
   refine ob_nd (fun hc22 => ?_) (fun hc22 => ?_)
   ·skip
    refine ob_i (vPick_f _ _) ?_
    refine gop_rf ?_
    refine ob_i (or2.ld0 rfl) ?_
    refine gop_rf ?_
    refine C.impl_within  ?_
    refine gop_rf ?_
    refine ob_nd (fun hc23 => ?_) (fun hc23 => ?_)
    ·skip
     refine ob_i (vPick_f _ _) ?_
     refine cnd_f1 ?_
     refine ob_i (op.fa 0) ?_
     refine ob_i (op.ld 0 rfl) ?_
     refine ob_i (or1.ld0 rfl) ?_
     refine ob_i (op2.fa 0) ?_
     refine ob_i (op2.ld 0 rfl) ?_
     refine ob_i (vInt_add (by omega) (by omega)) ?_
     refine ob_i (vMx_max _ _ _) ?_
     obtain ⟨mr, hmr⟩ : ∃ x, x = max (ra) (row + rb) := ⟨_, rfl⟩
     rw [← hmr]
     refine ob_i (op.fa 1) ?_
     refine ob_i (op.ld 1 rfl) ?_
     refine ob_i (or2.ld0 rfl) ?_
     refine ob_i (op2.fa 1) ?_
     refine ob_i (op2.ld 1 rfl) ?_
     refine ob_i (vInt_add (by omega) (by omega)) ?_
     refine ob_i (vMx_max _ _ _) ?_
     obtain ⟨mc, hmc⟩ : ∃ x, x = max (ca) (col + cb) := ⟨_, rfl⟩
     rw [← hmc]
     refine C.impl_isSide  ?_
     refine ob_nd (fun hc24 => ?_) (fun hc24 => ?_)
     ·skip
      refine gop_rf ?_
      refine gop_rf ?_
      refine C.impl_isSide  ?_
      refine gop_rf ?_
      refine ob_nd (fun hc25 => ?_) (fun hc25 => ?_)
      ·skip
       refine ob_i (vPick_f _ _) ?_
       refine cnd_f1 ?_
       refine C.impl_madeField (g := metG ra ca la rb cb lb row col) (by omega) (by omega) (by omega) (by omega) (fun H' i k Z le hi hk' hZ => ?_) (fun u26 H27 ou26 nn28 le29 => ?_)
       ·refine ⟨by kernel_rfl, ?_⟩
        exact C.impl_meet_1 (op.le le) (op2.le le) (or1.le le) (or2.le le) (hva.le le) (hvb.le le) hc18 hc21 (by omega) (by omega) (by omega) (by omega) (by omega) (by omega) hZ
       have aqXu26 : Apart q u26 := oq.apart nn28
       have nu26 : Nw H u26 := nn28.le lE
       replace oq := oq.le le29
       replace hva := hva.le le29
       replace hvb := hvb.le le29
       replace lE := lE.trans le29
       refine oq.stn (ws := [(.int .i64 (mr)), (.int .i64 (mc)), u26]) rfl rfl (oc1 rfl (oc1 rfl (oc1 ou26.one oc0))) (fun H30 oq off31 => ?_)
       replace ou26 := ou26.off off31 aqXu26.symm
       replace hva := hva0.le (off31.le lE nq)
       replace hvb := hvb0.le (off31.le lE nq)
       replace lE := off31.le lE nq
       replace oq : Cel H30 q [(.int .i64 (mr)), (.int .i64 (mc)), u26] := oq
       refine ob_i (oq.ldn rfl) ?_
       subst hmr hmc
       exact hk2 ⟨hc18, hc21, hc22, hc23, hc24, hc25⟩ u26 _ ou26 nu26 lE
      ·skip
       refine ob_i (vPick_f _ _) ?_
       refine cnd_t1 ?_
       refine ob_i (a := (.agg #[(.int .i64 (0)), (.int .i64 (0)), (.slice none 0 0)])) (by rfl) ?_
       refine oq.stn (ws := [(.int .i64 (0)), (.int .i64 (0)), (.slice none 0 0)]) rfl rfl (oc1 rfl (oc1 rfl (oc1 rfl oc0))) (fun H32 oq off33 => ?_)
       replace hva := hva0.le (off33.le lE nq)
       replace hvb := hvb0.le (off33.le lE nq)
       replace lE := off33.le lE nq
       replace oq : Cel H32 q [(.int .i64 (0)), (.int .i64 (0)), (.slice none 0 0)] := oq
       refine ob_i (oq.ldn rfl) ?_
       subst hmr hmc
       exact hk1 (fun h => hc25 h.2.2.2.2.2) _ lE
     ·skip
      refine gop_st ?_
      refine gop_st ?_
      refine gop_st ?_
      refine ob_i (vPick_t _ _) ?_
      refine cnd_t1 ?_
      refine ob_i (a := (.agg #[(.int .i64 (0)), (.int .i64 (0)), (.slice none 0 0)])) (by rfl) ?_
      refine oq.stn (ws := [(.int .i64 (0)), (.int .i64 (0)), (.slice none 0 0)]) rfl rfl (oc1 rfl (oc1 rfl (oc1 rfl oc0))) (fun H34 oq off35 => ?_)
      replace hva := hva0.le (off35.le lE nq)
      replace hvb := hvb0.le (off35.le lE nq)
      replace lE := off35.le lE nq
      replace oq : Cel H34 q [(.int .i64 (0)), (.int .i64 (0)), (.slice none 0 0)] := oq
      refine ob_i (oq.ldn rfl) ?_
      subst hmr hmc
      exact hk1 (fun h => hc24 h.2.2.2.2.1) _ lE
    ·skip
     refine ob_i (vPick_f _ _) ?_
     refine cnd_t1 ?_
     refine ob_i (a := (.agg #[(.int .i64 (0)), (.int .i64 (0)), (.slice none 0 0)])) (by rfl) ?_
     refine oq.stn (ws := [(.int .i64 (0)), (.int .i64 (0)), (.slice none 0 0)]) rfl rfl (oc1 rfl (oc1 rfl (oc1 rfl oc0))) (fun H36 oq off37 => ?_)
     replace hva := hva0.le (off37.le lE nq)
     replace hvb := hvb0.le (off37.le lE nq)
     replace lE := off37.le lE nq
     replace oq : Cel H36 q [(.int .i64 (0)), (.int .i64 (0)), (.slice none 0 0)] := oq
     refine ob_i (oq.ldn rfl) ?_
     exact hk1 (fun h => hc23 h.2.2.2.1) _ lE
   ·skip
    refine ob_i (vPick_f _ _) ?_
    refine gop_st ?_
    refine gop_st ?_
    refine gop_st ?_
    refine ob_i (vPick_t _ _) ?_
    refine cnd_t1 ?_
    refine ob_i (a := (.agg #[(.int .i64 (0)), (.int .i64 (0)), (.slice none 0 0)])) (by rfl) ?_
    refine oq.stn (ws := [(.int .i64 (0)), (.int .i64 (0)), (.slice none 0 0)]) rfl rfl (oc1 rfl (oc1 rfl (oc1 rfl oc0))) (fun H38 oq off39 => ?_)
    replace hva := hva0.le (off39.le lE nq)
    replace hvb := hvb0.le (off39.le lE nq)
    replace lE := off39.le lE nq
    replace oq : Cel H38 q [(.int .i64 (0)), (.int .i64 (0)), (.slice none 0 0)] := oq
    refine ob_i (oq.ldn rfl) ?_
    exact hk1 (fun h => hc22 h.2.2.1) _ lE
  ·skip
   refine ob_i (vPick_f _ _) ?_
   refine gop_st ?_
   refine gop_st ?_
   refine gop_st ?_
   refine ob_i (vPick_t _ _) ?_
   refine gop_st ?_
   refine gop_st ?_
   refine gop_st ?_
   refine ob_i (vPick_t _ _) ?_
   refine cnd_t1 ?_
   refine ob_i (a := (.agg #[(.int .i64 (0)), (.int .i64 (0)), (.slice none 0 0)])) (by rfl) ?_
   refine oq.stn (ws := [(.int .i64 (0)), (.int .i64 (0)), (.slice none 0 0)]) rfl rfl (oc1 rfl (oc1 rfl (oc1 rfl oc0))) (fun H40 oq off41 => ?_)
   replace hva := hva0.le (off41.le lE nq)
   replace hvb := hvb0.le (off41.le lE nq)
   replace lE := off41.le lE nq
   replace oq : Cel H40 q [(.int .i64 (0)), (.int .i64 (0)), (.slice none 0 0)] := oq
   refine ob_i (oq.ldn rfl) ?_
   exact hk1 (fun h => hc21 h.2.1) _ lE
 ·skip
  refine gop_st ?_
  refine gop_st ?_
  refine gop_st ?_
  refine ob_i (vPick_t _ _) ?_
  refine gop_st ?_
  refine gop_st ?_
  refine gop_st ?_
  refine ob_i (vPick_t _ _) ?_
  refine gop_st ?_
  refine gop_st ?_
  refine gop_st ?_
  refine ob_i (vPick_t _ _) ?_
  refine cnd_t1 ?_
  refine ob_i (a := (.agg #[(.int .i64 (0)), (.int .i64 (0)), (.slice none 0 0)])) (by rfl) ?_
  refine oq.stn (ws := [(.int .i64 (0)), (.int .i64 (0)), (.slice none 0 0)]) rfl rfl (oc1 rfl (oc1 rfl (oc1 rfl oc0))) (fun H42 oq off43 => ?_)
  replace hva := hva0.le (off43.le lE nq)
  replace hvb := hvb0.le (off43.le lE nq)
  replace lE := off43.le lE nq
  replace oq : Cel H42 q [(.int .i64 (0)), (.int .i64 (0)), (.slice none 0 0)] := oq
  refine ob_i (oq.ldn rfl) ?_
  exact hk1 (fun h => hc18 h.1) _ lE
end Go.Proofs.YtffmfkpobjdmmaaGreatDoor
/- Patterns that come again elsewhere. -/
namespace Go.Proofs.YtffmfkpobjdmmaaGreatDoor
open HL
set_option maxRecDepth 100000
/-- A cell of 1 on the border. -/
def bdC (r c : Int) (l : List Int) (j : Nat) : Prop := at_ 0 l (j : Int) = 1 ∧ ((j : Int) / c = 0 ∨ (j : Int) % c = 0 ∨ (j : Int) / c = r - 1 ∨ (j : Int) % c = c - 1)
instance (r c : Int) (l : List Int) (j : Nat) : Decidable (bdC r c l j) := by unfold bdC; infer_instance
def bdU (r c : Int) (l : List Int) (n : Nat) : Prop := ∀ j, j < n → ¬ bdC r c l j
instance (r c : Int) (l : List Int) (n : Nat) : Decidable (bdU r c l n) := by unfold bdU; infer_instance
/-- Is a cell on the border 1? -/
def brdP (r c : Int) (l : List Int) : Prop := ¬ bdU r c l (r * c).toNat
instance (r c : Int) (l : List Int) : Decidable (brdP r c l) := by unfold brdP; infer_instance
section
variable {r c : Int} {l : List Int}
end
def shp0 (r c : Int) (l : List Int) : List Int := mkL 24 (fun x y => flatF r c l (x - (24 - r) / 2) (y - (24 - c) / 2)) ((24 : Int).toNat * (24 : Int).toNat)
/-- Is a field's smallest part that of another one? -/
def matP (l m : List Int) : Prop := 0 ≤ (trm 24 24 m).2.1 ∧ trR 24 24 m = trR 24 24 l ∧ trC 24 24 m = trC 24 24 l ∧ trL 24 24 m = trL 24 24 l
instance (l m : List Int) : Decidable (matP l m) := by unfold matP; infer_instance
def shpS (b s : List Int) (r c : Int) (l : List Int) (n : Nat) : List Int := rnL false b s 24 24 (shp0 r c l) n
def shpE (b s : List Int) (r c : Int) (l : List Int) (t : Nat) : Prop := brdP 24 24 (shpS b s r c l (t + 1)) ∨ matP (shp0 r c l) (shpS b s r c l (t + 1))
instance (b s : List Int) (r c : Int) (l : List Int) : DecidablePred (shpE b s r c l) := fun t => by unfold shpE; infer_instance
def shpF (b s : List Int) (r c : Int) (l : List Int) (st : Int) : Int := fstN (shpE b s r c l) st.toNat
def shpT (b s : List Int) (r c : Int) (l : List Int) (st : Int) : List Int := shpS b s r c l ((shpF b s r c l st).toNat + 1)
def shpOk (b s : List Int) (r c : Int) (l : List Int) (st : Int) : Prop := canP b s r c l ∧ (1 ≤ st ∧ st ≤ 64) ∧ 0 ≤ (trm 24 24 (shp0 r c l)).2.1 ∧ ¬ brdP 24 24 (shp0 r c l) ∧ 0 ≤ shpF b s r c l st ∧ ¬ brdP 24 24 (shpT b s r c l st)
instance (b s : List Int) (r c : Int) (l : List Int) (st : Int) : Decidable (shpOk b s r c l st) := by unfold shpOk; infer_instance
section
variable {b s : List Int} {r c st : Int} {l : List Int} {t : Nat}
end
end Go.Proofs.YtffmfkpobjdmmaaGreatDoor
/- Numbers with a point: NaNs, what is the same, and single numbers told as double ones. -/
namespace Go.Proofs.YtffmfkpobjdmmaaGreatDoor.HL
open Ieee
set_option maxRecDepth 100000
end Go.Proofs.YtffmfkpobjdmmaaGreatDoor.HL
namespace Go.Proofs.YtffmfkpobjdmmaaGreatDoor
open HL
set_option maxRecDepth 100000
end Go.Proofs.YtffmfkpobjdmmaaGreatDoor
/- Numbers compared, shares, seeds. -/
namespace Go.Proofs.YtffmfkpobjdmmaaGreatDoor
open HL
set_option maxRecDepth 100000
def HL.fLe (x y : Nat) : Bool := FloatKind.f32.format.order x y == some .lt || FloatKind.f32.format.order x y == some .eq
def HL.fGe (x y : Nat) : Bool := FloatKind.f32.format.order x y == some .gt || FloatKind.f32.format.order x y == some .eq
/-- A share: from 0 to 1. -/
def shrP (x : Nat) : Prop := fGe x 0 = true ∧ fLe x 1065353216 = true
instance (x : Nat) : Decidable (shrP x) := by unfold shrP; infer_instance
end Go.Proofs.YtffmfkpobjdmmaaGreatDoor
/- Fields that are drawn. -/
namespace Go.Proofs.YtffmfkpobjdmmaaGreatDoor
open HL
set_option maxRecDepth 100000
def drP (r c x : Int) (sh : Nat) : Prop := sidesF r c ∧ shrP sh ∧ 0 ≤ x ∧ x ≤ 4294967295
instance (r c x : Int) (sh : Nat) : Decidable (drP r c x sh) := by unfold drP; infer_instance
def soP (b s : List Int) (r : Int) (sh : Nat) (x st : Int) : Prop := lifP b s ∧ (0 ≤ st ∧ st ≤ 64) ∧ drP r r x sh
instance (b s : List Int) (r : Int) (sh : Nat) (x st : Int) : Decidable (soP b s r sh x st) := by unfold soP; infer_instance
def ssP (b s : List Int) (r : Int) (sh : Nat) (l : List Int) (st wk : Int) : Prop := lifP b s ∧ (1 ≤ r ∧ r ≤ 24) ∧ shrP sh ∧ (l.length : Int) ≤ 16 ∧ (0 ≤ st ∧ st ≤ 64) ∧ (1 ≤ wk ∧ wk ≤ 8) ∧ ∀ x ∈ l, 0 ≤ x ∧ x ≤ 4294967295
instance (b s : List Int) (r : Int) (sh : Nat) (l : List Int) (st wk : Int) : Decidable (ssP b s r sh l st wk) := by unfold ssP; infer_instance
end Go.Proofs.YtffmfkpobjdmmaaGreatDoor
/- Slices whose elements have some cells each: what is read, what is owned. -/
namespace Go.Proofs.YtffmfkpobjdmmaaGreatDoor.HL
theorem add_add (a : Addr) (x y : Nat) : (a.add x).add y = a.add (x + y) := by
  unfold Addr.add
  by_cases hx : x = 0
  · subst hx; simp
  · by_cases hy : y = 0
    · subst hy; simp
    · rw [if_neg hx, if_neg hy, if_neg (by omega)]; simp [Nat.add_assoc]
theorem add_block (a : Addr) (x : Nat) : (a.add x).block = a.block := by unfold Addr.add; split <;> rfl
section
variable {α : Type} {enc : α → List Value} {n : Nat} {H H' : Hp} {u v : Value} {l m : List α}
theorem flat_len (hn : ∀ x, (enc x).length = n) : ∀ l : List α, (l.flatMap enc).length = l.length * n
  | [] => by simp
  | x :: r => by rw [List.flatMap_cons, List.length_append, hn, flat_len hn r, List.length_cons, Nat.add_mul, Nat.one_mul]; omega
theorem flat_get (hn : ∀ x, (enc x).length = n) : ∀ (l : List α) (i j : Nat) (h : i < l.length), j < n → (l.flatMap enc)[i * n + j]? = (enc l[i])[j]?
  | x :: r, 0, j, h, hj => by rw [List.flatMap_cons, Nat.zero_mul, Nat.zero_add, List.getElem?_append_left (by rw [hn]; exact hj)]; rfl
  | x :: r, i + 1, j, h, hj => by
    rw [List.flatMap_cons, List.getElem?_append_right (by rw [hn, Nat.add_mul]; omega), hn, show (i + 1) * n + j - n = i * n + j by rw [Nat.add_mul]; omega, flat_get hn r i j (by simpa using h) hj]
    rfl
theorem flat_ix {i j N : Nat} (h : i < N) (hj : j < n) : i * n + j < N * n := by
  have := Nat.mul_le_mul_right n (show i + 1 ≤ N by omega)
  rw [Nat.add_mul] at this; omega
/-- A slice of elements of n cells that reads so. -/
def SlE (n : Nat) (enc : α → List Value) (H : Hp) (v : Value) (l : List α) : Prop :=
  ∃ a c, v = .slice a l.length c ∧ l.length ≤ c ∧ ∀ t (h : t < (l.flatMap enc).length), ∃ ad, a = some ad ∧ H.cell? (ad.add t) = some (l.flatMap enc)[t]
/-- One whose block is known whole, and may be written. -/
def OwnE (n : Nat) (enc : α → List Value) (H : Hp) (v : Value) (l : List α) : Prop :=
  ∃ a c, v = .slice a l.length c ∧ l.length ≤ c ∧ (0 < c → ∃ b off cs e, a = some ⟨b, off, none⟩ ∧ H b = some (.cells cs e (0, 0)) ∧ off + c * n ≤ cs.size ∧ ∀ t (h : t < (l.flatMap enc).length), cs[off + t]? = some (l.flatMap enc)[t])
/-- The pointer to an element. -/
def ptrE (n : Nat) (v : Value) (i : Int) : Value := match v with | .slice (some a) _ _ => .pointer (some (a.add (i.toNat * n))) | _ => undef
theorem SlE.le (h : SlE n enc H v l) (hl : Le H H') : SlE n enc H' v l := by
  obtain ⟨a, c, rfl, hc, hr⟩ := h
  exact ⟨a, c, rfl, hc, fun i hi => by obtain ⟨ad, e, hh⟩ := hr i hi; exact ⟨ad, e, hl.cell hh⟩⟩
theorem SlE.len (h : SlE n enc H v l) : vLenSl v = some (.int .i64 l.length) := by
  obtain ⟨a, c, rfl, hc, hr⟩ := h; rfl
theorem SlE.base (h : SlE n enc H v l) (hn : ∀ x, (enc x).length = n) (n0 : 0 < n) {i : Nat} (hi : i < l.length) : ∃ a c, v = .slice (some a) l.length c ∧ ∀ j (hj : j < n), H.cell? (a.add (i * n + j)) = (enc l[i])[j]? := by
  obtain ⟨a, c, rfl, hc, hr⟩ := h
  have hb := flat_ix (n := n) hi n0
  obtain ⟨ad, rfl, _⟩ := hr (i * n + 0) (by rw [flat_len hn]; exact hb)
  refine ⟨ad, c, rfl, fun j hj => ?_⟩
  have hk := flat_ix (n := n) hi hj
  obtain ⟨ad', e, hh⟩ := hr (i * n + j) (by rw [flat_len hn]; exact hk)
  cases e
  rw [hh, ← flat_get hn l i j hi hj, List.getElem?_eq_getElem]
theorem SlE.ix (h : SlE n enc H v l) (hn : ∀ x, (enc x).length = n) (n0 : 0 < n) {k : IntKind} {i : Int} (h0 : 0 ≤ i) (h1 : i < l.length) : vIx n v (.int k i) = some (ptrE n v i) := by
  obtain ⟨a, c, rfl, _⟩ := h.base hn n0 (i := i.toNat) (by omega)
  simp only [vIx, ptrE]
  rw [if_pos ⟨h0, by simpa using h1⟩]
theorem SlE.ldn (h : SlE n enc H v l) (hn : ∀ x, (enc x).length = n) (n0 : 0 < n) (d : α) {i : Int} (h0 : 0 ≤ i) (h1 : i < l.length) : vLoadN n (ptrE n v i) H = some (.agg (enc (at_ d l i)).toArray) := by
  have hi : i.toNat < l.length := by omega
  obtain ⟨a, c, rfl, hr⟩ := h.base hn n0 hi
  have e : at_ d l i = l[i.toNat] := by unfold at_; rw [List.getD_eq_getElem?_getD, List.getElem?_eq_getElem hi]; rfl
  simp only [vLoadN, ptrE]
  rw [rd_cells (enc := id) _ n 0 (enc l[i.toNat]) (hn _) (fun j hj => by
    rw [add_add, Nat.zero_add, hr j (by rw [hn] at hj; exact hj), List.getElem?_eq_getElem hj]; rfl), e]
  simp
theorem SlE.fa (h : SlE n enc H v l) (hn : ∀ x, (enc x).length = n) (n0 : 0 < n) {i : Int} (h0 : 0 ≤ i) (h1 : i < l.length) (k : Nat) : vFa k (ptrE n v i) = some (fp (ptrE n v i) k) := by
  obtain ⟨a, c, rfl, _⟩ := h.base hn n0 (i := i.toNat) (by omega)
  rfl
theorem SlE.nilC (h : SlE n enc H v l) (hn : ∀ x, (enc x).length = n) (n0 : 0 < n) {i : Int} (h0 : 0 ≤ i) (h1 : i < l.length) : vNilC (ptrE n v i) = some (ptrE n v i) := by
  obtain ⟨a, c, rfl, _⟩ := h.base hn n0 (i := i.toNat) (by omega)
  rfl
theorem SlE.ld (h : SlE n enc H v l) (hn : ∀ x, (enc x).length = n) (n0 : 0 < n) (d : α) {i : Int} (h0 : 0 ≤ i) (h1 : i < l.length) {k : Nat} (hk : k < n) {x : Value} (hx : (enc (at_ d l i))[k]? = some x) : vLoad (fp (ptrE n v i) k) H = some x := by
  have hi : i.toNat < l.length := by omega
  obtain ⟨a, c, rfl, hr⟩ := h.base hn n0 hi
  have e : at_ d l i = l[i.toNat] := by unfold at_; rw [List.getD_eq_getElem?_getD, List.getElem?_eq_getElem hi]; rfl
  simp only [vLoad, fp, ptrE, add_add]
  rw [hr k hk, ← e, hx]
theorem SlE.firstC (h : SlE n enc H v l) (hn : ∀ x, (enc x).length = n) : firstC H n l.length v = some (l.flatMap enc) := by
  obtain ⟨a, c, rfl, hc, hr⟩ := h
  by_cases h0 : (l.flatMap enc).length = 0
  · have e : l.flatMap enc = [] := List.length_eq_zero_iff.mp h0
    have e2 : l.length * n = 0 := by rw [← flat_len hn]; exact h0
    cases a with
    | none => rw [e]; rfl
    | some ad => simp only [HL.firstC, e2, e]; rfl
  · obtain ⟨ad, rfl, _⟩ := hr 0 (by omega)
    simp only [HL.firstC]
    have := rd_cells (H := H) (enc := id) ad (l.length * n) 0 (l.flatMap enc) (flat_len hn l) (fun i hi => by obtain ⟨ad', e, hh⟩ := hr i hi; cases e; simpa using hh)
    rw [this]; simp
theorem SlE.lenO (h : SlE n enc H v l) : lenO v = some l.length := by
  obtain ⟨a, c, rfl, hc, hr⟩ := h; rfl
theorem OwnE.len (h : OwnE n enc H v l) : vLenSl v = some (.int .i64 l.length) := by
  obtain ⟨a, c, rfl, hc, hr⟩ := h; rfl
theorem OwnE.sl (h : OwnE n enc H v l) (hn : ∀ x, (enc x).length = n) : SlE n enc H v l := by
  obtain ⟨a, c, rfl, hc, hr⟩ := h
  refine ⟨a, c, rfl, hc, fun i hi => ?_⟩
  have h1 := flat_len hn l
  have hc0 : 0 < c := by
    rcases Nat.eq_zero_or_pos c with h | h
    · have : l.length = 0 := by omega
      rw [this, Nat.zero_mul] at h1; omega
    · exact h
  obtain ⟨b, off, cs, e, rfl, hb, hs, hcs⟩ := hr hc0
  exact ⟨_, rfl, by simp only [Hp.cell?, add_none, hb, hcs i hi]; rfl⟩
theorem OwnE.off (h : OwnE n enc H u l) (ho : Off v H H') (ha : Apart u v) : OwnE n enc H' u l := by
  obtain ⟨a, c, rfl, hc, hr⟩ := h
  refine ⟨a, c, rfl, hc, fun h0 => ?_⟩
  obtain ⟨b, off, cs, e, rfl, hb, hs, hcs⟩ := hr h0
  refine ⟨b, off, cs, e, rfl, ho b _ hb (ha b ?_), hs, hcs⟩
  simp only [bk]
  rw [if_neg (by omega)]
theorem OwnE.le (h : OwnE n enc H u l) (hl : Le H H') : OwnE n enc H' u l := by
  obtain ⟨a, c, rfl, hc, hr⟩ := h
  refine ⟨a, c, rfl, hc, fun h0 => ?_⟩
  obtain ⟨b, off, cs, e, rfl, hb, hs, hcs⟩ := hr h0
  exact ⟨b, off, cs, e, rfl, hl b _ hb, hs, hcs⟩
theorem OwnE.known (h : OwnE n enc H u l) : ∀ b, bk u = some b → ∃ o, H b = some o := by
  obtain ⟨a, c, rfl, hc, hr⟩ := h
  intro b hb
  cases a with
  | none => simp [bk] at hb
  | some ad =>
    simp only [bk] at hb
    by_cases h0 : c = 0
    · rw [if_pos h0] at hb; simp at hb
    · rw [if_neg h0] at hb
      obtain ⟨b', off, cs, e, he, hbb, _⟩ := hr (by omega)
      simp only [Option.some.injEq] at hb he
      subst he
      simp only at hb
      subst hb
      exact ⟨_, hbb⟩
theorem OwnE.apart (h : OwnE n enc H u l) (hn : Nw H v) : Apart u v := Apart.of_nw h.known hn
theorem OwnE.one (h : OwnE n enc H v l) : oneCell v = true := by
  obtain ⟨a, c, rfl, _⟩ := h; rfl
theorem OwnE.cells (h : OwnE n enc H v l) : v.cells = #[v] := by
  obtain ⟨a, c, rfl, _⟩ := h; rfl
theorem OwnE.isSl (h : OwnE n enc H v l) : ∃ a n c, v = .slice a n c := by
  obtain ⟨a, c, h, _⟩ := h; exact ⟨_, _, _, h⟩
theorem OwnE.cast {l' : List α} (e : l = l') (h : OwnE n enc H v l) : OwnE n enc H v l' := e ▸ h
theorem OwnE.nil_of (a : Option Addr) : OwnE n enc H (.slice a 0 0) ([] : List α) := ⟨a, 0, rfl, by simp, fun h0 => absurd h0 (by simp)⟩
theorem SlE.nil (c : Nat) (a : Option Addr) : SlE n enc H (.slice a 0 c) ([] : List α) := ⟨a, c, rfl, by simp, fun i hi => absurd hi (by simp)⟩
theorem SlE.one (h : SlE n enc H v l) : oneCell v = true := by
  obtain ⟨a, c, rfl, _⟩ := h; rfl
theorem SlE.cells (h : SlE n enc H v l) : v.cells = #[v] := by
  obtain ⟨a, c, rfl, _⟩ := h; rfl
theorem SlE.cast {l' : List α} (e : l = l') (h : SlE n enc H v l) : SlE n enc H v l' := e ▸ h
/-- A new row of elements of n cells: one element. -/
theorem bSE_one {z : Array Value} {e : TypeId} {x : α} {k : Nat} {cs : List Value} {K : Value → Hp → Prop} (hx : enc x = cs) (hl : cs.length = n) (n0 : 0 < n) (n1 : n ≤ 1000) (hz : z.size = n)
    (hk : ∀ v H', OwnE n enc H' v [x] → Nw H v → Le H H' → K v H') (hk1 : k = 1) : bS n k z e [(0, .agg cs.toArray)] H K := by
  subst hk1
  refine ⟨by omega, ?_⟩
  have hs : (zrow z (1 * n)).size = n := by simp [zrow]
  have hf : Instr.fill (fun i => some (i * n, n)) (if 1 * n = 0 then #[] else zrow z (1 * n)) [(0, .agg cs.toArray)] = some cs.toArray := by
    rw [if_neg (by omega)]
    simp only [Instr.fill, Value.cells, Nat.zero_mul, Nat.zero_add]
    rw [if_neg (by rw [hs]; simp [hl])]
    congr 1
    apply Array.ext_getElem?
    intro i
    have key : ∀ (r : List Value) (s : Nat) (a : Array Value), s + r.length ≤ a.size → ((r.toArray.zipIdx s).foldl (fun cs x => cs.setIfInBounds x.2 x.1) a)[i]? = if s ≤ i ∧ i < s + r.length then r[i - s]? else a[i]? := by
      intro r
      induction r with
      | nil => intro s a _; rw [if_neg (by simp only [List.length_nil]; omega), ← Array.foldl_toList, Array.toList_zipIdx]; rfl
      | cons y r ih =>
        intro s a ha
        simp only [List.length_cons] at ha ⊢
        rw [← Array.foldl_toList]
        simp only [Array.toList_zipIdx, List.zipIdx_cons, List.foldl_cons]
        have := ih (s + 1) (a.setIfInBounds s y) (by simp; omega)
        rw [← Array.foldl_toList] at this
        simp only [Array.toList_zipIdx] at this
        rw [this]
        by_cases h1 : s = i
        · subst h1
          rw [if_neg (by omega), if_pos (by omega), Array.getElem?_setIfInBounds_self_of_lt (by omega)]; simp
        · by_cases h2 : s + 1 ≤ i ∧ i < s + 1 + r.length
          · rw [if_pos h2, if_pos (by omega), show i - s = (i - (s + 1)) + 1 by omega]; simp
          · rw [if_neg h2, if_neg (by omega), Array.getElem?_setIfInBounds_ne h1]
    have := key cs 0 (zrow z (1 * n)) (by rw [hs]; omega)
    simp only [Nat.zero_add, Nat.zero_le, true_and, Nat.sub_zero] at this
    rw [this]
    split
    · simp
    · rw [Array.getElem?_eq_none (by rw [hs]; omega), Array.getElem?_eq_none (by simp; omega)]
  rw [hf]
  intro r hr
  refine hk _ _ ⟨some ⟨r, 0, none⟩, 1, rfl, Nat.le_refl _, fun _ => ⟨r, 0, _, e, rfl, Hp.put_same _ _ _, by simp [hl], fun t ht => ?_⟩⟩ ?_ (Le.put _ hr)
  · simp only [List.flatMap_cons, List.flatMap_nil, List.append_nil, hx] at ht ⊢
    simp [ht]
  · intro b hb
    simp only [bk] at hb
    split at hb
    · simp at hb
    · simp only [Option.some.injEq] at hb; subst hb; exact hr
theorem bSE_nil {z : Array Value} {e : TypeId} {K : Value → Hp → Prop} (hk : ∀ v H', OwnE n enc H' v ([] : List α) → Nw H v → bk v = none → Le H H' → K v H') : bS n 0 z e [] H K := by
  refine ⟨by simp, ?_⟩
  rw [if_pos (by simp)]
  show match some (#[] : Array Value) with
    | some cells => ∀ r, H r = none → K (.slice (some ⟨r, 0, none⟩) 0 0) (H.put r (.cells cells e))
    | none => False
  intro r hr
  refine hk _ _ (OwnE.nil_of _) ?_ rfl (Le.put _ hr)
  intro b hb
  simp [bk] at hb
/-- An append. -/
theorem OwnE.apd {bytes : Nat} {z : Array Value} {e : TypeId} {w : Value} {K : Value → Hp → Prop} (h : OwnE n enc H v l) (hn : ∀ x, (enc x).length = n) (hz : z.size = n) (hm : SlE n enc H w m) (ho : ∀ x ∈ m, ∀ y ∈ enc x, oneCell y = true)
    (hb : bytes ≤ 64) (hlm : l.length + m.length ≤ 68719476736)
    (hk : ∀ v' H', OwnE n enc H' v' (l ++ m) → Off v H H' → (∀ b, bk v' = some b → bk v = some b ∨ H b = none) → K v' H') : apd n bytes z e v w H K := by
  have hmf := hm.firstC hn
  have hml := hm.lenO
  have hlf := (h.sl hn).firstC hn
  have fl := flat_len hn l
  have fm := flat_len hn m
  have hap : (l ++ m).flatMap enc = l.flatMap enc ++ m.flatMap enc := List.flatMap_append
  obtain ⟨a, c, rfl, hlc, hr⟩ := h
  simp only [HL.apd, hml]
  by_cases hcap : l.length + m.length ≤ c
  · rw [if_pos hcap]
    simp only [hmf]
    by_cases hc0 : c = 0
    · have hl : l = [] := List.length_eq_zero_iff.mp (by omega)
      have hm' : m = [] := List.length_eq_zero_iff.mp (by omega)
      subst hl hm' hc0
      have : K (.slice a (([] : List α).length + ([] : List α).length) 0) H := hk _ H ⟨a, 0, rfl, by simp, fun h0 => absurd h0 (by simp)⟩ (fun b o hb _ => hb) (fun b hb => by cases a <;> simp [bk] at hb)
      cases a with
      | none => exact this
      | some ad => exact this
    · obtain ⟨b, off, cs, e', rfl, hbb, hs, hcs⟩ := hr (by omega)
      have hmul : (l.length + m.length) * n ≤ c * n := Nat.mul_le_mul_right n hcap
      rw [Nat.add_mul] at hmul
      simp only [add_none]
      refine stC_run (b := b) (e := e') (m.flatMap enc) _ 0 cs H rfl rfl hbb (by simp only [Nat.add_zero]; omega) (fun x hx => by
        obtain ⟨y, hy, hxy⟩ := List.mem_flatMap.mp hx; exact ho y hy x hxy) ?_
      intro H' cs' h1 h2 h3 h4 h5
      simp only [Nat.add_zero] at h3 h4
      refine hk _ H' ⟨some ⟨b, off, none⟩, c, by simp, by simpa using hcap, fun _ => ⟨b, off, cs', e', rfl, h1, by omega, ?_⟩⟩ ?_ ?_
      · simp only [hap]
        intro t ht
        rw [List.length_append] at ht
        by_cases htl : t < (l.flatMap enc).length
        · rw [h3 _ (by omega), hcs t htl, List.getElem_append_left htl]
        · have := h4 (t - (l.flatMap enc).length) (by omega)
          rw [show off + l.length * n + (t - (l.flatMap enc).length) = off + t by omega] at this
          rw [this, List.getElem_append_right (by omega)]
      · intro x o hx hne
        simp only [bk, if_neg hc0] at hne
        rw [h5 x (by rintro rfl; exact hne rfl)]; exact hx
      · intro x hx
        left; exact hx
  · rw [if_neg hcap]
    refine ⟨by omega, ?_, ?_⟩
    · have := nsc_le (n := l.length + m.length) (c := c) (by omega)
      exact Nat.le_trans (Nat.mul_le_mul this hb) (by omega)
    simp only [hlf, hmf]
    intro c' hc1 hc2 r hr'
    have hmul : (l.length + m.length) * n ≤ c' * n := Nat.mul_le_mul_right n hc1
    have hsub : (c' - (l.length + m.length)) * n = c' * n - (l.length + m.length) * n := Nat.sub_mul _ _ _
    rw [Nat.add_mul] at hmul hsub
    refine hk _ _ ⟨some ⟨r, 0, none⟩, c', by simp, by simpa using hc1, fun _ => ⟨r, 0, _, e, rfl, Hp.put_same _ _ _, ?_, ?_⟩⟩ ?_ ?_
    · have : (Builtin.zeroCells z (c' - (l.length + m.length))).size = (c' - (l.length + m.length)) * n := by simp [Builtin.zeroCells, hz]
      simp only [Nat.zero_add, Array.size_append, List.size_toArray, this, fl, fm]; omega
    · simp only [hap]
      intro t ht
      rw [Nat.zero_add, Array.getElem?_append_left (by simpa using ht)]
      rw [← Array.getElem?_toList]
      simp only [Array.toList_append]
      rw [List.getElem?_eq_getElem ht]
    · intro x o hx _
      rw [Hp.put_ne _ _ (by rintro rfl; rw [hr'] at hx; exact absurd hx (by simp))]; exact hx
    · intro x hx
      right
      simp only [bk] at hx
      split at hx
      · simp at hx
      · simp only [Option.some.injEq] at hx; subst hx; exact hr'
end
end Go.Proofs.YtffmfkpobjdmmaaGreatDoor.HL
/- Fields in slices: one of them. -/
namespace Go.Proofs.YtffmfkpobjdmmaaGreatDoor
open HL
/-- A field as it lies in cells. -/
structure Fv where
  r : Int
  c : Int
  v : Value
def fv0 : Fv := ⟨0, 0, .slice none 0 0⟩
def encFv (x : Fv) : List Value := [.int .i64 x.r, .int .i64 x.c, x.v]
theorem encFv_n (x : Fv) : (encFv x).length = 3 := rfl
end Go.Proofs.YtffmfkpobjdmmaaGreatDoor
/- What the small functions of structs come to: copies, sizes, what is alike. -/
namespace Go.Proofs.YtffmfkpobjdmmaaGreatDoor
open HL
set_option maxRecDepth 100000
end Go.Proofs.YtffmfkpobjdmmaaGreatDoor
/- What says whether lists are equal, and whether gases are. -/
namespace Go.Proofs.YtffmfkpobjdmmaaGreatDoor
open HL
set_option maxRecDepth 100000
end Go.Proofs.YtffmfkpobjdmmaaGreatDoor
/- Lanes that are switched: what the program's and the reference's functions come to. -/
namespace Go.Proofs.YtffmfkpobjdmmaaGreatDoor
open HL
set_option maxRecDepth 100000
/-- May the car at i leave lane a for lane b? -/
def chg (a b : List Int) (i : Int) : Prop :=
  0 ≤ at_ 0 a i ∧ 0 ≤ at_ 0 a ((i + 1).tmod a.length) ∧ at_ 0 b i < 0 ∧ at_ 0 b ((i + 1).tmod a.length) < 0 ∧ at_ 0 b ((i + a.length - 1).tmod a.length) < 0
instance (a b : List Int) (i : Int) : Decidable (chg a b i) := by unfold chg; infer_instance
/-- Numbers from k on. -/
def ramp (k : Int) (n : Nat) : List Int := (List.range n).map fun (i : Nat) => k + i
theorem ramp_length (k : Int) (n : Nat) : (ramp k n).length = n := by simp [ramp]
theorem ramp_succ (k : Int) (n : Nat) : ramp k (n + 1) = ramp k n ++ [k + n] := by simp [ramp, List.range_succ]
theorem C.laws_markInt64S {a : Value} {l : List Int} {k : Int} {H : Hp} {K : Value → Hp → Prop} (ha : Own eI H a l) (hl : l.length ≤ 4611686018427387904) (hk0 : 0 ≤ k) (hk1 : k ≤ 4611686018427387903)
    (hk : ∀ H', Own eI H' a (ramp k l.length) → Off a H H' → K (.int .i64 (k + l.length)) H') : HT prg I.laws_markInt64S [a, .int .i64 k].toArray H K := by
 refine R.laws_markInt64S ?_
 unfold F.laws_markInt64S jn; dsimp only
 refine ⟨fun n σ H1 => ∃ i : Nat, n = l.length - i ∧ i ≤ l.length ∧ σ 0 = a ∧ σ 1 = .int .i64 (k + i) ∧ σ 5 = .int .i64 i ∧ Own eI H1 a (ramp k i ++ l.drop i) ∧ Off a H H1,
  ⟨_, 0, rfl, by omega, rfl, by show Value.int .i64 k = _; simp, rfl, by simpa [ramp] using ha, fun b o hb _ => hb⟩, ?_⟩
 rintro n σ H1 ⟨i, rfl, hi', h0, h1, h5, ho, hoff⟩
 have hlen : (ramp k i ++ l.drop i).length = l.length := by simp [ramp_length]; omega
 have hlen2 := ho.len
 rw [hlen] at hlen2
 simp only [h0, h1, h5, hlen2, vInt_lss, ob_some]
 refine cnd_d (fun hlt => ?_) (fun hge => ?_)
 ·have hlt' : i < l.length := by omega
  rw [ho.sl.ix (by omega) (by rw [hlen]; omega), ob_some]
  refine ho.st (x := k + i) (by omega) (by rw [hlen]; omega) rfl rfl (fun H2 ho2 hoff2 => ?_)
  rw [vInt_add (by omega) (by omega), ob_some, vInt_add (by omega) (by omega), ob_some]
  refine nxt (l.length - (i + 1)) (by omega) ⟨i + 1, rfl, by omega, h0, ?_, rfl, ?_, hoff.trans hoff2⟩
  ·show Value.int .i64 (k + i + 1) = _
   congr 1; omega
  ·have e : (ramp k i ++ l.drop i).set (i : Int).toNat (k + i) = ramp k (i + 1) ++ l.drop (i + 1) := by
    rw [ramp_succ, Int.toNat_natCast, List.set_append_right _ _ (by rw [ramp_length]; exact Nat.le_refl _), ramp_length, Nat.sub_self, List.drop_eq_getElem_cons hlt']
    simp only [List.set_cons_zero, List.append_assoc, List.singleton_append]
   rw [← e]; exact ho2
 ·have : i = l.length := by omega
  subst this
  refine retK (K := K) h1 (hk H1 ?_ hoff)
  simpa using ho
theorem at_ramp (k : Int) (n i : Nat) (h : i < n) : at_ 0 (ramp k n) (i : Int) = k + i := by
  rw [at_eq 0 _ (by rw [ramp_length]; exact h)]; simp [ramp]
theorem C.laws_heldInt64S {a : Value} {k : Int} {m : Nat} {H : Hp} {K : Value → Hp → Prop} (ha : Sl eI H a (ramp k m)) (hl : m ≤ 4611686018427387904) (hk0 : 0 ≤ k) (hk1 : k ≤ 4611686018427387903)
    (hk : K (.int .i64 (k + m)) H) : HT prg I.laws_heldInt64S [a, .int .i64 k].toArray H K := by
 refine R.laws_heldInt64S ?_
 unfold F.laws_heldInt64S jn; dsimp only
 have hlen := ha.len
 rw [ramp_length] at hlen
 refine ⟨fun n σ H1 => ∃ i : Nat, n = m - i ∧ i ≤ m ∧ H1 = H ∧ σ 0 = a ∧ σ 1 = .int .i64 (k + i) ∧ σ 5 = .int .i64 i,
  ⟨_, 0, rfl, by omega, rfl, rfl, by show Value.int .i64 k = _; simp, rfl⟩, ?_⟩
 rintro n σ H1 ⟨i, rfl, hi', rfl, h0, h1, h5⟩
 simp only [h0, h1, h5, hlen, vInt_lss, ob_some]
 refine cnd_d (fun hlt => ?_) (fun hge => ?_)
 ·have hlt' : i < m := by omega
  rw [ha.ix (by omega) (by rw [ramp_length]; omega), ob_some, ha.ld 0 (by omega) (by rw [ramp_length]; omega), ob_some, at_ramp k m i hlt', vInt_neq, ob_some]
  refine cnd_d (fun hne => absurd rfl hne) (fun _ => ?_)
  rw [vInt_add (by omega) (by omega), ob_some, vInt_add (by omega) (by omega), ob_some]
  refine nxt (m - (i + 1)) (by omega) ⟨i + 1, rfl, by omega, rfl, h0, ?_, rfl⟩
  show Value.int .i64 (k + i + 1) = _
  congr 1; omega
 ·have : i = m := by omega
  subst this
  exact retK (K := K) h1 hk
theorem C.slices_Clone_int64Zint64 {a : Value} {l : List Int} {H : Hp} {K : Value → Hp → Prop} (ha : Sl eI H a l) (hl : l.length ≤ 68719476736) (hk : ∀ v H', Own eI H' v l → Nw H v → Le H H' → K v H') :
    HT prg I.slices_Clone_int64Zint64 [a].toArray H K := by
 refine R.slices_Clone_int64Zint64 ?_
 unfold F.slices_Clone_int64Zint64
 obtain ⟨p, c, rfl, hc, hr⟩ := id ha
 show cnd (.bool p.isNone) _ _
 cases p with
 | none =>
  have : l = [] := by
   cases l with
   | nil => rfl
   | cons x r => obtain ⟨ad, h, _⟩ := hr 0 (by simp); cases h
  subst this
  exact hk _ H ⟨none, 0, rfl, by simp, fun h => absurd h (by simp)⟩ (fun b hb => by simp [bk] at hb) (Le.refl H)
 | some p => exact clone_i (b := 8) ha (fun _ => rfl) (by omega) hl (fun _ => hk)
def okSw (l m : List Int) : Prop := isLane l ∧ isLane m ∧ l.length = m.length
instance (l m : List Int) : Decidable (okSw l m) := by unfold okSw; infer_instance
end Go.Proofs.YtffmfkpobjdmmaaGreatDoor
/- Life on fields, step by step: the program's and the reference's. -/
namespace Go.Proofs.YtffmfkpobjdmmaaGreatDoor
open HL
set_option maxRecDepth 100000
theorem C.spec_l04Counts {va : Value} {l : List Int}  {H : Hp} {K : Value → Hp → Prop} (hva0 : Sl eI H va l) (k1 : l.length ≤ 9223372036854775807)
    (hk : ∀ H', Le H H' → K (.bool (decide (cntP l))) H') : HT prg I.spec_l04Counts [va].toArray H K := by
 have lE := Le.refl H
 have hva := hva0
 refine R.spec_l04Counts ?_
 unfold F.spec_l04Counts
 refine jn_i (fun σ' H' => Le H H' ∧ cntU l l.length ∧ cntV l l.length) (fun σ1 H1 hP => ?_) (fun J1 hJ1 => ?_)
 ·skip
  obtain ⟨lE, ho0⟩ := hP
  skip
  exact keq (K := K) (by rw [decide_eq_true (show (cntP l) from by exact ⟨cntV_all ho0.2 (Nat.le_refl _), ho0.1⟩)]) (hk   _    lE)
 refine ⟨fun n' σ' H' => ∃ i : Nat, n' = l.length - i ∧ i ≤ l.length ∧ σ' 0 = va ∧ σ' 3 = (.int .i64 ((i : Int))) ∧ Le H H' ∧ cntU l i ∧ cntV l i,
  ⟨_, 0, rfl, by omega, rfl, (congrArg (Value.int .i64) (by first | omega | rfl | (simp; done))), lE, ⟨cntU_zero l, cntV_zero l⟩⟩, ?_⟩
 rintro n2 σ2 H2 ⟨i, rfl, hiN, g0L2, g3L2, lE, hpre⟩
 have hva := hva0.le lE
 try simp only [g0L2, g3L2]
 refine ob_i (hva.len) ?_
 refine ob_i (vInt_lss _ _ _) ?_
 refine cnd_d (fun hg3 => ?_) (fun hg3 => ?_)
 ·skip
  have ti := hg3
  refine ob_i (hva.ix (by omega) (by omega)) ?_
  refine ob_i (hva.ld 0 (by omega) (by omega)) ?_
  refine C.spec_l00In  ?_
  refine ⟨Le.refl _, ?_⟩
  refine ob_nd (fun hc4 => ?_) (fun hc4 => ?_)
  ·skip
   refine gop_rf ?_
   refine gop_rf ?_
   refine ob_i (vInt_gtr _ _ _) ?_
   refine gop_rf ?_
   by_cases hc5 : 0 < (i : Int)
   ·skip
    refine gop_e (decide_eq_true hc5) ?_
    refine gop_rt ?_
    refine gop_e (decide_eq_true hc5) ?_
    refine gop_rt ?_
    refine gop_e (decide_eq_true hc5) ?_
    refine gop_rt ?_
    refine ob_i (hva.ix (by omega) (by omega)) ?_
    refine gop_e (decide_eq_true hc5) ?_
    refine gop_rt ?_
    refine ob_i (hva.ld 0 (by omega) (by omega)) ?_
    refine gop_e (decide_eq_true hc5) ?_
    refine gop_rt ?_
    refine gop_e (decide_eq_true hc5) ?_
    refine gop_rt ?_
    refine gop_e (decide_eq_true hc5) ?_
    refine gop_rt ?_
    refine ob_i (vInt_sub (by omega) (by omega)) ?_
    refine gop_e (decide_eq_true hc5) ?_
    refine gop_rt ?_
    refine ob_i (hva.ix (by omega) (by omega)) ?_
    refine gop_e (decide_eq_true hc5) ?_
    refine gop_rt ?_
    refine ob_i (hva.ld 0 (by omega) (by omega)) ?_
    refine gop_e (decide_eq_true hc5) ?_
    refine gop_rt ?_
    refine ob_i (vInt_leq _ _ _) ?_
    refine gop_rf ?_
    refine ob_i (vPick_et (decide_eq_true hc5) _ _) ?_
    refine ob_i (vPick_f _ _) ?_
    refine cnd_d (fun hg6 => ?_) (fun hg6 => ?_)
    ·skip
     refine retK (K := K) (v' := (.bool false)) rfl ?_
     skip
     exact keq (K := K) (by rw [decide_eq_false (show ¬ (cntP l) from by intro h; have h1 := cntP_in h (j := i) (by omega); have h2 := cntP_up h (j := i) (by omega); omega)]) (hk   _    lE)
    ·skip
     refine ob_i (vInt_add (by omega) (by omega)) ?_
     exact nxt (l.length - (i + 1)) (by omega) ⟨i + 1, rfl, by omega, g0L2, (congrArg (Value.int .i64) (by first | omega | rfl | (simp; done))), lE, ⟨cntU_succ hpre.1 (by intro; omega), cntV_succ hpre.2 (by first | assumption | omega)⟩⟩
   ·skip
    refine gop_e (decide_eq_false hc5) ?_
    refine gop_sf ?_
    refine gop_e (decide_eq_false hc5) ?_
    refine gop_sf ?_
    refine gop_e (decide_eq_false hc5) ?_
    refine gop_sf ?_
    refine gop_e (decide_eq_false hc5) ?_
    refine gop_sf ?_
    refine gop_e (decide_eq_false hc5) ?_
    refine gop_sf ?_
    refine gop_e (decide_eq_false hc5) ?_
    refine gop_sf ?_
    refine gop_e (decide_eq_false hc5) ?_
    refine gop_sf ?_
    refine gop_e (decide_eq_false hc5) ?_
    refine gop_sf ?_
    refine gop_e (decide_eq_false hc5) ?_
    refine gop_sf ?_
    refine gop_e (decide_eq_false hc5) ?_
    refine gop_sf ?_
    refine gop_rf ?_
    refine ob_i (vPick_ef (decide_eq_false hc5) _ _) ?_
    refine ob_i (vPick_f _ _) ?_
    refine cnd_f1 ?_
    refine ob_i (vInt_add (by omega) (by omega)) ?_
    exact nxt (l.length - (i + 1)) (by omega) ⟨i + 1, rfl, by omega, g0L2, (congrArg (Value.int .i64) (by first | omega | rfl | (simp; done))), lE, ⟨cntU_succ hpre.1 (by intro; omega), cntV_succ hpre.2 (by first | assumption | omega)⟩⟩
  ·skip
   refine gop_st ?_
   refine gop_st ?_
   refine gop_st ?_
   refine gop_u ?_
   refine gop_u ?_
   refine gop_u ?_
   refine gop_u ?_
   refine gop_u ?_
   refine gop_u ?_
   refine gop_u ?_
   refine gop_u ?_
   refine gop_u ?_
   refine gop_u ?_
   refine gop_st ?_
   refine ob_i (vPick_t _ _) ?_
   refine cnd_t1 ?_
   refine retK (K := K) (v' := (.bool false)) rfl ?_
   skip
   exact keq (K := K) (by rw [decide_eq_false (show ¬ (cntP l) from by intro h; have h1 := cntP_in h (j := i) (by omega); have h2 := cntP_up h (j := i) (by omega); omega)]) (hk   _    lE)
 ·skip
  have ti := hg3
  exact hJ1 _ _ ⟨lE, (by rw [show l.length = i by omega]; exact hpre)⟩
theorem C.impl_areCounts {va : Value} {l : List Int}  {H : Hp} {K : Value → Hp → Prop} (hva0 : Sl eI H va l) (k1 : l.length ≤ 9223372036854775807)
    (hk : ∀ H', Le H H' → K (.bool (decide (cntP l))) H') : HT prg I.impl_areCounts [va].toArray H K := by
 have lE := Le.refl H
 have hva := hva0
 refine R.impl_areCounts ?_
 unfold F.impl_areCounts
 refine jn_i (fun σ' H' => σ' 0 = va ∧ Le H H' ∧ cntU l l.length) (fun σ1 H1 hP => ?_) (fun J1 hJ1 => ?_)
 ·skip
  obtain ⟨g0L1, lE, ho0⟩ := hP
  have hva := hva0.le lE
  try simp only [g0L1]
  refine C.impl_areWithin hva (by first | omega | assumption) ?_
  skip
  exact keq (K := K) (by rw [show decide (∀ x ∈ l, 0 ≤ x ∧ x ≤ 8) = decide (cntP l) from decide_eq_decide.mpr (by exact ⟨fun h => ⟨h, ho0⟩, fun h => h.1⟩)]) (hk   _    lE)
 refine ⟨fun n' σ' H' => ∃ i : Nat, n' = l.length - i ∧ i ≤ l.length ∧ σ' 0 = va ∧ σ' 3 = (.int .i64 ((i : Int) + 1)) ∧ Le H H' ∧ cntU l (i + 1),
  ⟨_, 0, rfl, by omega, rfl, (congrArg (Value.int .i64) (by first | omega | rfl | (simp; done))), lE, cntU_one l⟩, ?_⟩
 rintro n2 σ2 H2 ⟨i, rfl, hiN, g0L2, g3L2, lE, hpre⟩
 have hva := hva0.le lE
 try simp only [g0L2, g3L2]
 refine ob_i (hva.len) ?_
 refine ob_i (vInt_lss _ _ _) ?_
 refine cnd_d (fun hg3 => ?_) (fun hg3 => ?_)
 ·skip
  have ti := hg3
  refine ob_i (hva.ix (by omega) (by omega)) ?_
  refine ob_i (hva.ld 0 (by omega) (by omega)) ?_
  refine ob_i (vInt_sub (by omega) (by omega)) ?_
  refine ob_i (hva.ix (by omega) (by omega)) ?_
  refine ob_i (hva.ld 0 (by omega) (by omega)) ?_
  refine ob_i (vInt_leq _ _ _) ?_
  refine cnd_d (fun hg4 => ?_) (fun hg4 => ?_)
  ·skip
   refine retK (K := K) (v' := (.bool false)) rfl ?_
   skip
   exact keq (K := K) (by rw [decide_eq_false (show ¬ (cntP l) from by intro h; have h2 := cntP_up h (j := i + 1) (by omega); rw [show (((i + 1 : Nat) : Int)) = (i : Int) + 1 by omega] at h2; omega)]) (hk   _    lE)
  ·skip
   refine ob_i (vInt_add (by omega) (by omega)) ?_
   exact nxt (l.length - (i + 1)) (by omega) ⟨i + 1, rfl, by omega, g0L2, (congrArg (Value.int .i64) (by first | omega | rfl | (simp; done))), lE, cntU_succ hpre (by intro; rw [show (((i + 1 : Nat) : Int)) = (i : Int) + 1 by omega]; omega)⟩
 ·skip
  have ti := hg3
  exact hJ1 _ _ ⟨g0L2, lE, cntU_full hpre (by omega)⟩
theorem C.spec_l04Life {w vb vs : Value} {b : List Int} {s : List Int}  {H : Hp} {K : Value → Hp → Prop} (hw0 : Cel H w [vb, vs]) (hvb0 : Sl eI H vb b) (hvs0 : Sl eI H vs s) (kb : b.length ≤ 9223372036854775807) (ks : s.length ≤ 9223372036854775807)
    (hk : ∀ H', Le H H' → K (.bool (decide (lifP b s))) H') : HT prg I.spec_l04Life [w].toArray H K := by
 have lE := Le.refl H
 have hw := hw0
 have hvb := hvb0
 have hvs := hvs0
 refine R.spec_l04Life ?_
 unfold F.spec_l04Life
 refine ob_i (hw.nilC) ?_
 refine ob_i (hw.fa 0) ?_
 refine ob_i (hw.ld 0 rfl) ?_
 refine C.spec_l04Counts hvb (by first | omega | assumption) (fun   H1    le2 => ?_)
 replace hw := hw.le le2
 replace hvs := hvs.le le2
 replace lE := lE.trans le2
 by_cases hc3 : cntP b
 ·skip
  refine gop_e (decide_eq_true hc3) ?_
  refine gop_rt ?_
  refine gop_e (decide_eq_true hc3) ?_
  refine gop_rt ?_
  refine ob_i (hw.nilC) ?_
  refine gop_e (decide_eq_true hc3) ?_
  refine gop_rt ?_
  refine ob_i (hw.fa 1) ?_
  refine gop_e (decide_eq_true hc3) ?_
  refine gop_rt ?_
  refine ob_i (hw.ld 1 rfl) ?_
  refine gop_e (decide_eq_true hc3) ?_
  refine gop_rt ?_
  refine C.spec_l04Counts hvs (by first | omega | assumption) (fun   H4    le5 => ?_)
  replace lE := lE.trans le5
  refine ob_i (vPick_et (decide_eq_true hc3) _ _) ?_
  skip
  exact keq (K := K) (by rw [show decide (cntP s) = decide (lifP b s) from decide_eq_decide.mpr (by exact ⟨fun h => ⟨by assumption, h⟩, fun h => h.2⟩)]) (hk   _    lE)
 ·skip
  refine gop_e (decide_eq_false hc3) ?_
  refine gop_sf ?_
  refine gop_e (decide_eq_false hc3) ?_
  refine gop_sf ?_
  refine gop_e (decide_eq_false hc3) ?_
  refine gop_sf ?_
  refine gop_e (decide_eq_false hc3) ?_
  refine gop_sf ?_
  refine gop_e (decide_eq_false hc3) ?_
  refine gop_sf ?_
  refine ob_i (vPick_ef (decide_eq_false hc3) _ _) ?_
  skip
  have hc_ := hc3
  exact keq (K := K) (by rw [decide_eq_false (show ¬ (lifP b s) from by exact fun h => hc_ h.1)]) (hk   _    lE)
theorem C.impl_ValidLife {vb vs : Value} {b : List Int} {s : List Int}  {H : Hp} {K : Value → Hp → Prop} (hvb0 : Sl eI H vb b) (hvs0 : Sl eI H vs s) (kb : b.length ≤ 9223372036854775807) (ks : s.length ≤ 9223372036854775807)
    (hk : ∀ H', Le H H' → K (.bool (decide (lifP b s))) H') : HT prg I.impl_ValidLife [(.agg #[vb, vs])].toArray H K := by
 have lE := Le.refl H
 have hvb := hvb0
 have hvs := hvs0
 refine R.impl_ValidLife ?_
 unfold F.impl_ValidLife
 refine nw_i (fun p1 H2 op1 nn3 le4 => ?_)
 replace hvb := hvb.le le4
 replace hvs := hvs.le le4
 replace lE := lE.trans le4
 replace op1 : Cel H2 p1 [vb, vs] := op1
 refine ob_i (op1.fa 0) ?_
 refine ob_i (op1.ld 0 rfl) ?_
 refine C.impl_areCounts hvb (by first | omega | assumption) (fun   H5    le6 => ?_)
 replace op1 := op1.le le6
 replace hvs := hvs.le le6
 replace lE := lE.trans le6
 by_cases hc7 : cntP b
 ·skip
  refine gop_e (decide_eq_true hc7) ?_
  refine gop_rt ?_
  refine ob_i (op1.fa 1) ?_
  refine gop_e (decide_eq_true hc7) ?_
  refine gop_rt ?_
  refine ob_i (op1.ld 1 rfl) ?_
  refine gop_e (decide_eq_true hc7) ?_
  refine gop_rt ?_
  refine C.impl_areCounts hvs (by first | omega | assumption) (fun   H8    le9 => ?_)
  replace lE := lE.trans le9
  refine ob_i (vPick_et (decide_eq_true hc7) _ _) ?_
  skip
  exact keq (K := K) (by rw [show decide (cntP s) = decide (lifP b s) from decide_eq_decide.mpr (by exact ⟨fun h => ⟨by assumption, h⟩, fun h => h.2⟩)]) (hk   _    lE)
 ·skip
  refine gop_e (decide_eq_false hc7) ?_
  refine gop_sf ?_
  refine gop_e (decide_eq_false hc7) ?_
  refine gop_sf ?_
  refine gop_e (decide_eq_false hc7) ?_
  refine gop_sf ?_
  refine ob_i (vPick_ef (decide_eq_false hc7) _ _) ?_
  skip
  have hc_ := hc7
  exact keq (K := K) (by rw [decide_eq_false (show ¬ (lifP b s) from by exact fun h => hc_ h.1)]) (hk   _    lE)
theorem C.spec_l04Can {w p vb vs vc : Value} {r c : Int} {b : List Int} {s : List Int} {l : List Int}  {H : Hp} {K : Value → Hp → Prop} (hw0 : Cel H w [vb, vs]) (hp0 : Cel H p [(.int .i64 (r)), (.int .i64 (c)), vc]) (hvb0 : Sl eI H vb b) (hvs0 : Sl eI H vs s) (hvc0 : Sl eI H vc l) (kb : b.length ≤ 9223372036854775807) (ks : s.length ≤ 9223372036854775807) (k1 : l.length ≤ 9223372036854775807)
    (hk : ∀ H', Le H H' → K (.bool (decide (canP b s r c l))) H') : HT prg I.spec_l04Can [w, p].toArray H K := by
 have lE := Le.refl H
 have hw := hw0
 have hp := hp0
 have hvb := hvb0
 have hvs := hvs0
 have hvc := hvc0
 refine R.spec_l04Can ?_
 unfold F.spec_l04Can
 refine C.spec_l04Life hw hvb hvs (by first | omega | assumption) (by first | omega | assumption) (fun   H1    le2 => ?_)
 replace hp := hp.le le2
 replace hvc := hvc.le le2
 replace lE := lE.trans le2
 by_cases hc3 : lifP b s
 ·skip
  refine gop_e (decide_eq_true hc3) ?_
  refine gop_rt ?_
  refine gop_e (decide_eq_true hc3) ?_
  refine gop_rt ?_
  refine C.spec_l04Plain hp hvc (by first | omega | assumption) ?_
  refine ob_i (vPick_et (decide_eq_true hc3) _ _) ?_
  skip
  exact keq (K := K) (by rw [show decide (fieldN 1 r c l) = decide (canP b s r c l) from decide_eq_decide.mpr (by exact ⟨fun h => ⟨by assumption, h⟩, fun h => h.2⟩)]) (hk   _    lE)
 ·skip
  refine gop_e (decide_eq_false hc3) ?_
  refine gop_sf ?_
  refine gop_e (decide_eq_false hc3) ?_
  refine gop_sf ?_
  refine ob_i (vPick_ef (decide_eq_false hc3) _ _) ?_
  skip
  have hc_ := hc3
  exact keq (K := K) (by rw [decide_eq_false (show ¬ (canP b s r c l) from by exact fun h => hc_ h.1)]) (hk   _    lE)
theorem C.spec_l04Own {p vc : Value} {r c : Int} {l : List Int}  {H : Hp} {K : Value → Hp → Prop} (hp0 : Cel H p [(.int .i64 (r)), (.int .i64 (c)), vc]) (hvc0 : Sl eI H vc l) (k2 : l.length ≤ 68719476736)
    (hk : ∀ u1 H', Own eI H' u1 l → Nw H u1 → Le H H' → K (.agg #[(.int .i64 (r)), (.int .i64 (c)), u1]) H') : HT prg I.spec_l04Own [p].toArray H K := by
 have lE := Le.refl H
 have hp := hp0
 have hvc := hvc0
 refine R.spec_l04Own ?_
 unfold F.spec_l04Own
 refine nw_i (fun p1 H2 op1 nn3 le4 => ?_)
 have np1 : Nw H p1 := nn3.le lE
 replace hp := hp.le le4
 replace hvc := hvc.le le4
 replace lE := lE.trans le4
 replace op1 : Cel H2 p1 [(.int .i64 (0)), (.int .i64 (0)), (.slice none 0 0)] := op1
 refine ob_i (hp.nilC) ?_
 refine ob_i (hp.fa 0) ?_
 refine ob_i (hp.ld 0 rfl) ?_
 refine ob_i (hp.nilC) ?_
 refine ob_i (hp.fa 1) ?_
 refine ob_i (hp.ld 1 rfl) ?_
 refine ob_i (hp.nilC) ?_
 refine ob_i (hp.fa 2) ?_
 refine ob_i (hp.ld 2 rfl) ?_
 refine bS_nil (enc := eI) (fun u5 H6 ou5 nn7 kk8 le9 => ?_)
 replace op1 := op1.le le9
 replace hp := hp.le le9
 replace hvc := hvc.le le9
 replace lE := lE.trans le9
 refine apd_nil ou5 kk8 hvc (fun _ => rfl) (by omega) (by omega) (fun u13 H10 ou13 nn14 le15 => ?_)
 have ap1Xu13 : Apart p1 u13 := op1.apart nn14
 have nu13 : Nw H u13 := nn14.le lE
 replace op1 := op1.le le15
 replace hp := hp.le le15
 replace hvc := hvc.le le15
 replace lE := lE.trans le15
 refine ⟨le15, ?_⟩
 refine ob_i (a := (.agg #[(.int .i64 (r)), (.int .i64 (c)), u13])) (by obtain ⟨_, _, _, rfl⟩ := ou13.isSl; rfl) ?_
 refine op1.stn (ws := [(.int .i64 (r)), (.int .i64 (c)), u13]) rfl rfl (oc1 rfl (oc1 rfl (oc1 ou13.one oc0))) (fun H16 op1 off17 => ?_)
 replace ou13 := ou13.off off17 ap1Xu13.symm
 replace hp := hp0.le (off17.le lE np1)
 replace hvc := hvc0.le (off17.le lE np1)
 replace lE := off17.le lE np1
 replace op1 : Cel H16 p1 [(.int .i64 (r)), (.int .i64 (c)), u13] := op1
 refine ob_i (op1.ldn rfl) ?_
 skip
 exact hk  u13 _ ou13 nu13  lE
theorem C.impl_copyField {vc : Value} {r c : Int} {l : List Int}  {H : Hp} {K : Value → Hp → Prop} (hvc0 : Sl eI H vc l) (k2 : l.length ≤ 68719476736)
    (hk : ∀ u1 H', Own eI H' u1 l → Nw H u1 → Le H H' → K (.agg #[(.int .i64 (r)), (.int .i64 (c)), u1]) H') : HT prg I.impl_copyField [(.agg #[(.int .i64 (r)), (.int .i64 (c)), vc])].toArray H K := by
 have lE := Le.refl H
 have hvc := hvc0
 refine R.impl_copyField ?_
 unfold F.impl_copyField
 refine nw_i (fun p1 H2 op1 nn3 le4 => ?_)
 have np1 : Nw H p1 := nn3.le lE
 replace hvc := hvc.le le4
 replace lE := lE.trans le4
 replace op1 : Cel H2 p1 [(.int .i64 (r)), (.int .i64 (c)), vc] := op1
 refine nw_i (fun p5 H6 op5 nn7 le8 => ?_)
 have ap1Xp5 : Apart p1 p5 := op1.apart nn7
 have np5 : Nw H p5 := nn7.le lE
 replace op1 := op1.le le8
 replace hvc := hvc.le le8
 replace lE := lE.trans le8
 replace op5 : Cel H6 p5 [(.int .i64 (0)), (.int .i64 (0)), (.slice none 0 0)] := op5
 refine ob_i (op1.fa 2) ?_
 refine ob_i (op1.ld 2 rfl) ?_
 refine C.slices_Clone_int64Zint64 hvc (by first | omega | assumption) (fun  u11 H9 ou11 nn12  le10 => ?_)
 have ap1Xu11 : Apart p1 u11 := op1.apart nn12
 have ap5Xu11 : Apart p5 u11 := op5.apart nn12
 have nu11 : Nw H u11 := nn12.le lE
 replace op1 := op1.le le10
 replace op5 := op5.le le10
 replace hvc := hvc.le le10
 replace lE := lE.trans le10
 refine ob_i (op1.fa 2) ?_
 refine op1.st (by simp) ou11.one ou11.cells (fun H13 op1 off14 => ?_)
 replace op5 := op5.off off14 ap1Xp5.symm
 replace ou11 := ou11.off off14 ap1Xu11.symm
 replace hvc := hvc0.le (off14.le lE np1)
 replace lE := off14.le lE np1
 replace op1 : Cel H13 p1 [(.int .i64 (r)), (.int .i64 (c)), u11] := op1
 refine ob_i (op1.ldn rfl) ?_
 refine op5.stn (ws := [(.int .i64 (r)), (.int .i64 (c)), u11]) rfl rfl (oc1 rfl (oc1 rfl (oc1 ou11.one oc0))) (fun H15 op5 off16 => ?_)
 replace ou11 := ou11.off off16 ap5Xu11.symm
 replace hvc := hvc0.le (off16.le lE np5)
 replace lE := off16.le lE np5
 replace op5 : Cel H15 p5 [(.int .i64 (r)), (.int .i64 (c)), u11] := op5
 refine ob_i (op5.ldn rfl) ?_
 skip
 exact hk  u11 _ ou11 nu11  lE
theorem C.spec_l04Has {va : Value} {x : Int} {l : List Int}  {H : Hp} {K : Value → Hp → Prop} (hva0 : Sl eI H va l) (k1 : l.length ≤ 9223372036854775807)
    (hk : ∀ H', Le H H' → K (.bool (decide (x ∈ l))) H') : HT prg I.spec_l04Has [va, (.int .i64 (x))].toArray H K := by
 have lE := Le.refl H
 have hva := hva0
 refine R.spec_l04Has ?_
 unfold F.spec_l04Has
 refine jn_i (fun σ' H' => Le H H' ∧ x ∉ l) (fun σ1 H1 hP => ?_) (fun J1 hJ1 => ?_)
 ·skip
  obtain ⟨lE, ho0⟩ := hP
  skip
  exact keq (K := K) (by rw [decide_eq_false (show ¬ (x ∈ l) from by exact ho0)]) (hk   _    lE)
 refine ⟨fun n' σ' H' => ∃ i : Nat, n' = l.length - i ∧ i ≤ l.length ∧ σ' 0 = va ∧ σ' 1 = (.int .i64 (x)) ∧ σ' 5 = (.int .i64 ((i : Int))) ∧ Le H H' ∧ x ∉ l.take i,
  ⟨_, 0, rfl, by omega, rfl, rfl, (congrArg (Value.int .i64) (by first | omega | rfl | (simp; done))), lE, by simp⟩, ?_⟩
 rintro n2 σ2 H2 ⟨i, rfl, hiN, g0L2, g1L2, g5L2, lE, hm0⟩
 have hva := hva0.le lE
 try simp only [g0L2, g1L2, g5L2]
 refine ob_i (hva.len) ?_
 refine ob_i (vInt_lss _ _ _) ?_
 refine cnd_d (fun hg3 => ?_) (fun hg3 => ?_)
 ·skip
  have ti := hg3
  refine ob_i (hva.ix (by omega) (by omega)) ?_
  refine ob_i (hva.ld 0 (by omega) (by omega)) ?_
  refine ob_i (vInt_eql _ _ _) ?_
  refine cnd_d (fun hg4 => ?_) (fun hg4 => ?_)
  ·skip
   refine retK (K := K) (v' := (.bool true)) rfl ?_
   skip
   have hg_ := hg4
   exact keq (K := K) (by rw [decide_eq_true (show (x ∈ l) from by rw [← hg_]; exact at_mem 0 l (by omega) (by omega))]) (hk   _    lE)
  ·skip
   refine ob_i (vInt_add (by omega) (by omega)) ?_
   exact nxt (l.length - (i + 1)) (by omega) ⟨i + 1, rfl, by omega, g0L2, g1L2, (congrArg (Value.int .i64) (by first | omega | rfl | (simp; done))), lE, notin_succ hm0 (by omega) hg4⟩
 ·skip
  have ti := hg3
  exact hJ1 _ _ ⟨lE, (by rw [List.take_of_length_le (by omega)] at hm0; exact hm0)⟩
theorem C.slices_Index_int64Zint64 {va : Value} {x : Int} {l : List Int}  {H : Hp} {K : Value → Hp → Prop} (hva0 : Sl eI H va l) (k1 : l.length ≤ 9223372036854775807)
    (hk : ∀ H', Le H H' → K (.int .i64 (idxL x l)) H') : HT prg I.slices_Index_int64Zint64 [va, (.int .i64 (x))].toArray H K := by
 have lE := Le.refl H
 have hva := hva0
 refine R.slices_Index_int64Zint64 ?_
 unfold F.slices_Index_int64Zint64
 refine jn_i (fun σ' H' => Le H H' ∧ x ∉ l) (fun σ1 H1 hP => ?_) (fun J1 hJ1 => ?_)
 ·skip
  obtain ⟨lE, ho0⟩ := hP
  skip
  exact keq (K := K) (by rw [show ((idxL x l) : Int) = ((-1)) from by exact idxL_not ho0]) (hk   _    lE)
 refine ob_i (hva.len) ?_
 refine ⟨fun n' σ' H' => ∃ i : Nat, n' = l.length - i ∧ i ≤ l.length ∧ σ' 0 = va ∧ σ' 1 = (.int .i64 (x)) ∧ σ' 7 = (.int .i64 (((l).length : Int))) ∧ σ' 8 = (.int .i64 ((i : Int))) ∧ Le H H' ∧ x ∉ l.take i,
  ⟨_, 0, rfl, by omega, rfl, rfl, rfl, (congrArg (Value.int .i64) (by first | omega | rfl | (simp; done))), lE, by simp⟩, ?_⟩
 rintro n2 σ2 H2 ⟨i, rfl, hiN, g0L2, g1L2, g7L2, g8L2, lE, hm0⟩
 have hva := hva0.le lE
 try simp only [g0L2, g1L2, g7L2, g8L2]
 refine ob_i (vInt_lss _ _ _) ?_
 refine cnd_d (fun hg3 => ?_) (fun hg3 => ?_)
 ·skip
  have ti := hg3
  refine ob_i (hva.ix (by omega) (by omega)) ?_
  refine ob_i (hva.ld 0 (by omega) (by omega)) ?_
  refine ob_i (vInt_eql _ _ _) ?_
  refine cnd_d (fun hg4 => ?_) (fun hg4 => ?_)
  ·skip
   refine retK (K := K) (v' := (.int .i64 ((i : Int)))) rfl ?_
   skip
   exact keq (K := K) (by rw [show (((i : Int)) : Int) = (idxL x l) from by exact (idxL_at hm0 (by omega) hg4.symm).symm]) (hk   _    lE)
  ·skip
   refine ob_i (vInt_add (by omega) (by omega)) ?_
   exact nxt (l.length - (i + 1)) (by omega) ⟨i + 1, rfl, by omega, g0L2, g1L2, g7L2, (congrArg (Value.int .i64) (by first | omega | rfl | (simp; done))), lE, notin_succ hm0 (by omega) (fun h => hg4 h.symm)⟩
 ·skip
  have ti := hg3
  exact hJ1 _ _ ⟨lE, (by rw [List.take_of_length_le (by omega)] at hm0; exact hm0)⟩
theorem C.slices_Contains_int64Zint64 {va : Value} {x : Int} {l : List Int}  {H : Hp} {K : Value → Hp → Prop} (hva0 : Sl eI H va l) (k1 : l.length ≤ 9223372036854775807)
    (hk : ∀ H', Le H H' → K (.bool (decide (x ∈ l))) H') : HT prg I.slices_Contains_int64Zint64 [va, (.int .i64 (x))].toArray H K := by
 have lE := Le.refl H
 have hva := hva0
 refine R.slices_Contains_int64Zint64 ?_
 unfold F.slices_Contains_int64Zint64
 refine C.slices_Index_int64Zint64 hva (by first | omega | assumption) (fun   H1    le2 => ?_)
 replace lE := lE.trans le2
 refine ob_i (vInt_geq _ _ _) ?_
 skip
 exact keq (K := K) (by rw [show decide (0 ≤ (idxL x l)) = decide (x ∈ l) from decide_eq_decide.mpr (by exact idxL_mem)]) (hk   _    lE)
theorem C.impl_bit {q : Bool}  {H : Hp} {K : Value → Hp → Prop}
    (hk : K (.int .i64 (if q = true then 1 else 0)) H) : HT prg I.impl_bit [(.bool (q))].toArray H K := by
 have lE := Le.refl H
 refine R.impl_bit ?_
 unfold F.impl_bit
 refine cnd_i (fun hg1 => ?_) (fun hg1 => ?_)
 ·skip
  skip
  exact keq (K := K) (by rw [show ((if q = true then 1 else 0) : Int) = (1) from by rw [if_pos hg1]]) (hk )
 ·skip
  skip
  exact keq (K := K) (by rw [show ((if q = true then 1 else 0) : Int) = (0) from by rw [if_neg (by rw [hg1]; simp)]]) (hk )
theorem C.spec_l04Around {p vc : Value} {i k r c : Int} {rnd : Bool} {l : List Int}  {H : Hp} {K : Value → Hp → Prop} (hp0 : Cel H p [(.int .i64 (r)), (.int .i64 (c)), vc]) (hvc0 : Sl eI H vc l) (hf : fieldN 1 r c l) (i0 : 0 ≤ i) (i1 : i < r) (j0 : 0 ≤ k) (j1 : k < c)
    (hk : ∀ H', Le H H' → K (.int .i64 (arF rnd r c l i k)) H') : HT prg I.spec_l04Around [p, (.int .i64 (i)), (.int .i64 (k)), (.bool (rnd))].toArray H K := by
 have lE := Le.refl H
 have hp := hp0
 have hvc := hvc0
 refine R.spec_l04Around ?_
 unfold F.spec_l04Around
 have hs := hf.1
 have hl := hf.2.1
 have q1 := hs.1
 have q2 := hs.2
 have qm := sidesF_mul hs
 refine jn_i (fun σ' H' => σ' 9 = (.int .i64 (sumF (fun a => sumF (fun b => skF rnd r c l i k (i - 1 + a) (k - 1 + b)) 3) 3)) ∧ Le H H') (fun σ1 H1 hP => ?_) (fun J1 hJ1 => ?_)
 ·skip
  obtain ⟨g9L1, lE⟩ := hP
  try simp only [g9L1]
  skip
  exact keq (K := K) (by rw [show ((sumF (fun a => sumF (fun b => skF rnd r c l i k (i - 1 + a) (k - 1 + b)) 3) 3) : Int) = (arF rnd r c l i k) from by rfl]) (hk   _    lE)
 refine ob_i (vInt_sub (by omega) (by omega)) ?_
 refine ⟨fun n' σ' H' => ∃ t : Nat, n' = 3 - t ∧ t ≤ 3 ∧ σ' 0 = p ∧ σ' 1 = (.int .i64 (i)) ∧ σ' 2 = (.int .i64 (k)) ∧ σ' 3 = (.bool (rnd)) ∧ σ' 9 = (.int .i64 (sumF (fun a => sumF (fun b => skF rnd r c l i k (i - 1 + a) (k - 1 + b)) 3) t)) ∧ σ' 10 = (.int .i64 (i - 1 + (t : Int))) ∧ Le H H',
  ⟨_, 0, rfl, by omega, rfl, rfl, rfl, rfl, (congrArg (Value.int .i64) (by first | omega | rfl | (simp; done))), (congrArg (Value.int .i64) (by first | omega | rfl | (simp; done))), lE⟩, ?_⟩
 rintro n2 σ2 H2 ⟨t, rfl, htN, g0L2, g1L2, g2L2, g3L2, g9L2, g10L2, lE⟩
 have hp := hp0.le lE
 have hvc := hvc0.le lE
 try simp only [g1L2, g2L2, g10L2]
 have bO := sumF_bnd (f := fun a => sumF (fun b => skF rnd r c l i k (i - 1 + a) (k - 1 + b)) 3) (a := 0) (b := 3) (fun a => by have := sumF_bnd (f := fun b => skF rnd r c l i k (i - 1 + a) (k - 1 + b)) (fun b => skF_01 hf i k _ _) 3; omega) t
 have zI := sumF_zero (fun b => skF rnd r c l i k (i - 1 + (t : Int)) (k - 1 + b))
 refine ob_i (vInt_add (by omega) (by omega)) ?_
 refine ob_i (vInt_leq _ _ _) ?_
 refine cnd_d (fun hg3 => ?_) (fun hg3 => ?_)
 ·skip
  have tt := hg3
  refine jn_i (fun σ' H' => σ' 0 = p ∧ σ' 1 = (.int .i64 (i)) ∧ σ' 2 = (.int .i64 (k)) ∧ σ' 3 = (.bool (rnd)) ∧ σ' 9 = (.int .i64 (sumF (fun a => sumF (fun b => skF rnd r c l i k (i - 1 + a) (k - 1 + b)) 3) (t + 1))) ∧ σ' 10 = (.int .i64 (i - 1 + (t : Int))) ∧ Le H H') (fun σ4 H4 hP => ?_) (fun J4 hJ4 => ?_)
  ·skip
   obtain ⟨g0L4, g1L4, g2L4, g3L4, g9L4, g10L4, lE⟩ := hP
   try simp only [g10L4]
   refine ob_i (vInt_add (by omega) (by omega)) ?_
   exact nxt (3 - (t + 1)) (by omega) ⟨t + 1, rfl, by omega, g0L4, g1L4, g2L4, g3L4, (g9L4.trans (congrArg (Value.int .i64) (by first | omega | rfl | (simp; done)))), (congrArg (Value.int .i64) (by first | omega | rfl | (simp; done))), lE⟩
  refine ob_i (vInt_sub (by omega) (by omega)) ?_
  refine ⟨fun n' σ' H' => ∃ u : Nat, n' = 3 - u ∧ u ≤ 3 ∧ σ' 0 = p ∧ σ' 1 = (.int .i64 (i)) ∧ σ' 2 = (.int .i64 (k)) ∧ σ' 3 = (.bool (rnd)) ∧ σ' 9 = (.int .i64 (sumF (fun a => sumF (fun b => skF rnd r c l i k (i - 1 + a) (k - 1 + b)) 3) t + sumF (fun b => skF rnd r c l i k (i - 1 + (t : Int)) (k - 1 + b)) u)) ∧ σ' 10 = (.int .i64 (i - 1 + (t : Int))) ∧ σ' 11 = (.int .i64 (k - 1 + (u : Int))) ∧ Le H H',
   ⟨_, 0, rfl, by omega, g0L2, g1L2, g2L2, g3L2, (g9L2.trans (congrArg (Value.int .i64) (by first | omega | rfl | (simp; done)))), g10L2, (congrArg (Value.int .i64) (by first | omega | rfl | (simp; done))), lE⟩, ?_⟩
  rintro n5 σ5 H5 ⟨u, rfl, huN, g0L5, g1L5, g2L5, g3L5, g9L5, g10L5, g11L5, lE⟩
  have hp := hp0.le lE
  have hvc := hvc0.le lE
  try simp only [g0L5, g1L5, g2L5, g3L5, g9L5, g10L5, g11L5]
  have bI := sumF_bnd (f := fun b => skF rnd r c l i k (i - 1 + (t : Int)) (k - 1 + b)) (fun b => skF_01 hf i k _ _) u
  have bR := roundF_lt (i := i - 1 + (t : Int)) (k := k - 1 + (u : Int)) hs
  have bV := fieldN_at hf (i := roundF r c (i - 1 + (t : Int)) (k - 1 + (u : Int))) (by omega) (by omega)
  refine ob_i (vInt_add (by omega) (by omega)) ?_
  refine ob_i (vInt_leq _ _ _) ?_
  refine cnd_d (fun hg6 => ?_) (fun hg6 => ?_)
  ·skip
   have tu := hg6
   refine ob_i (vInt_eql _ _ _) ?_
   by_cases hc7 : (i - 1 + (t : Int)) = i
   ·skip
    refine gop_e (decide_eq_true hc7) ?_
    refine gop_rt ?_
    refine gop_e (decide_eq_true hc7) ?_
    refine gop_rt ?_
    refine gop_e (decide_eq_true hc7) ?_
    refine gop_rt ?_
    refine ob_i (vInt_eql _ _ _) ?_
    refine ob_i (vPick_et (decide_eq_true hc7) _ _) ?_
    refine cnd_d (fun hg8 => ?_) (fun hg8 => ?_)
    ·skip
     refine ob_i (vInt_add (by omega) (by omega)) ?_
     have e3 : skF rnd r c l i k (i - 1 + (t : Int)) (k - 1 + (u : Int)) = 0 := by rw [skF_eq]; first | rw [if_pos (by omega)] | (rw [if_neg (by omega)]; first | rw [if_pos (by first | (left; assumption) | (right; omega))] | rw [if_neg (by rintro (h | h) <;> first | omega | exact absurd h (by assumption))])
     have eS : sumF (fun b => skF rnd r c l i k (i - 1 + (t : Int)) (k - 1 + b)) (u + 1) = sumF (fun b => skF rnd r c l i k (i - 1 + (t : Int)) (k - 1 + b)) u + skF rnd r c l i k (i - 1 + (t : Int)) (k - 1 + (u : Int)) := rfl
     exact nxt (3 - (u + 1)) (by omega) ⟨u + 1, rfl, by omega, g0L5, g1L5, g2L5, g3L5, (g9L5.trans (congrArg (Value.int .i64) (by first | omega | rfl | (simp; done)))), g10L5, (congrArg (Value.int .i64) (by first | omega | rfl | (simp; done))), lE⟩
    ·skip
     by_cases hc9 : (rnd) = true
     ·skip
      refine gop_e (hc9) ?_
      refine gop_st ?_
      refine gop_e (hc9) ?_
      refine gop_st ?_
      refine gop_e (hc9) ?_
      refine gop_st ?_
      refine gop_e (hc9) ?_
      refine gop_st ?_
      refine gop_e (hc9) ?_
      refine gop_st ?_
      refine gop_e (hc9) ?_
      refine gop_st ?_
      refine gop_e (hc9) ?_
      refine gop_st ?_
      refine gop_e (hc9) ?_
      refine gop_st ?_
      refine gop_u ?_
      refine gop_u ?_
      refine gop_u ?_
      refine gop_u ?_
      refine gop_u ?_
      refine gop_u ?_
      refine gop_u ?_
      refine gop_e (hc9) ?_
      refine gop_st ?_
      refine ob_i (vPick_et (hc9) _ _) ?_
      refine cnd_t1 ?_
      refine ob_i (hp.nilC) ?_
      refine ob_i (hp.fa 2) ?_
      refine ob_i (hp.ld 2 rfl) ?_
      refine C.spec_l04Round hp (by first | omega | assumption) ?_
      refine ⟨Le.refl _, ?_⟩
      refine ob_i (hvc.ix (by omega) (by omega)) ?_
      refine ob_i (hvc.ld 0 (by omega) (by omega)) ?_
      refine ob_i (vInt_add (by omega) (by omega)) ?_
      refine ob_i (vInt_add (by omega) (by omega)) ?_
      have e3 : skF rnd r c l i k (i - 1 + (t : Int)) (k - 1 + (u : Int)) = at_ 0 l (roundF r c (i - 1 + (t : Int)) (k - 1 + (u : Int))) := by rw [skF_eq]; first | rw [if_pos (by omega)] | (rw [if_neg (by omega)]; first | rw [if_pos (by first | (left; assumption) | (right; omega))] | rw [if_neg (by rintro (h | h) <;> first | omega | exact absurd h (by assumption))])
      have eS : sumF (fun b => skF rnd r c l i k (i - 1 + (t : Int)) (k - 1 + b)) (u + 1) = sumF (fun b => skF rnd r c l i k (i - 1 + (t : Int)) (k - 1 + b)) u + skF rnd r c l i k (i - 1 + (t : Int)) (k - 1 + (u : Int)) := rfl
      exact nxt (3 - (u + 1)) (by omega) ⟨u + 1, rfl, by omega, g0L5, g1L5, g2L5, g3L5, (congrArg (Value.int .i64) (by first | omega | rfl | (simp; done))), g10L5, (congrArg (Value.int .i64) (by first | omega | rfl | (simp; done))), lE⟩
     ·skip
      refine gop_e (eq_false_of_ne_true hc9) ?_
      refine gop_rf ?_
      refine gop_e (eq_false_of_ne_true hc9) ?_
      refine gop_rf ?_
      refine gop_e (eq_false_of_ne_true hc9) ?_
      refine gop_rf ?_
      refine ob_i (hp.nilC) ?_
      refine gop_e (eq_false_of_ne_true hc9) ?_
      refine gop_rf ?_
      refine ob_i (hp.fa 0) ?_
      refine gop_e (eq_false_of_ne_true hc9) ?_
      refine gop_rf ?_
      refine ob_i (hp.ld 0 rfl) ?_
      refine gop_e (eq_false_of_ne_true hc9) ?_
      refine gop_rf ?_
      refine ob_i (vInt_sub (by omega) (by omega)) ?_
      refine gop_e (eq_false_of_ne_true hc9) ?_
      refine gop_rf ?_
      refine C.spec_l00In  ?_
      refine gop_e (eq_false_of_ne_true hc9) ?_
      refine gop_rf ?_
      by_cases hc10 : 0 ≤ (i - 1 + (t : Int)) ∧ (i - 1 + (t : Int)) ≤ (r - 1)
      ·skip
       refine gop_e (decide_eq_true hc10) ?_
       refine gop_rt ?_
       refine gop_e (decide_eq_true hc10) ?_
       refine gop_rt ?_
       refine gop_e (decide_eq_true hc10) ?_
       refine gop_rt ?_
       refine ob_i (hp.nilC) ?_
       refine gop_e (decide_eq_true hc10) ?_
       refine gop_rt ?_
       refine ob_i (hp.fa 1) ?_
       refine gop_e (decide_eq_true hc10) ?_
       refine gop_rt ?_
       refine ob_i (hp.ld 1 rfl) ?_
       refine gop_e (decide_eq_true hc10) ?_
       refine gop_rt ?_
       refine ob_i (vInt_sub (by omega) (by omega)) ?_
       refine gop_e (decide_eq_true hc10) ?_
       refine gop_rt ?_
       refine C.spec_l00In  ?_
       refine gop_e (eq_false_of_ne_true hc9) ?_
       refine gop_rf ?_
       refine ob_i (vPick_et (decide_eq_true hc10) _ _) ?_
       refine ob_i (vPick_ef (eq_false_of_ne_true hc9) _ _) ?_
       refine cnd_d (fun hg11 => ?_) (fun hg11 => ?_)
       ·skip
        refine ob_i (hp.nilC) ?_
        refine ob_i (hp.fa 2) ?_
        refine ob_i (hp.ld 2 rfl) ?_
        refine C.spec_l04Round hp (by first | omega | assumption) ?_
        refine ⟨Le.refl _, ?_⟩
        refine ob_i (hvc.ix (by omega) (by omega)) ?_
        refine ob_i (hvc.ld 0 (by omega) (by omega)) ?_
        refine ob_i (vInt_add (by omega) (by omega)) ?_
        refine ob_i (vInt_add (by omega) (by omega)) ?_
        have e3 : skF rnd r c l i k (i - 1 + (t : Int)) (k - 1 + (u : Int)) = at_ 0 l (roundF r c (i - 1 + (t : Int)) (k - 1 + (u : Int))) := by rw [skF_eq]; first | rw [if_pos (by omega)] | (rw [if_neg (by omega)]; first | rw [if_pos (by first | (left; assumption) | (right; omega))] | rw [if_neg (by rintro (h | h) <;> first | omega | exact absurd h (by assumption))])
        have eS : sumF (fun b => skF rnd r c l i k (i - 1 + (t : Int)) (k - 1 + b)) (u + 1) = sumF (fun b => skF rnd r c l i k (i - 1 + (t : Int)) (k - 1 + b)) u + skF rnd r c l i k (i - 1 + (t : Int)) (k - 1 + (u : Int)) := rfl
        exact nxt (3 - (u + 1)) (by omega) ⟨u + 1, rfl, by omega, g0L5, g1L5, g2L5, g3L5, (congrArg (Value.int .i64) (by first | omega | rfl | (simp; done))), g10L5, (congrArg (Value.int .i64) (by first | omega | rfl | (simp; done))), lE⟩
       ·skip
        refine ob_i (vInt_add (by omega) (by omega)) ?_
        have e3 : skF rnd r c l i k (i - 1 + (t : Int)) (k - 1 + (u : Int)) = 0 := by rw [skF_eq]; first | rw [if_pos (by omega)] | (rw [if_neg (by omega)]; first | rw [if_pos (by first | (left; assumption) | (right; omega))] | rw [if_neg (by rintro (h | h) <;> first | omega | exact absurd h (by assumption))])
        have eS : sumF (fun b => skF rnd r c l i k (i - 1 + (t : Int)) (k - 1 + b)) (u + 1) = sumF (fun b => skF rnd r c l i k (i - 1 + (t : Int)) (k - 1 + b)) u + skF rnd r c l i k (i - 1 + (t : Int)) (k - 1 + (u : Int)) := rfl
        exact nxt (3 - (u + 1)) (by omega) ⟨u + 1, rfl, by omega, g0L5, g1L5, g2L5, g3L5, (g9L5.trans (congrArg (Value.int .i64) (by first | omega | rfl | (simp; done)))), g10L5, (congrArg (Value.int .i64) (by first | omega | rfl | (simp; done))), lE⟩
      ·skip
       refine gop_e (decide_eq_false hc10) ?_
       refine gop_sf ?_
       refine gop_e (decide_eq_false hc10) ?_
       refine gop_sf ?_
       refine gop_e (decide_eq_false hc10) ?_
       refine gop_sf ?_
       refine gop_e (decide_eq_false hc10) ?_
       refine gop_sf ?_
       refine gop_e (decide_eq_false hc10) ?_
       refine gop_sf ?_
       refine gop_e (decide_eq_false hc10) ?_
       refine gop_sf ?_
       refine gop_e (decide_eq_false hc10) ?_
       refine gop_sf ?_
       refine gop_e (eq_false_of_ne_true hc9) ?_
       refine gop_rf ?_
       refine ob_i (vPick_ef (decide_eq_false hc10) _ _) ?_
       refine ob_i (vPick_ef (eq_false_of_ne_true hc9) _ _) ?_
       refine cnd_f1 ?_
       refine ob_i (vInt_add (by omega) (by omega)) ?_
       have e3 : skF rnd r c l i k (i - 1 + (t : Int)) (k - 1 + (u : Int)) = 0 := by rw [skF_eq]; first | rw [if_pos (by omega)] | (rw [if_neg (by omega)]; first | rw [if_pos (by first | (left; assumption) | (right; omega))] | rw [if_neg (by rintro (h | h) <;> first | omega | exact absurd h (by assumption))])
       have eS : sumF (fun b => skF rnd r c l i k (i - 1 + (t : Int)) (k - 1 + b)) (u + 1) = sumF (fun b => skF rnd r c l i k (i - 1 + (t : Int)) (k - 1 + b)) u + skF rnd r c l i k (i - 1 + (t : Int)) (k - 1 + (u : Int)) := rfl
       exact nxt (3 - (u + 1)) (by omega) ⟨u + 1, rfl, by omega, g0L5, g1L5, g2L5, g3L5, (g9L5.trans (congrArg (Value.int .i64) (by first | omega | rfl | (simp; done)))), g10L5, (congrArg (Value.int .i64) (by first | omega | rfl | (simp; done))), lE⟩
   ·skip
    refine gop_e (decide_eq_false hc7) ?_
    refine gop_sf ?_
    refine gop_e (decide_eq_false hc7) ?_
    refine gop_sf ?_
    refine gop_e (decide_eq_false hc7) ?_
    refine gop_sf ?_
    refine ob_i (vPick_ef (decide_eq_false hc7) _ _) ?_
    refine cnd_f1 ?_
    by_cases hc12 : (rnd) = true
    ·skip
     refine gop_e (hc12) ?_
     refine gop_st ?_
     refine gop_e (hc12) ?_
     refine gop_st ?_
     refine gop_e (hc12) ?_
     refine gop_st ?_
     refine gop_e (hc12) ?_
     refine gop_st ?_
     refine gop_e (hc12) ?_
     refine gop_st ?_
     refine gop_e (hc12) ?_
     refine gop_st ?_
     refine gop_e (hc12) ?_
     refine gop_st ?_
     refine gop_e (hc12) ?_
     refine gop_st ?_
     refine gop_u ?_
     refine gop_u ?_
     refine gop_u ?_
     refine gop_u ?_
     refine gop_u ?_
     refine gop_u ?_
     refine gop_u ?_
     refine gop_e (hc12) ?_
     refine gop_st ?_
     refine ob_i (vPick_et (hc12) _ _) ?_
     refine cnd_t1 ?_
     refine ob_i (hp.nilC) ?_
     refine ob_i (hp.fa 2) ?_
     refine ob_i (hp.ld 2 rfl) ?_
     refine C.spec_l04Round hp (by first | omega | assumption) ?_
     refine ⟨Le.refl _, ?_⟩
     refine ob_i (hvc.ix (by omega) (by omega)) ?_
     refine ob_i (hvc.ld 0 (by omega) (by omega)) ?_
     refine ob_i (vInt_add (by omega) (by omega)) ?_
     refine ob_i (vInt_add (by omega) (by omega)) ?_
     have e3 : skF rnd r c l i k (i - 1 + (t : Int)) (k - 1 + (u : Int)) = at_ 0 l (roundF r c (i - 1 + (t : Int)) (k - 1 + (u : Int))) := by rw [skF_eq]; first | rw [if_pos (by omega)] | (rw [if_neg (by omega)]; first | rw [if_pos (by first | (left; assumption) | (right; omega))] | rw [if_neg (by rintro (h | h) <;> first | omega | exact absurd h (by assumption))])
     have eS : sumF (fun b => skF rnd r c l i k (i - 1 + (t : Int)) (k - 1 + b)) (u + 1) = sumF (fun b => skF rnd r c l i k (i - 1 + (t : Int)) (k - 1 + b)) u + skF rnd r c l i k (i - 1 + (t : Int)) (k - 1 + (u : Int)) := rfl
     exact nxt (3 - (u + 1)) (by omega) ⟨u + 1, rfl, by omega, g0L5, g1L5, g2L5, g3L5, (congrArg (Value.int .i64) (by first | omega | rfl | (simp; done))), g10L5, (congrArg (Value.int .i64) (by first | omega | rfl | (simp; done))), lE⟩
    ·skip
     refine gop_e (eq_false_of_ne_true hc12) ?_
     refine gop_rf ?_
     refine gop_e (eq_false_of_ne_true hc12) ?_
     refine gop_rf ?_
     refine gop_e (eq_false_of_ne_true hc12) ?_
     refine gop_rf ?_
     refine ob_i (hp.nilC) ?_
     refine gop_e (eq_false_of_ne_true hc12) ?_
     refine gop_rf ?_
     refine ob_i (hp.fa 0) ?_
     refine gop_e (eq_false_of_ne_true hc12) ?_
     refine gop_rf ?_
     refine ob_i (hp.ld 0 rfl) ?_
     refine gop_e (eq_false_of_ne_true hc12) ?_
     refine gop_rf ?_
     refine ob_i (vInt_sub (by omega) (by omega)) ?_
     refine gop_e (eq_false_of_ne_true hc12) ?_
     refine gop_rf ?_
     refine C.spec_l00In  ?_
     refine gop_e (eq_false_of_ne_true hc12) ?_
     refine gop_rf ?_
     by_cases hc13 : 0 ≤ (i - 1 + (t : Int)) ∧ (i - 1 + (t : Int)) ≤ (r - 1)
     ·skip
      refine gop_e (decide_eq_true hc13) ?_
      refine gop_rt ?_
      refine gop_e (decide_eq_true hc13) ?_
      refine gop_rt ?_
      refine gop_e (decide_eq_true hc13) ?_
      refine gop_rt ?_
      refine ob_i (hp.nilC) ?_
      refine gop_e (decide_eq_true hc13) ?_
      refine gop_rt ?_
      refine ob_i (hp.fa 1) ?_
      refine gop_e (decide_eq_true hc13) ?_
      refine gop_rt ?_
      refine ob_i (hp.ld 1 rfl) ?_
      refine gop_e (decide_eq_true hc13) ?_
      refine gop_rt ?_
      refine ob_i (vInt_sub (by omega) (by omega)) ?_
      refine gop_e (decide_eq_true hc13) ?_
      refine gop_rt ?_
      refine C.spec_l00In  ?_
      refine gop_e (eq_false_of_ne_true hc12) ?_
      refine gop_rf ?_
      refine ob_i (vPick_et (decide_eq_true hc13) _ _) ?_
      refine ob_i (vPick_ef (eq_false_of_ne_true hc12) _ _) ?_
      refine cnd_d (fun hg14 => ?_) (fun hg14 => ?_)
      ·skip
       refine ob_i (hp.nilC) ?_
       refine ob_i (hp.fa 2) ?_
       refine ob_i (hp.ld 2 rfl) ?_
       refine C.spec_l04Round hp (by first | omega | assumption) ?_
       refine ⟨Le.refl _, ?_⟩
       refine ob_i (hvc.ix (by omega) (by omega)) ?_
       refine ob_i (hvc.ld 0 (by omega) (by omega)) ?_
       refine ob_i (vInt_add (by omega) (by omega)) ?_
       refine ob_i (vInt_add (by omega) (by omega)) ?_
       have e3 : skF rnd r c l i k (i - 1 + (t : Int)) (k - 1 + (u : Int)) = at_ 0 l (roundF r c (i - 1 + (t : Int)) (k - 1 + (u : Int))) := by rw [skF_eq]; first | rw [if_pos (by omega)] | (rw [if_neg (by omega)]; first | rw [if_pos (by first | (left; assumption) | (right; omega))] | rw [if_neg (by rintro (h | h) <;> first | omega | exact absurd h (by assumption))])
       have eS : sumF (fun b => skF rnd r c l i k (i - 1 + (t : Int)) (k - 1 + b)) (u + 1) = sumF (fun b => skF rnd r c l i k (i - 1 + (t : Int)) (k - 1 + b)) u + skF rnd r c l i k (i - 1 + (t : Int)) (k - 1 + (u : Int)) := rfl
       exact nxt (3 - (u + 1)) (by omega) ⟨u + 1, rfl, by omega, g0L5, g1L5, g2L5, g3L5, (congrArg (Value.int .i64) (by first | omega | rfl | (simp; done))), g10L5, (congrArg (Value.int .i64) (by first | omega | rfl | (simp; done))), lE⟩
      ·skip
       refine ob_i (vInt_add (by omega) (by omega)) ?_
       have e3 : skF rnd r c l i k (i - 1 + (t : Int)) (k - 1 + (u : Int)) = 0 := by rw [skF_eq]; first | rw [if_pos (by omega)] | (rw [if_neg (by omega)]; first | rw [if_pos (by first | (left; assumption) | (right; omega))] | rw [if_neg (by rintro (h | h) <;> first | omega | exact absurd h (by assumption))])
       have eS : sumF (fun b => skF rnd r c l i k (i - 1 + (t : Int)) (k - 1 + b)) (u + 1) = sumF (fun b => skF rnd r c l i k (i - 1 + (t : Int)) (k - 1 + b)) u + skF rnd r c l i k (i - 1 + (t : Int)) (k - 1 + (u : Int)) := rfl
       exact nxt (3 - (u + 1)) (by omega) ⟨u + 1, rfl, by omega, g0L5, g1L5, g2L5, g3L5, (g9L5.trans (congrArg (Value.int .i64) (by first | omega | rfl | (simp; done)))), g10L5, (congrArg (Value.int .i64) (by first | omega | rfl | (simp; done))), lE⟩
     ·skip
      refine gop_e (decide_eq_false hc13) ?_
      refine gop_sf ?_
      refine gop_e (decide_eq_false hc13) ?_
      refine gop_sf ?_
      refine gop_e (decide_eq_false hc13) ?_
      refine gop_sf ?_
      refine gop_e (decide_eq_false hc13) ?_
      refine gop_sf ?_
      refine gop_e (decide_eq_false hc13) ?_
      refine gop_sf ?_
      refine gop_e (decide_eq_false hc13) ?_
      refine gop_sf ?_
      refine gop_e (decide_eq_false hc13) ?_
      refine gop_sf ?_
      refine gop_e (eq_false_of_ne_true hc12) ?_
      refine gop_rf ?_
      refine ob_i (vPick_ef (decide_eq_false hc13) _ _) ?_
      refine ob_i (vPick_ef (eq_false_of_ne_true hc12) _ _) ?_
      refine cnd_f1 ?_
      refine ob_i (vInt_add (by omega) (by omega)) ?_
      have e3 : skF rnd r c l i k (i - 1 + (t : Int)) (k - 1 + (u : Int)) = 0 := by rw [skF_eq]; first | rw [if_pos (by omega)] | (rw [if_neg (by omega)]; first | rw [if_pos (by first | (left; assumption) | (right; omega))] | rw [if_neg (by rintro (h | h) <;> first | omega | exact absurd h (by assumption))])
      have eS : sumF (fun b => skF rnd r c l i k (i - 1 + (t : Int)) (k - 1 + b)) (u + 1) = sumF (fun b => skF rnd r c l i k (i - 1 + (t : Int)) (k - 1 + b)) u + skF rnd r c l i k (i - 1 + (t : Int)) (k - 1 + (u : Int)) := rfl
      exact nxt (3 - (u + 1)) (by omega) ⟨u + 1, rfl, by omega, g0L5, g1L5, g2L5, g3L5, (g9L5.trans (congrArg (Value.int .i64) (by first | omega | rfl | (simp; done)))), g10L5, (congrArg (Value.int .i64) (by first | omega | rfl | (simp; done))), lE⟩
  ·skip
   have tu := hg6
   obtain rfl : u = 3 := by omega
   exact hJ4 _ _ ⟨g0L5, g1L5, g2L5, g3L5, (g9L5.trans (congrArg (Value.int .i64) (by first | omega | rfl | (simp; done)))), g10L5, lE⟩
 ·skip
  have tt := hg3
  obtain rfl : t = 3 := by omega
  exact hJ1 _ _ ⟨(g9L2.trans (congrArg (Value.int .i64) (by first | omega | rfl | (simp; done)))), lE⟩
theorem C.look_any {vc : Value} {r c i k : Int} {rnd : Bool} {l : List Int} {H : Hp} {K : Value → Hp → Prop} (hc : Sl eI H vc l) (hs : sidesF r c) (hl : (l.length : Int) = r * c) (i0 : -1000 ≤ i) (i1 : i ≤ 1000) (k0 : -1000 ≤ k) (k1 : k ≤ 1000)
    (hk : ∀ H', Le H H' → K (.int .i64 (lkF rnd r c l i k)) H') : HT prg I.impl_Field_look [.agg #[.int .i64 r, .int .i64 c, vc], .int .i64 i, .int .i64 k, .bool rnd].toArray H K := by
  cases rnd with
  | true => exact C.look_round hc hs hl i0 i1 k0 k1 hk
  | false => exact C.look_flat hc hs hl hk
theorem C.impl_Field_around {vc : Value} {r c i k : Int} {rnd : Bool} {l : List Int}  {H : Hp} {K : Value → Hp → Prop} (hvc0 : Sl eI H vc l) (hf : fieldN 1 r c l) (i0 : 0 ≤ i) (i1 : i < r) (j0 : 0 ≤ k) (j1 : k < c)
    (hk : ∀ H', Le H H' → K (.int .i64 (arF rnd r c l i k)) H') : HT prg I.impl_Field_around [(.agg #[(.int .i64 (r)), (.int .i64 (c)), vc]), (.int .i64 (i)), (.int .i64 (k)), (.bool (rnd))].toArray H K := by
 have lE := Le.refl H
 have hvc := hvc0
 refine R.impl_Field_around ?_
 unfold F.impl_Field_around
 have hs := hf.1
 have hl := hf.2.1
 have q1 := hs.1
 have q2 := hs.2
 have qm := sidesF_mul hs
 have x1 := ix_lt (a := i) (b := k) (r := r) (c := c) (by omega) (by omega) (by omega) (by omega)
 have cA := fieldN_at hf (i := i * c + k) (by omega) (by omega)
 have z0 := sumF_zero (fun a => sumF (fun b => lkF rnd r c l (i - 1 + a) (k - 1 + b)) 3)
 refine nw_i (fun p1 H2 op1 nn3 le4 => ?_)
 replace hvc := hvc.le le4
 replace lE := lE.trans le4
 replace op1 : Cel H2 p1 [(.int .i64 (r)), (.int .i64 (c)), vc] := op1
 refine ob_i (op1.ldn rfl) ?_
 refine C.impl_Field_at hvc (by first | omega | assumption) (by first | omega | assumption) (by first | omega | assumption) (by first | omega | assumption) (by first | omega | assumption) (fun   H5    le6 => ?_)
 replace op1 := op1.le le6
 replace hvc := hvc.le le6
 replace lE := lE.trans le6
 refine ob_i (vUn_ngK (by omega) (by omega)) ?_
 refine jn_i (fun σ' H' => σ' 9 = (.int .i64 (arF rnd r c l i k)) ∧ Cel H' p1 [(.int .i64 (r)), (.int .i64 (c)), vc] ∧ Le H H') (fun σ7 H7 hP => ?_) (fun J7 hJ7 => ?_)
 ·skip
  obtain ⟨g9L7, op1, lE⟩ := hP
  try simp only [g9L7]
  skip
  exact hk   _    lE
 refine ob_i (vInt_sub (by omega) (by omega)) ?_
 refine ⟨fun n' σ' H' => ∃ t : Nat, n' = 3 - t ∧ t ≤ 3 ∧ σ' 1 = (.int .i64 (i)) ∧ σ' 2 = (.int .i64 (k)) ∧ σ' 3 = (.bool (rnd)) ∧ σ' 4 = p1 ∧ σ' 9 = (.int .i64 (-at_ 0 l (i * c + k) + sumF (fun a => sumF (fun b => lkF rnd r c l (i - 1 + a) (k - 1 + b)) 3) t)) ∧ σ' 10 = (.int .i64 (i - 1 + (t : Int))) ∧ Cel H' p1 [(.int .i64 (r)), (.int .i64 (c)), vc] ∧ Le H H',
  ⟨_, 0, rfl, by omega, rfl, rfl, rfl, rfl, (congrArg (Value.int .i64) (by first | omega | rfl | (simp; done))), (congrArg (Value.int .i64) (by first | omega | rfl | (simp; done))), op1, lE⟩, ?_⟩
 rintro n8 σ8 H8 ⟨t, rfl, htN, g1L8, g2L8, g3L8, g4L8, g9L8, g10L8, op1, lE⟩
 have hvc := hvc0.le lE
 try simp only [g1L8, g2L8, g10L8]
 have bO := sumF_bnd (f := fun a => sumF (fun b => lkF rnd r c l (i - 1 + a) (k - 1 + b)) 3) (a := 0) (b := 3) (fun a => by have := sumF_bnd (f := fun b => lkF rnd r c l (i - 1 + a) (k - 1 + b)) (fun b => lkF_01 hf _ _) 3; omega) t
 have zI := sumF_zero (fun b => lkF rnd r c l (i - 1 + (t : Int)) (k - 1 + b))
 refine ob_i (vInt_add (by omega) (by omega)) ?_
 refine ob_i (vInt_leq _ _ _) ?_
 refine cnd_d (fun hg9 => ?_) (fun hg9 => ?_)
 ·skip
  have tt := hg9
  refine jn_i (fun σ' H' => σ' 1 = (.int .i64 (i)) ∧ σ' 2 = (.int .i64 (k)) ∧ σ' 3 = (.bool (rnd)) ∧ σ' 4 = p1 ∧ σ' 9 = (.int .i64 (-at_ 0 l (i * c + k) + sumF (fun a => sumF (fun b => lkF rnd r c l (i - 1 + a) (k - 1 + b)) 3) (t + 1))) ∧ σ' 10 = (.int .i64 (i - 1 + (t : Int))) ∧ Cel H' p1 [(.int .i64 (r)), (.int .i64 (c)), vc] ∧ Le H H') (fun σ10 H10 hP => ?_) (fun J10 hJ10 => ?_)
  ·skip
   obtain ⟨g1L10, g2L10, g3L10, g4L10, g9L10, g10L10, op1, lE⟩ := hP
   try simp only [g10L10]
   refine ob_i (vInt_add (by omega) (by omega)) ?_
   exact nxt (3 - (t + 1)) (by omega) ⟨t + 1, rfl, by omega, g1L10, g2L10, g3L10, g4L10, (g9L10.trans (congrArg (Value.int .i64) (by first | omega | rfl | (simp; done)))), (congrArg (Value.int .i64) (by first | omega | rfl | (simp; done))), op1, lE⟩
  refine ob_i (vInt_sub (by omega) (by omega)) ?_
  refine ⟨fun n' σ' H' => ∃ u : Nat, n' = 3 - u ∧ u ≤ 3 ∧ σ' 1 = (.int .i64 (i)) ∧ σ' 2 = (.int .i64 (k)) ∧ σ' 3 = (.bool (rnd)) ∧ σ' 4 = p1 ∧ σ' 9 = (.int .i64 (-at_ 0 l (i * c + k) + sumF (fun a => sumF (fun b => lkF rnd r c l (i - 1 + a) (k - 1 + b)) 3) t + sumF (fun b => lkF rnd r c l (i - 1 + (t : Int)) (k - 1 + b)) u)) ∧ σ' 10 = (.int .i64 (i - 1 + (t : Int))) ∧ σ' 11 = (.int .i64 (k - 1 + (u : Int))) ∧ Cel H' p1 [(.int .i64 (r)), (.int .i64 (c)), vc] ∧ Le H H',
   ⟨_, 0, rfl, by omega, g1L8, g2L8, g3L8, g4L8, (g9L8.trans (congrArg (Value.int .i64) (by first | omega | rfl | (simp; done)))), g10L8, (congrArg (Value.int .i64) (by first | omega | rfl | (simp; done))), op1, lE⟩, ?_⟩
  rintro n11 σ11 H11 ⟨u, rfl, huN, g1L11, g2L11, g3L11, g4L11, g9L11, g10L11, g11L11, op1, lE⟩
  have hvc := hvc0.le lE
  try simp only [g2L11, g3L11, g4L11, g9L11, g10L11, g11L11]
  have bI := sumF_bnd (f := fun b => lkF rnd r c l (i - 1 + (t : Int)) (k - 1 + b)) (fun b => lkF_01 hf _ _) u
  have bV := lkF_01 (rnd := rnd) hf (i - 1 + (t : Int)) (k - 1 + (u : Int))
  refine ob_i (vInt_add (by omega) (by omega)) ?_
  refine ob_i (vInt_leq _ _ _) ?_
  refine cnd_d (fun hg12 => ?_) (fun hg12 => ?_)
  ·skip
   have tu := hg12
   refine ob_i (op1.ldn rfl) ?_
   refine C.look_any hvc (by first | omega | assumption) (by first | omega | assumption) (by first | omega | assumption) (by first | omega | assumption) (by first | omega | assumption) (by first | omega | assumption) (fun   H13    le14 => ?_)
   replace op1 := op1.le le14
   replace lE := lE.trans le14
   refine ob_i (vInt_add (by omega) (by omega)) ?_
   refine ob_i (vInt_add (by omega) (by omega)) ?_
   have eS := sumF_succ (fun b => lkF rnd r c l (i - 1 + (t : Int)) (k - 1 + b)) u
   exact nxt (3 - (u + 1)) (by omega) ⟨u + 1, rfl, by omega, g1L11, g2L11, g3L11, g4L11, (congrArg (Value.int .i64) (by first | omega | rfl | (simp; done))), g10L11, (congrArg (Value.int .i64) (by first | omega | rfl | (simp; done))), op1, lE⟩
  ·skip
   have tu := hg12
   obtain rfl : u = 3 := by omega
   have eO := sumF_succ (fun a => sumF (fun b => lkF rnd r c l (i - 1 + a) (k - 1 + b)) 3) t
   exact hJ10 _ _ ⟨g1L11, g2L11, g3L11, g4L11, (g9L11.trans (congrArg (Value.int .i64) (by first | omega | rfl | (simp; done)))), g10L11, op1, lE⟩
 ·skip
  have tt := hg9
  obtain rfl : t = 3 := by omega
  have eA := arF_eq (rnd := rnd) (l := l) i0 i1 j0 j1
  exact hJ7 _ _ ⟨(g9L8.trans (congrArg (Value.int .i64) (by first | omega | rfl | (simp; done)))), op1, lE⟩
theorem C.impl_Life_becomes {vb vs : Value} {x n : Int} {b : List Int} {s : List Int}  {H : Hp} {K : Value → Hp → Prop} (hvb0 : Sl eI H vb b) (hvs0 : Sl eI H vs s) (kb : b.length ≤ 9223372036854775807) (ks : s.length ≤ 9223372036854775807)
    (hk : ∀ H', Le H H' → K (.int .i64 (if x = 0 then (if n ∈ b then 1 else 0) else (if n ∈ s then 1 else 0))) H') : HT prg I.impl_Life_becomes [(.agg #[vb, vs]), (.int .i64 (x)), (.int .i64 (n))].toArray H K := by
 have lE := Le.refl H
 have hvb := hvb0
 have hvs := hvs0
 refine R.impl_Life_becomes ?_
 unfold F.impl_Life_becomes
 refine nw_i (fun p1 H2 op1 nn3 le4 => ?_)
 replace hvb := hvb.le le4
 replace hvs := hvs.le le4
 replace lE := lE.trans le4
 replace op1 : Cel H2 p1 [vb, vs] := op1
 refine ob_i (vInt_eql _ _ _) ?_
 refine cnd_d (fun hg5 => ?_) (fun hg5 => ?_)
 ·skip
  refine ob_i (op1.fa 0) ?_
  refine ob_i (op1.ld 0 rfl) ?_
  refine C.slices_Contains_int64Zint64 hvb (by first | omega | assumption) (fun   H6    le7 => ?_)
  replace lE := lE.trans le7
  refine C.impl_bit  ?_
  skip
  exact keq (K := K) (by rw [show ((if x = 0 then (if n ∈ b then 1 else 0) else (if n ∈ s then 1 else 0)) : Int) = (if (decide (n ∈ b)) = true then 1 else 0) from by simp only [ hg5, if_true, decide_eq_true_eq]]) (hk   _    lE)
 ·skip
  refine ob_i (op1.fa 1) ?_
  refine ob_i (op1.ld 1 rfl) ?_
  refine C.slices_Contains_int64Zint64 hvs (by first | omega | assumption) (fun   H8    le9 => ?_)
  replace lE := lE.trans le9
  refine C.impl_bit  ?_
  skip
  exact keq (K := K) (by rw [show ((if x = 0 then (if n ∈ b then 1 else 0) else (if n ∈ s then 1 else 0)) : Int) = (if (decide (n ∈ s)) = true then 1 else 0) from by simp only [ hg5, if_false, decide_eq_true_eq]]) (hk   _    lE)
theorem C.impl_Life_step_1 {w p g vb vs vc : Value} {i k r c : Int} {rnd : Bool} {b : List Int} {s : List Int} {l : List Int}  {H : Hp} {K : Value → Hp → Prop} (hw0 : Cel H w [vb, vs]) (hp0 : Cel H p [(.int .i64 (r)), (.int .i64 (c)), vc]) (hg0 : Cel H g [(.bool (rnd))]) (hvb0 : Sl eI H vb b) (hvs0 : Sl eI H vs s) (hvc0 : Sl eI H vc l) (hf : fieldN 1 r c l) (kb : b.length ≤ 9223372036854775807) (ks : s.length ≤ 9223372036854775807) (i0 : 0 ≤ i) (i1 : i < r) (j0 : 0 ≤ k) (j1 : k < c)
    (hk : ∀ H', Le H H' → K (.int .i64 (nxG rnd b s r c l i k)) H') : HT prg I.impl_Life_step_1 [(.int .i64 (i)), (.int .i64 (k)), w, p, g].toArray H K := by
 have lE := Le.refl H
 have hw := hw0
 have hp := hp0
 have hg := hg0
 have hvb := hvb0
 have hvs := hvs0
 have hvc := hvc0
 refine R.impl_Life_step_1 ?_
 unfold F.impl_Life_step_1
 have hs := hf.1
 have hl := hf.2.1
 have q1 := hs.1
 have q2 := hs.2
 have qm := sidesF_mul hs
 have x1 := ix_lt (a := i) (b := k) (r := r) (c := c) (by omega) (by omega) (by omega) (by omega)
 refine ob_i (hw.ldn rfl) ?_
 refine ob_i (hp.ldn rfl) ?_
 refine ob_i (hp.ldn rfl) ?_
 refine ob_i (hg.ld0 rfl) ?_
 refine C.impl_Field_at hvc (by first | omega | assumption) (by first | omega | assumption) (by first | omega | assumption) (by first | omega | assumption) (by first | omega | assumption) (fun   H1    le2 => ?_)
 replace hvb := hvb.le le2
 replace hvs := hvs.le le2
 replace hvc := hvc.le le2
 replace lE := lE.trans le2
 refine ⟨le2, ?_⟩
 refine C.impl_Field_around hvc (by first | omega | assumption) (by first | omega | assumption) (by first | omega | assumption) (by first | omega | assumption) (by first | omega | assumption) (fun   H3    le4 => ?_)
 replace hvb := hvb.le le4
 replace hvs := hvs.le le4
 replace lE := lE.trans le4
 refine ⟨le4, ?_⟩
 refine C.impl_Life_becomes hvb hvs (by first | omega | assumption) (by first | omega | assumption) (fun   H5    le6 => ?_)
 replace lE := lE.trans le6
 refine ⟨le6, ?_⟩
 skip
 exact keq (K := K) (by rw [show ((if (at_ 0 l (i * c + k)) = 0 then (if (arF rnd r c l i k) ∈ b then 1 else 0) else (if (arF rnd r c l i k) ∈ s then 1 else 0)) : Int) = (nxG rnd b s r c l i k) from by rfl]) (hk   _    lE)
theorem C.impl_Life_step {vb vs vc : Value} {r c : Int} {rnd : Bool} {b : List Int} {s : List Int} {l : List Int}  {H : Hp} {K : Value → Hp → Prop} (hvb0 : Sl eI H vb b) (hvs0 : Sl eI H vs s) (hvc0 : Sl eI H vc l) (hf : fieldN 1 r c l) (kb : b.length ≤ 9223372036854775807) (ks : s.length ≤ 9223372036854775807)
    (hk : ∀ u1 H', Own eI H' u1 (nxL rnd b s r c l) → Nw H u1 → Le H H' → K (.agg #[(.int .i64 (r)), (.int .i64 (c)), u1]) H') : HT prg I.impl_Life_step [(.agg #[vb, vs]), (.agg #[(.int .i64 (r)), (.int .i64 (c)), vc]), (.bool (rnd))].toArray H K := by
 have lE := Le.refl H
 have hvb := hvb0
 have hvs := hvs0
 have hvc := hvc0
 refine R.impl_Life_step ?_
 unfold F.impl_Life_step
 have hs := hf.1
 have hl := hf.2.1
 have q1 := hs.1
 have q2 := hs.2
 have qm := sidesF_mul hs
 refine nw_i (fun p1 H2 op1 nn3 le4 => ?_)
 replace hvb := hvb.le le4
 replace hvs := hvs.le le4
 replace hvc := hvc.le le4
 replace lE := lE.trans le4
 replace op1 : Cel H2 p1 [vb, vs] := op1
 refine nw_i (fun p5 H6 op5 nn7 le8 => ?_)
 replace op1 := op1.le le8
 replace hvb := hvb.le le8
 replace hvs := hvs.le le8
 replace hvc := hvc.le le8
 replace lE := lE.trans le8
 replace op5 : Cel H6 p5 [(.int .i64 (r)), (.int .i64 (c)), vc] := op5
 refine nw_i (fun p9 H10 op9 nn11 le12 => ?_)
 replace op1 := op1.le le12
 replace op5 := op5.le le12
 replace hvb := hvb.le le12
 replace hvs := hvs.le le12
 replace hvc := hvc.le le12
 replace lE := lE.trans le12
 replace op9 : Cel H10 p9 [(.bool (rnd))] := op9
 refine nw_i (fun p13 H14 op13 nn15 le16 => ?_)
 have np13 : Nw H p13 := nn15.le lE
 replace op1 := op1.le le16
 replace op5 := op5.le le16
 replace op9 := op9.le le16
 replace hvb := hvb.le le16
 replace hvs := hvs.le le16
 replace hvc := hvc.le le16
 replace lE := lE.trans le16
 replace op13 : Cel H14 p13 [(.int .i64 (0)), (.int .i64 (0)), (.slice none 0 0)] := op13
 refine ob_i (op5.fa 0) ?_
 refine ob_i (op5.ld 0 rfl) ?_
 refine ob_i (op5.fa 1) ?_
 refine ob_i (op5.ld 1 rfl) ?_
 refine C.impl_madeField (g := nxG rnd b s r c l) (by omega) (by omega) (by omega) (by omega) (fun H21c i21 k21 Z leZ hi21 hk21 hZ => ?_) (fun u17 H18 ou17 nn19 le20 => ?_)
 ·refine ⟨by kernel_rfl, ?_⟩
  replace op1 := op1.le leZ
  replace op5 := op5.le leZ
  replace op9 := op9.le leZ
  replace hvb := hvb.le leZ
  replace hvs := hvs.le leZ
  replace hvc := hvc.le leZ
  replace lE := lE.trans leZ
  have lZ := Le.refl H21c
  refine C.impl_Life_step_1 op1 op5 op9 hvb hvs hvc (by first | omega | assumption) (by first | omega | assumption) (by first | omega | assumption) (by first | omega | assumption) (by first | omega | assumption) (by first | omega | assumption) (by first | omega | assumption) (fun   H22    le23 => ?_)
  replace lE := lE.trans le23
  replace lZ := lZ.trans le23
  exact keq (K := Z) (by rw [show ((nxG rnd b s r c l (i21 : Int) (k21 : Int)) : Int) = (nxG rnd b s r c l) (i21 : Int) (k21 : Int) from rfl]) (hZ _ lZ)
 have ap13Xu17 : Apart p13 u17 := op13.apart nn19
 have nu17 : Nw H u17 := nn19.le lE
 replace op13 := op13.le le20
 replace hvb := hvb.le le20
 replace hvs := hvs.le le20
 replace hvc := hvc.le le20
 replace lE := lE.trans le20
 refine op13.stn (ws := [(.int .i64 (r)), (.int .i64 (c)), u17]) rfl rfl (oc1 rfl (oc1 rfl (oc1 ou17.one oc0))) (fun H24 op13 off25 => ?_)
 replace ou17 := ou17.off off25 ap13Xu17.symm
 replace hvb := hvb0.le (off25.le lE np13)
 replace hvs := hvs0.le (off25.le lE np13)
 replace hvc := hvc0.le (off25.le lE np13)
 replace lE := off25.le lE np13
 replace op13 : Cel H24 p13 [(.int .i64 (r)), (.int .i64 (c)), u17] := op13
 refine ob_i (op13.ldn rfl) ?_
 skip
 exact hk  u17 _ (Own.cast (show mkL (c) (nxG rnd b s r c l) ((r : Int).toNat * (c : Int).toNat) = nxL rnd b s r c l by first | rfl | simp) ou17) nu17  lE
theorem C.spec_l04Next {w p vb vs vc : Value} {r c : Int} {rnd : Bool} {b : List Int} {s : List Int} {l : List Int}  {H : Hp} {K : Value → Hp → Prop} (hw0 : Cel H w [vb, vs]) (hp0 : Cel H p [(.int .i64 (r)), (.int .i64 (c)), vc]) (hvb0 : Sl eI H vb b) (hvs0 : Sl eI H vs s) (hvc0 : Sl eI H vc l) (hf : fieldN 1 r c l) (kb : b.length ≤ 9223372036854775807) (ks : s.length ≤ 9223372036854775807)
    (hk : ∀ u1 H', Own eI H' u1 (nxL rnd b s r c l) → Nw H u1 → Le H H' → K (.agg #[(.int .i64 (r)), (.int .i64 (c)), u1]) H') : HT prg I.spec_l04Next [w, p, (.bool (rnd))].toArray H K := by
 have lE := Le.refl H
 have hw := hw0
 have hp := hp0
 have hvb := hvb0
 have hvs := hvs0
 have hvc := hvc0
 refine R.spec_l04Next ?_
 unfold F.spec_l04Next
 have hs := hf.1
 have hl := hf.2.1
 have q1 := hs.1
 have q2 := hs.2
 have qm := sidesF_mul hs
 refine nw_i (fun p1 H2 op1 nn3 le4 => ?_)
 have np1 : Nw H p1 := nn3.le lE
 replace hw := hw.le le4
 replace hp := hp.le le4
 replace hvb := hvb.le le4
 replace hvs := hvs.le le4
 replace hvc := hvc.le le4
 replace lE := lE.trans le4
 replace op1 : Cel H2 p1 [(.int .i64 (0)), (.int .i64 (0)), (.slice none 0 0)] := op1
 refine ob_i (hp.nilC) ?_
 refine ob_i (hp.fa 0) ?_
 refine ob_i (hp.ld 0 rfl) ?_
 refine ob_i (hp.nilC) ?_
 refine ob_i (hp.fa 1) ?_
 refine ob_i (hp.ld 1 rfl) ?_
 refine C.spec_l04New (by first | omega | assumption) (by first | omega | assumption) (by first | omega | assumption) (by first | omega | assumption) (fun  u H5 ou nn7  le6 => ?_)
 have ap1Xu : Apart p1 u := op1.apart nn7
 have nu : Nw H u := nn7.le lE
 replace op1 := op1.le le6
 replace hw := hw.le le6
 replace hp := hp.le le6
 replace hvb := hvb.le le6
 replace hvs := hvs.le le6
 replace hvc := hvc.le le6
 replace lE := lE.trans le6
 refine ⟨le6, ?_⟩
 refine nw_i (fun p8 H9 op8 nn10 le11 => ?_)
 have ap1Xp8 : Apart p1 p8 := op1.apart nn10
 have auXp8 : Apart u p8 := ou.apart nn10
 have np8 : Nw H p8 := nn10.le lE
 replace op1 := op1.le le11
 replace ou := ou.le le11
 replace hw := hw.le le11
 replace hp := hp.le le11
 replace hvb := hvb.le le11
 replace hvs := hvs.le le11
 replace hvc := hvc.le le11
 replace lE := lE.trans le11
 replace op8 : Cel H9 p8 [(.int .i64 (0)), (.int .i64 (0)), (.slice none 0 0)] := op8
 refine op8.stn (ws := [(.int .i64 (r)), (.int .i64 (c)), u]) rfl rfl (oc1 rfl (oc1 rfl (oc1 ou.one oc0))) (fun H12 op8 off13 => ?_)
 replace op1 := op1.off off13 ap1Xp8
 replace ou := ou.off off13 auXp8
 replace hw := hw0.le (off13.le lE np8)
 replace hp := hp0.le (off13.le lE np8)
 replace hvb := hvb0.le (off13.le lE np8)
 replace hvs := hvs0.le (off13.le lE np8)
 replace hvc := hvc0.le (off13.le lE np8)
 replace lE := off13.le lE np8
 replace op8 : Cel H12 p8 [(.int .i64 (r)), (.int .i64 (c)), u] := op8
 refine jn_i (fun σ' H' => σ' 6 = p1 ∧ σ' 7 = p8 ∧ Cel H' p1 [(.int .i64 (0)), (.int .i64 (0)), (.slice none 0 0)] ∧ Own eI H' u (nxL rnd b s r c l) ∧ Cel H' p8 [(.int .i64 (r)), (.int .i64 (c)), u] ∧ Le H H') (fun σ14 H14 hP => ?_) (fun J14 hJ14 => ?_)
 ·skip
  obtain ⟨g6L14, g7L14, op1, ou, op8, lE⟩ := hP
  have hw := hw0.le lE
  have hp := hp0.le lE
  have hvb := hvb0.le lE
  have hvs := hvs0.le lE
  have hvc := hvc0.le lE
  try simp only [g6L14, g7L14]
  refine ob_i (op8.ldn rfl) ?_
  refine op1.stn (ws := [(.int .i64 (r)), (.int .i64 (c)), u]) rfl rfl (oc1 rfl (oc1 rfl (oc1 ou.one oc0))) (fun H15 op1 off16 => ?_)
  replace ou := ou.off off16 ap1Xu.symm
  replace hw := hw0.le (off16.le lE np1)
  replace hp := hp0.le (off16.le lE np1)
  replace hvb := hvb0.le (off16.le lE np1)
  replace hvs := hvs0.le (off16.le lE np1)
  replace hvc := hvc0.le (off16.le lE np1)
  replace lE := off16.le lE np1
  replace op1 : Cel H15 p1 [(.int .i64 (r)), (.int .i64 (c)), u] := op1
  refine ob_i (op1.ldn rfl) ?_
  skip
  exact hk  u _ ou nu  lE
 refine ⟨fun n' σ' H' => ∃ i : Nat, n' = r.toNat - i ∧ i ≤ r.toNat ∧ σ' 0 = w ∧ σ' 1 = p ∧ σ' 2 = (.bool (rnd)) ∧ σ' 6 = p1 ∧ σ' 7 = p8 ∧ σ' 8 = (.int .i64 ((i : Int))) ∧ Cel H' p1 [(.int .i64 (0)), (.int .i64 (0)), (.slice none 0 0)] ∧ Own eI H' u (fillL c (nxG rnd b s r c l) (r.toNat * c.toNat) (i * c.toNat)) ∧ Cel H' p8 [(.int .i64 (r)), (.int .i64 (c)), u] ∧ Le H H',
  ⟨_, 0, rfl, by omega, rfl, rfl, rfl, rfl, rfl, (congrArg (Value.int .i64) (by first | omega | rfl | (simp; done))), op1, (by rw [Nat.zero_mul, fillL_zero]; exact ou), op8, lE⟩, ?_⟩
 rintro n17 σ17 H17 ⟨i, rfl, hiN, g0L17, g1L17, g2L17, g6L17, g7L17, g8L17, op1, ou, op8, lE⟩
 have hw := hw0.le lE
 have hp := hp0.le lE
 have hvb := hvb0.le lE
 have hvs := hvs0.le lE
 have hvc := hvc0.le lE
 try simp only [g1L17, g8L17]
 refine ob_i (hp.nilC) ?_
 refine ob_i (hp.fa 0) ?_
 refine ob_i (hp.ld 0 rfl) ?_
 refine ob_i (vInt_lss _ _ _) ?_
 refine cnd_d (fun hg18 => ?_) (fun hg18 => ?_)
 ·skip
  have ti := hg18
  refine jn_i (fun σ' H' => σ' 0 = w ∧ σ' 1 = p ∧ σ' 2 = (.bool (rnd)) ∧ σ' 6 = p1 ∧ σ' 7 = p8 ∧ σ' 8 = (.int .i64 ((i : Int))) ∧ Cel H' p1 [(.int .i64 (0)), (.int .i64 (0)), (.slice none 0 0)] ∧ Own eI H' u (fillL c (nxG rnd b s r c l) (r.toNat * c.toNat) ((i + 1) * c.toNat)) ∧ Cel H' p8 [(.int .i64 (r)), (.int .i64 (c)), u] ∧ Le H H') (fun σ19 H19 hP => ?_) (fun J19 hJ19 => ?_)
  ·skip
   obtain ⟨g0L19, g1L19, g2L19, g6L19, g7L19, g8L19, op1, ou, op8, lE⟩ := hP
   try simp only [g8L19]
   refine ob_i (vInt_add (by omega) (by omega)) ?_
   exact nxt (r.toNat - (i + 1)) (by omega) ⟨i + 1, rfl, by omega, g0L19, g1L19, g2L19, g6L19, g7L19, (congrArg (Value.int .i64) (by first | omega | rfl | (simp; done))), op1, ou, op8, lE⟩
  refine ⟨fun n' σ' H' => ∃ k : Nat, n' = c.toNat - k ∧ k ≤ c.toNat ∧ σ' 0 = w ∧ σ' 1 = p ∧ σ' 2 = (.bool (rnd)) ∧ σ' 6 = p1 ∧ σ' 7 = p8 ∧ σ' 8 = (.int .i64 ((i : Int))) ∧ σ' 9 = (.int .i64 ((k : Int))) ∧ Cel H' p1 [(.int .i64 (0)), (.int .i64 (0)), (.slice none 0 0)] ∧ Own eI H' u (fillL c (nxG rnd b s r c l) (r.toNat * c.toNat) (i * c.toNat + k)) ∧ Cel H' p8 [(.int .i64 (r)), (.int .i64 (c)), u] ∧ Le H H',
   ⟨_, 0, rfl, by omega, g0L17, g1L17, g2L17, g6L17, g7L17, g8L17, (congrArg (Value.int .i64) (by first | omega | rfl | (simp; done))), op1, ou, op8, lE⟩, ?_⟩
  rintro n20 σ20 H20 ⟨k, rfl, hkN, g0L20, g1L20, g2L20, g6L20, g7L20, g8L20, g9L20, op1, ou, op8, lE⟩
  have hw := hw0.le lE
  have hp := hp0.le lE
  have hvb := hvb0.le lE
  have hvs := hvs0.le lE
  have hvc := hvc0.le lE
  try simp only [g0L20, g1L20, g2L20, g7L20, g8L20, g9L20]
  refine ob_i (hp.nilC) ?_
  refine ob_i (hp.fa 1) ?_
  refine ob_i (hp.ld 1 rfl) ?_
  refine ob_i (vInt_lss _ _ _) ?_
  refine cnd_d (fun hg21 => ?_) (fun hg21 => ?_)
  ·skip
   have tk := hg21
   have x1 := ix_lt (a := (i : Int)) (b := (k : Int)) (r := r) (c := c) (by omega) (by omega) (by omega) (by omega)
   have x3 := fillL_len (c := c) (g := nxG rnd b s r c l) (rr := r) (cc := c) (t := i * c.toNat + k) (by omega) (by omega)
   have x4 := fieldN_at hf (i := (i : Int) * c + (k : Int)) (by omega) (by omega)
   refine C.spec_l04Around hp hvc (by first | omega | assumption) (by first | omega | assumption) (by first | omega | assumption) (by first | omega | assumption) (by first | omega | assumption) (fun   H22    le23 => ?_)
   replace op1 := op1.le le23
   replace ou := ou.le le23
   replace op8 := op8.le le23
   replace hw := hw.le le23
   replace hp := hp.le le23
   replace hvb := hvb.le le23
   replace hvs := hvs.le le23
   replace hvc := hvc.le le23
   replace lE := lE.trans le23
   refine ob_i (hp.nilC) ?_
   refine ob_i (hp.fa 1) ?_
   refine ob_i (hp.ld 1 rfl) ?_
   refine ob_i (vInt_mul (by omega) (by omega)) ?_
   refine ob_i (vInt_add (by omega) (by omega)) ?_
   refine ob_i (hp.nilC) ?_
   refine ob_i (hp.fa 2) ?_
   refine ob_i (hp.ld 2 rfl) ?_
   refine ob_i (hvc.ix (by omega) (by omega)) ?_
   refine ob_i (hvc.ld 0 (by omega) (by omega)) ?_
   refine ob_i (vInt_eql _ _ _) ?_
   by_cases hc24 : (at_ 0 (l) (((i : Int) * c) + (k : Int))) = 0
   ·skip
    refine gop_e (decide_eq_true hc24) ?_
    refine gop_rt ?_
    refine gop_e (decide_eq_true hc24) ?_
    refine gop_rt ?_
    refine ob_i (hw.nilC) ?_
    refine gop_e (decide_eq_true hc24) ?_
    refine gop_rt ?_
    refine ob_i (hw.fa 0) ?_
    refine gop_e (decide_eq_true hc24) ?_
    refine gop_rt ?_
    refine ob_i (hw.ld 0 rfl) ?_
    refine gop_e (decide_eq_true hc24) ?_
    refine gop_rt ?_
    refine gop_e (decide_eq_true hc24) ?_
    refine gop_rt ?_
    refine C.spec_l04Has hvb (by first | omega | assumption) (fun   H25    le26 => ?_)
    replace op1 := op1.le le26
    replace ou := ou.le le26
    replace op8 := op8.le le26
    replace hw := hw.le le26
    replace hp := hp.le le26
    replace hvb := hvb.le le26
    replace hvs := hvs.le le26
    replace hvc := hvc.le le26
    replace lE := lE.trans le26
    refine ob_i (vPick_et (decide_eq_true hc24) _ _) ?_
    by_cases hc27 : (arF rnd r c l (i : Int) (k : Int)) ∈ b
    ·skip
     refine gop_e (decide_eq_true hc27) ?_
     refine gop_st ?_
     refine gop_e (decide_eq_true hc27) ?_
     refine gop_st ?_
     refine gop_e (decide_eq_true hc27) ?_
     refine gop_st ?_
     refine gop_e (decide_eq_true hc27) ?_
     refine gop_st ?_
     refine gop_e (decide_eq_true hc27) ?_
     refine gop_st ?_
     refine gop_e (decide_eq_true hc27) ?_
     refine gop_st ?_
     refine gop_e (decide_eq_true hc27) ?_
     refine gop_st ?_
     refine gop_e (decide_eq_true hc27) ?_
     refine gop_st ?_
     refine gop_e (decide_eq_true hc27) ?_
     refine gop_st ?_
     refine gop_u ?_
     refine gop_u ?_
     refine gop_u ?_
     refine gop_u ?_
     refine gop_u ?_
     refine gop_u ?_
     refine gop_e (decide_eq_true hc27) ?_
     refine gop_st ?_
     refine ob_i (vPick_et (decide_eq_true hc27) _ _) ?_
     refine cnd_t1 ?_
     refine ob_i (op8.fa 2) ?_
     refine ob_i (op8.ld 2 rfl) ?_
     refine ob_i (ou.sl.ix (by omega) (by omega)) ?_
     refine ou.st (x := 1) (by omega) (by omega) rfl rfl (fun H28 ou off29 => ?_)
     replace op1 := op1.off off29 ap1Xu
     replace op8 := op8.off off29 auXp8.symm
     replace hw := hw0.le (off29.le lE nu)
     replace hp := hp0.le (off29.le lE nu)
     replace hvb := hvb0.le (off29.le lE nu)
     replace hvs := hvs0.le (off29.le lE nu)
     replace hvc := hvc0.le (off29.le lE nu)
     replace lE := off29.le lE nu
     refine ob_i (vInt_add (by omega) (by omega)) ?_
     have eG : nxG rnd b s r c l (i : Int) (k : Int) = 1 := by first | exact nx_b1 (by assumption) (by assumption) | exact nx_s1 (by assumption) (by assumption) | (exfalso; omega)
     replace ou : Own eI H28 u (fillL c (nxG rnd b s r c l) (r.toNat * c.toNat) (i * c.toNat + (k + 1))) := by rw [← Nat.add_assoc, ← fillL_set (c := c) (g := nxG rnd b s r c l) (i := (i : Int)) (k := (k : Int)) (by omega) (by omega) (by omega) (cast_ix (by omega)) (by omega), eG]; exact ou
     exact nxt (c.toNat - (k + 1)) (by omega) ⟨k + 1, rfl, by omega, g0L20, g1L20, g2L20, g6L20, g7L20, g8L20, (congrArg (Value.int .i64) (by first | omega | rfl | (simp; done))), op1, ou, op8, lE⟩
    ·skip
     refine gop_e (decide_eq_false hc27) ?_
     refine gop_rf ?_
     refine gop_e (decide_eq_false hc27) ?_
     refine gop_rf ?_
     refine ob_i (hp.nilC) ?_
     refine gop_e (decide_eq_false hc27) ?_
     refine gop_rf ?_
     refine ob_i (hp.fa 2) ?_
     refine gop_e (decide_eq_false hc27) ?_
     refine gop_rf ?_
     refine ob_i (hp.ld 2 rfl) ?_
     refine gop_e (decide_eq_false hc27) ?_
     refine gop_rf ?_
     refine gop_e (decide_eq_false hc27) ?_
     refine gop_rf ?_
     refine ob_i (hvc.ix (by omega) (by omega)) ?_
     refine gop_e (decide_eq_false hc27) ?_
     refine gop_rf ?_
     refine ob_i (hvc.ld 0 (by omega) (by omega)) ?_
     refine gop_e (decide_eq_false hc27) ?_
     refine gop_rf ?_
     refine ob_i (vInt_eql _ _ _) ?_
     refine gop_e (decide_eq_false hc27) ?_
     refine gop_rf ?_
     by_cases hc30 : (at_ 0 (l) (((i : Int) * c) + (k : Int))) = 1
     ·skip
      refine gop_e (decide_eq_true hc30) ?_
      refine gop_rt ?_
      refine gop_e (decide_eq_true hc30) ?_
      refine gop_rt ?_
      refine ob_i (hw.nilC) ?_
      refine gop_e (decide_eq_true hc30) ?_
      refine gop_rt ?_
      refine ob_i (hw.fa 1) ?_
      refine gop_e (decide_eq_true hc30) ?_
      refine gop_rt ?_
      refine ob_i (hw.ld 1 rfl) ?_
      refine gop_e (decide_eq_true hc30) ?_
      refine gop_rt ?_
      refine gop_e (decide_eq_true hc30) ?_
      refine gop_rt ?_
      refine C.spec_l04Has hvs (by first | omega | assumption) (fun   H31    le32 => ?_)
      replace op1 := op1.le le32
      replace ou := ou.le le32
      replace op8 := op8.le le32
      replace hw := hw.le le32
      replace hp := hp.le le32
      replace hvb := hvb.le le32
      replace hvs := hvs.le le32
      replace hvc := hvc.le le32
      replace lE := lE.trans le32
      refine gop_e (decide_eq_false hc27) ?_
      refine gop_rf ?_
      refine ob_i (vPick_et (decide_eq_true hc30) _ _) ?_
      refine ob_i (vPick_ef (decide_eq_false hc27) _ _) ?_
      refine cnd_d (fun hg33 => ?_) (fun hg33 => ?_)
      ·skip
       refine ob_i (op8.fa 2) ?_
       refine ob_i (op8.ld 2 rfl) ?_
       refine ob_i (ou.sl.ix (by omega) (by omega)) ?_
       refine ou.st (x := 1) (by omega) (by omega) rfl rfl (fun H34 ou off35 => ?_)
       replace op1 := op1.off off35 ap1Xu
       replace op8 := op8.off off35 auXp8.symm
       replace hw := hw0.le (off35.le lE nu)
       replace hp := hp0.le (off35.le lE nu)
       replace hvb := hvb0.le (off35.le lE nu)
       replace hvs := hvs0.le (off35.le lE nu)
       replace hvc := hvc0.le (off35.le lE nu)
       replace lE := off35.le lE nu
       refine ob_i (vInt_add (by omega) (by omega)) ?_
       have eG : nxG rnd b s r c l (i : Int) (k : Int) = 1 := by first | exact nx_b1 (by assumption) (by assumption) | exact nx_s1 (by assumption) (by assumption) | (exfalso; omega)
       replace ou : Own eI H34 u (fillL c (nxG rnd b s r c l) (r.toNat * c.toNat) (i * c.toNat + (k + 1))) := by rw [← Nat.add_assoc, ← fillL_set (c := c) (g := nxG rnd b s r c l) (i := (i : Int)) (k := (k : Int)) (by omega) (by omega) (by omega) (cast_ix (by omega)) (by omega), eG]; exact ou
       exact nxt (c.toNat - (k + 1)) (by omega) ⟨k + 1, rfl, by omega, g0L20, g1L20, g2L20, g6L20, g7L20, g8L20, (congrArg (Value.int .i64) (by first | omega | rfl | (simp; done))), op1, ou, op8, lE⟩
      ·skip
       refine ob_i (vInt_add (by omega) (by omega)) ?_
       have eG : nxG rnd b s r c l (i : Int) (k : Int) = 0 := by first | exact nx_b0 (by assumption) (by assumption) | exact nx_s0 (by assumption) (by assumption) | (exfalso; omega)
       replace ou : Own eI H31 u (fillL c (nxG rnd b s r c l) (r.toNat * c.toNat) (i * c.toNat + (k + 1))) := by rw [← Nat.add_assoc, ← fillL_skip (c := c) (g := nxG rnd b s r c l) (i := (i : Int)) (k := (k : Int)) (by omega) (by omega) (by omega) (cast_ix (by omega)) eG]; exact ou
       exact nxt (c.toNat - (k + 1)) (by omega) ⟨k + 1, rfl, by omega, g0L20, g1L20, g2L20, g6L20, g7L20, g8L20, (congrArg (Value.int .i64) (by first | omega | rfl | (simp; done))), op1, ou, op8, lE⟩
     ·skip
      refine gop_e (decide_eq_false hc30) ?_
      refine gop_sf ?_
      refine gop_e (decide_eq_false hc30) ?_
      refine gop_sf ?_
      refine gop_e (decide_eq_false hc30) ?_
      refine gop_sf ?_
      refine gop_e (decide_eq_false hc30) ?_
      refine gop_sf ?_
      refine gop_e (decide_eq_false hc30) ?_
      refine gop_sf ?_
      refine gop_e (decide_eq_false hc30) ?_
      refine gop_sf ?_
      refine gop_e (decide_eq_false hc27) ?_
      refine gop_rf ?_
      refine ob_i (vPick_ef (decide_eq_false hc30) _ _) ?_
      refine ob_i (vPick_ef (decide_eq_false hc27) _ _) ?_
      refine cnd_f1 ?_
      refine ob_i (vInt_add (by omega) (by omega)) ?_
      have eG : nxG rnd b s r c l (i : Int) (k : Int) = 0 := by first | exact nx_b0 (by assumption) (by assumption) | exact nx_s0 (by assumption) (by assumption) | (exfalso; omega)
      replace ou : Own eI H25 u (fillL c (nxG rnd b s r c l) (r.toNat * c.toNat) (i * c.toNat + (k + 1))) := by rw [← Nat.add_assoc, ← fillL_skip (c := c) (g := nxG rnd b s r c l) (i := (i : Int)) (k := (k : Int)) (by omega) (by omega) (by omega) (cast_ix (by omega)) eG]; exact ou
      exact nxt (c.toNat - (k + 1)) (by omega) ⟨k + 1, rfl, by omega, g0L20, g1L20, g2L20, g6L20, g7L20, g8L20, (congrArg (Value.int .i64) (by first | omega | rfl | (simp; done))), op1, ou, op8, lE⟩
   ·skip
    refine gop_e (decide_eq_false hc24) ?_
    refine gop_sf ?_
    refine gop_e (decide_eq_false hc24) ?_
    refine gop_sf ?_
    refine gop_e (decide_eq_false hc24) ?_
    refine gop_sf ?_
    refine gop_e (decide_eq_false hc24) ?_
    refine gop_sf ?_
    refine gop_e (decide_eq_false hc24) ?_
    refine gop_sf ?_
    refine gop_e (decide_eq_false hc24) ?_
    refine gop_sf ?_
    refine ob_i (vPick_ef (decide_eq_false hc24) _ _) ?_
    refine gop_rf ?_
    refine gop_rf ?_
    refine ob_i (hp.nilC) ?_
    refine gop_rf ?_
    refine ob_i (hp.fa 2) ?_
    refine gop_rf ?_
    refine ob_i (hp.ld 2 rfl) ?_
    refine gop_rf ?_
    refine gop_rf ?_
    refine ob_i (hvc.ix (by omega) (by omega)) ?_
    refine gop_rf ?_
    refine ob_i (hvc.ld 0 (by omega) (by omega)) ?_
    refine gop_rf ?_
    refine ob_i (vInt_eql _ _ _) ?_
    refine gop_rf ?_
    by_cases hc36 : (at_ 0 (l) (((i : Int) * c) + (k : Int))) = 1
    ·skip
     refine gop_e (decide_eq_true hc36) ?_
     refine gop_rt ?_
     refine gop_e (decide_eq_true hc36) ?_
     refine gop_rt ?_
     refine ob_i (hw.nilC) ?_
     refine gop_e (decide_eq_true hc36) ?_
     refine gop_rt ?_
     refine ob_i (hw.fa 1) ?_
     refine gop_e (decide_eq_true hc36) ?_
     refine gop_rt ?_
     refine ob_i (hw.ld 1 rfl) ?_
     refine gop_e (decide_eq_true hc36) ?_
     refine gop_rt ?_
     refine gop_e (decide_eq_true hc36) ?_
     refine gop_rt ?_
     refine C.spec_l04Has hvs (by first | omega | assumption) (fun   H37    le38 => ?_)
     replace op1 := op1.le le38
     replace ou := ou.le le38
     replace op8 := op8.le le38
     replace hw := hw.le le38
     replace hp := hp.le le38
     replace hvb := hvb.le le38
     replace hvs := hvs.le le38
     replace hvc := hvc.le le38
     replace lE := lE.trans le38
     refine gop_rf ?_
     refine ob_i (vPick_et (decide_eq_true hc36) _ _) ?_
     refine ob_i (vPick_f _ _) ?_
     refine cnd_d (fun hg39 => ?_) (fun hg39 => ?_)
     ·skip
      refine ob_i (op8.fa 2) ?_
      refine ob_i (op8.ld 2 rfl) ?_
      refine ob_i (ou.sl.ix (by omega) (by omega)) ?_
      refine ou.st (x := 1) (by omega) (by omega) rfl rfl (fun H40 ou off41 => ?_)
      replace op1 := op1.off off41 ap1Xu
      replace op8 := op8.off off41 auXp8.symm
      replace hw := hw0.le (off41.le lE nu)
      replace hp := hp0.le (off41.le lE nu)
      replace hvb := hvb0.le (off41.le lE nu)
      replace hvs := hvs0.le (off41.le lE nu)
      replace hvc := hvc0.le (off41.le lE nu)
      replace lE := off41.le lE nu
      refine ob_i (vInt_add (by omega) (by omega)) ?_
      have eG : nxG rnd b s r c l (i : Int) (k : Int) = 1 := by first | exact nx_b1 (by assumption) (by assumption) | exact nx_s1 (by assumption) (by assumption) | (exfalso; omega)
      replace ou : Own eI H40 u (fillL c (nxG rnd b s r c l) (r.toNat * c.toNat) (i * c.toNat + (k + 1))) := by rw [← Nat.add_assoc, ← fillL_set (c := c) (g := nxG rnd b s r c l) (i := (i : Int)) (k := (k : Int)) (by omega) (by omega) (by omega) (cast_ix (by omega)) (by omega), eG]; exact ou
      exact nxt (c.toNat - (k + 1)) (by omega) ⟨k + 1, rfl, by omega, g0L20, g1L20, g2L20, g6L20, g7L20, g8L20, (congrArg (Value.int .i64) (by first | omega | rfl | (simp; done))), op1, ou, op8, lE⟩
     ·skip
      refine ob_i (vInt_add (by omega) (by omega)) ?_
      have eG : nxG rnd b s r c l (i : Int) (k : Int) = 0 := by first | exact nx_b0 (by assumption) (by assumption) | exact nx_s0 (by assumption) (by assumption) | (exfalso; omega)
      replace ou : Own eI H37 u (fillL c (nxG rnd b s r c l) (r.toNat * c.toNat) (i * c.toNat + (k + 1))) := by rw [← Nat.add_assoc, ← fillL_skip (c := c) (g := nxG rnd b s r c l) (i := (i : Int)) (k := (k : Int)) (by omega) (by omega) (by omega) (cast_ix (by omega)) eG]; exact ou
      exact nxt (c.toNat - (k + 1)) (by omega) ⟨k + 1, rfl, by omega, g0L20, g1L20, g2L20, g6L20, g7L20, g8L20, (congrArg (Value.int .i64) (by first | omega | rfl | (simp; done))), op1, ou, op8, lE⟩
    ·skip
     refine gop_e (decide_eq_false hc36) ?_
     refine gop_sf ?_
     refine gop_e (decide_eq_false hc36) ?_
     refine gop_sf ?_
     refine gop_e (decide_eq_false hc36) ?_
     refine gop_sf ?_
     refine gop_e (decide_eq_false hc36) ?_
     refine gop_sf ?_
     refine gop_e (decide_eq_false hc36) ?_
     refine gop_sf ?_
     refine gop_e (decide_eq_false hc36) ?_
     refine gop_sf ?_
     refine gop_rf ?_
     refine ob_i (vPick_ef (decide_eq_false hc36) _ _) ?_
     refine ob_i (vPick_f _ _) ?_
     refine cnd_f1 ?_
     refine ob_i (vInt_add (by omega) (by omega)) ?_
     have eG : nxG rnd b s r c l (i : Int) (k : Int) = 0 := by first | exact nx_b0 (by assumption) (by assumption) | exact nx_s0 (by assumption) (by assumption) | (exfalso; omega)
     replace ou : Own eI H22 u (fillL c (nxG rnd b s r c l) (r.toNat * c.toNat) (i * c.toNat + (k + 1))) := by rw [← Nat.add_assoc, ← fillL_skip (c := c) (g := nxG rnd b s r c l) (i := (i : Int)) (k := (k : Int)) (by omega) (by omega) (by omega) (cast_ix (by omega)) eG]; exact ou
     exact nxt (c.toNat - (k + 1)) (by omega) ⟨k + 1, rfl, by omega, g0L20, g1L20, g2L20, g6L20, g7L20, g8L20, (congrArg (Value.int .i64) (by first | omega | rfl | (simp; done))), op1, ou, op8, lE⟩
  ·skip
   have tk := hg21
   rw [show i * c.toNat + k = (i + 1) * c.toNat by rw [Nat.add_mul, Nat.one_mul]; omega] at ou
   exact hJ19 _ _ ⟨g0L20, g1L20, g2L20, g6L20, g7L20, g8L20, op1, ou, op8, lE⟩
 ·skip
  have ti := hg18
  rw [fillL_end (by rw [show i = r.toNat by omega]; exact Nat.le_refl _)] at ou
  exact hJ14 _ _ ⟨g6L17, g7L17, op1, ou, op8, lE⟩
theorem C.spec_l04Run {w p vb vs vc : Value} {st r c : Int} {rnd : Bool} {b : List Int} {s : List Int} {l : List Int}  {H : Hp} {K : Value → Hp → Prop} (hw0 : Cel H w [vb, vs]) (hp0 : Cel H p [(.int .i64 (r)), (.int .i64 (c)), vc]) (hvb0 : Sl eI H vb b) (hvs0 : Sl eI H vs s) (hvc0 : Sl eI H vc l) (hf : fieldN 1 r c l) (kb : b.length ≤ 9223372036854775807) (ks : s.length ≤ 9223372036854775807) (st0 : 0 ≤ st) (st1 : st ≤ 1000)
    (hk : ∀ u1 H', Own eI H' u1 (rnL rnd b s r c l st.toNat) → Nw H u1 → Le H H' → K (.agg #[(.int .i64 (r)), (.int .i64 (c)), u1]) H') : HT prg I.spec_l04Run [w, p, (.bool (rnd)), (.int .i64 (st))].toArray H K := by
 have lE := Le.refl H
 have hw := hw0
 have hp := hp0
 have hvb := hvb0
 have hvs := hvs0
 have hvc := hvc0
 refine R.spec_l04Run ?_
 unfold F.spec_l04Run
 have l1 := fieldN_len hf
 refine nw_i (fun p1 H2 op1 nn3 le4 => ?_)
 have np1 : Nw H p1 := nn3.le lE
 replace hw := hw.le le4
 replace hp := hp.le le4
 replace hvb := hvb.le le4
 replace hvs := hvs.le le4
 replace hvc := hvc.le le4
 replace lE := lE.trans le4
 replace op1 : Cel H2 p1 [(.int .i64 (0)), (.int .i64 (0)), (.slice none 0 0)] := op1
 refine C.spec_l04Own hp hvc (by first | omega | assumption) (fun  u7 H5 ou7 nn8  le6 => ?_)
 have ap1Xu7 : Apart p1 u7 := op1.apart nn8
 have nu7 : Nw H u7 := nn8.le lE
 replace op1 := op1.le le6
 replace hw := hw.le le6
 replace hp := hp.le le6
 replace hvb := hvb.le le6
 replace hvs := hvs.le le6
 replace hvc := hvc.le le6
 replace lE := lE.trans le6
 refine nw_i (fun q H9 oq nn10 le11 => ?_)
 have ap1Xq : Apart p1 q := op1.apart nn10
 have au7Xq : Apart u7 q := ou7.apart nn10
 have nq : Nw H q := nn10.le lE
 replace op1 := op1.le le11
 replace ou7 := ou7.le le11
 replace hw := hw.le le11
 replace hp := hp.le le11
 replace hvb := hvb.le le11
 replace hvs := hvs.le le11
 replace hvc := hvc.le le11
 replace lE := lE.trans le11
 replace oq : Cel H9 q [(.int .i64 (0)), (.int .i64 (0)), (.slice none 0 0)] := oq
 refine oq.stn (ws := [(.int .i64 (r)), (.int .i64 (c)), u7]) rfl rfl (oc1 rfl (oc1 rfl (oc1 ou7.one oc0))) (fun H12 oq off13 => ?_)
 replace op1 := op1.off off13 ap1Xq
 replace ou7 := ou7.off off13 au7Xq
 replace hw := hw0.le (off13.le lE nq)
 replace hp := hp0.le (off13.le lE nq)
 replace hvb := hvb0.le (off13.le lE nq)
 replace hvs := hvs0.le (off13.le lE nq)
 replace hvc := hvc0.le (off13.le lE nq)
 replace lE := off13.le lE nq
 replace oq : Cel H12 q [(.int .i64 (r)), (.int .i64 (c)), u7] := oq
 refine jn_i (fun σ' H' => ∃ u, σ' 8 = p1 ∧ σ' 9 = q ∧ Cel H' p1 [(.int .i64 (0)), (.int .i64 (0)), (.slice none 0 0)] ∧ Cel H' q [(.int .i64 (r)), (.int .i64 (c)), u] ∧ Own eI H' u (rnL rnd b s r c l st.toNat) ∧ Nw H u ∧ Apart p1 u ∧ Apart q u ∧ Le H H') (fun σ14 H14 hP => ?_) (fun J14 hJ14 => ?_)
 ·skip
  obtain ⟨u, g8L14, g9L14, op1, oq, ou, nu, ap1Xu, aqXu, lE⟩ := hP
  have hw := hw0.le lE
  have hp := hp0.le lE
  have hvb := hvb0.le lE
  have hvs := hvs0.le lE
  have hvc := hvc0.le lE
  try simp only [g8L14, g9L14]
  refine ob_i (oq.ldn rfl) ?_
  refine op1.stn (ws := [(.int .i64 (r)), (.int .i64 (c)), u]) rfl rfl (oc1 rfl (oc1 rfl (oc1 ou.one oc0))) (fun H15 op1 off16 => ?_)
  replace ou := ou.off off16 ap1Xu.symm
  replace hw := hw0.le (off16.le lE np1)
  replace hp := hp0.le (off16.le lE np1)
  replace hvb := hvb0.le (off16.le lE np1)
  replace hvs := hvs0.le (off16.le lE np1)
  replace hvc := hvc0.le (off16.le lE np1)
  replace lE := off16.le lE np1
  replace op1 : Cel H15 p1 [(.int .i64 (r)), (.int .i64 (c)), u] := op1
  refine ob_i (op1.ldn rfl) ?_
  skip
  exact hk  u _ ou nu  lE
 refine ⟨fun n' σ' H' => ∃ i : Nat, n' = st.toNat - i ∧ i ≤ st.toNat ∧ ∃ u, σ' 0 = w ∧ σ' 2 = (.bool (rnd)) ∧ σ' 3 = (.int .i64 (st - (i : Int))) ∧ σ' 8 = p1 ∧ σ' 9 = q ∧ Cel H' p1 [(.int .i64 (0)), (.int .i64 (0)), (.slice none 0 0)] ∧ Cel H' q [(.int .i64 (r)), (.int .i64 (c)), u] ∧ Own eI H' u (rnL rnd b s r c l i) ∧ Nw H u ∧ Apart p1 u ∧ Apart q u ∧ Le H H',
  ⟨_, 0, rfl, by omega, u7, rfl, rfl, (congrArg (Value.int .i64) (by first | omega | rfl | (simp; done))), rfl, rfl, op1, oq, (Own.cast (by first | rfl | (simp; done)) ou7), nu7, ap1Xu7, au7Xq.symm, lE⟩, ?_⟩
 rintro n17 σ17 H17 ⟨i, rfl, hiN, u, g0L17, g2L17, g3L17, g8L17, g9L17, op1, oq, ou, nu, ap1Xu, aqXu, lE⟩
 have hw := hw0.le lE
 have hp := hp0.le lE
 have hvb := hvb0.le lE
 have hvs := hvs0.le lE
 have hvc := hvc0.le lE
 try simp only [g0L17, g2L17, g3L17, g9L17]
 have hfi : fieldN 1 r c (rnL rnd b s r c l i) := rnL_field hf i
 have hli := fieldN_len hfi
 have hfn : fieldN 1 r c (nxL rnd b s r c (rnL rnd b s r c l i)) := nxL_field hf.1
 have hln := fieldN_len hfn
 refine ob_i (vInt_gtr _ _ _) ?_
 refine cnd_d (fun hg18 => ?_) (fun hg18 => ?_)
 ·skip
  have ti := hg18
  refine C.spec_l04Next hw oq hvb hvs ou.sl (by first | omega | assumption) (by first | omega | assumption) (by first | omega | assumption) (fun  u21 H19 ou21 nn22  le20 => ?_)
  have ap1Xu21 : Apart p1 u21 := op1.apart nn22
  have aqXu21 : Apart q u21 := oq.apart nn22
  have nu21 : Nw H u21 := nn22.le lE
  replace op1 := op1.le le20
  replace oq := oq.le le20
  replace hw := hw.le le20
  replace hp := hp.le le20
  replace hvb := hvb.le le20
  replace hvs := hvs.le le20
  replace hvc := hvc.le le20
  replace lE := lE.trans le20
  refine oq.stn (ws := [(.int .i64 (r)), (.int .i64 (c)), u21]) rfl rfl (oc1 rfl (oc1 rfl (oc1 ou21.one oc0))) (fun H23 oq off24 => ?_)
  replace op1 := op1.off off24 ap1Xq
  replace ou21 := ou21.off off24 aqXu21.symm
  replace hw := hw0.le (off24.le lE nq)
  replace hp := hp0.le (off24.le lE nq)
  replace hvb := hvb0.le (off24.le lE nq)
  replace hvs := hvs0.le (off24.le lE nq)
  replace hvc := hvc0.le (off24.le lE nq)
  replace lE := off24.le lE nq
  replace oq : Cel H23 q [(.int .i64 (r)), (.int .i64 (c)), u21] := oq
  refine ob_i (vInt_sub (by omega) (by omega)) ?_
  exact nxt (st.toNat - (i + 1)) (by omega) ⟨i + 1, rfl, by omega, u21, g0L17, g2L17, (congrArg (Value.int .i64) (by first | omega | rfl | (simp; done))), g8L17, g9L17, op1, oq, ou21, nu21, ap1Xu21, aqXu21, lE⟩
 ·skip
  have ti := hg18
  rw [show i = st.toNat by omega] at ou
  exact hJ14 _ _ ⟨u, g8L17, g9L17, op1, oq, ou, nu, ap1Xu, aqXu, lE⟩
theorem C.impl_Life_run {vb vs vc : Value} {r c st : Int} {rnd : Bool} {b : List Int} {s : List Int} {l : List Int}  {H : Hp} {K : Value → Hp → Prop} (hvb0 : Sl eI H vb b) (hvs0 : Sl eI H vs s) (hvc0 : Sl eI H vc l) (hf : fieldN 1 r c l) (kb : b.length ≤ 9223372036854775807) (ks : s.length ≤ 9223372036854775807) (st0 : 0 ≤ st) (st1 : st ≤ 1000)
    (hk : ∀ u1 H', Own eI H' u1 (rnL rnd b s r c l st.toNat) → Nw H u1 → Le H H' → K (.agg #[(.int .i64 (r)), (.int .i64 (c)), u1]) H') : HT prg I.impl_Life_run [(.agg #[vb, vs]), (.agg #[(.int .i64 (r)), (.int .i64 (c)), vc]), (.bool (rnd)), (.int .i64 (st))].toArray H K := by
 have lE := Le.refl H
 have hvb := hvb0
 have hvs := hvs0
 have hvc := hvc0
 refine R.impl_Life_run ?_
 unfold F.impl_Life_run
 have l1 := fieldN_len hf
 refine nw_i (fun p1 H2 op1 nn3 le4 => ?_)
 replace hvb := hvb.le le4
 replace hvs := hvs.le le4
 replace hvc := hvc.le le4
 replace lE := lE.trans le4
 replace op1 : Cel H2 p1 [vb, vs] := op1
 refine nw_i (fun q H5 oq nn6 le7 => ?_)
 have ap1Xq : Apart p1 q := op1.apart nn6
 have nq : Nw H q := nn6.le lE
 replace op1 := op1.le le7
 replace hvb := hvb.le le7
 replace hvs := hvs.le le7
 replace hvc := hvc.le le7
 replace lE := lE.trans le7
 replace oq : Cel H5 q [(.int .i64 (r)), (.int .i64 (c)), vc] := oq
 refine nw_i (fun p8 H9 op8 nn10 le11 => ?_)
 have aqXp8 : Apart q p8 := oq.apart nn10
 have np8 : Nw H p8 := nn10.le lE
 replace op1 := op1.le le11
 replace oq := oq.le le11
 replace hvb := hvb.le le11
 replace hvs := hvs.le le11
 replace hvc := hvc.le le11
 replace lE := lE.trans le11
 replace op8 : Cel H9 p8 [(.int .i64 (0)), (.int .i64 (0)), (.slice none 0 0)] := op8
 refine ob_i (oq.ldn rfl) ?_
 refine C.impl_copyField hvc (by first | omega | assumption) (fun  u14 H12 ou14 nn15  le13 => ?_)
 have ap1Xu14 : Apart p1 u14 := op1.apart nn15
 have aqXu14 : Apart q u14 := oq.apart nn15
 have ap8Xu14 : Apart p8 u14 := op8.apart nn15
 have nu14 : Nw H u14 := nn15.le lE
 replace op1 := op1.le le13
 replace oq := oq.le le13
 replace op8 := op8.le le13
 replace hvb := hvb.le le13
 replace hvs := hvs.le le13
 replace hvc := hvc.le le13
 replace lE := lE.trans le13
 refine oq.stn (ws := [(.int .i64 (r)), (.int .i64 (c)), u14]) rfl rfl (oc1 rfl (oc1 rfl (oc1 ou14.one oc0))) (fun H16 oq off17 => ?_)
 replace op1 := op1.off off17 ap1Xq
 replace op8 := op8.off off17 aqXp8.symm
 replace ou14 := ou14.off off17 aqXu14.symm
 replace hvb := hvb0.le (off17.le lE nq)
 replace hvs := hvs0.le (off17.le lE nq)
 replace hvc := hvc0.le (off17.le lE nq)
 replace lE := off17.le lE nq
 replace oq : Cel H16 q [(.int .i64 (r)), (.int .i64 (c)), u14] := oq
 refine jn_i (fun σ' H' => ∃ u, σ' 5 = q ∧ σ' 8 = p8 ∧ Cel H' p1 [vb, vs] ∧ Cel H' q [(.int .i64 (r)), (.int .i64 (c)), u] ∧ Cel H' p8 [(.int .i64 (0)), (.int .i64 (0)), (.slice none 0 0)] ∧ Own eI H' u (rnL rnd b s r c l st.toNat) ∧ Nw H u ∧ Apart p1 u ∧ Apart q u ∧ Apart p8 u ∧ Le H H') (fun σ18 H18 hP => ?_) (fun J18 hJ18 => ?_)
 ·skip
  obtain ⟨u, g5L18, g8L18, op1, oq, op8, ou, nu, ap1Xu, aqXu, ap8Xu, lE⟩ := hP
  have hvb := hvb0.le lE
  have hvs := hvs0.le lE
  have hvc := hvc0.le lE
  try simp only [g5L18, g8L18]
  refine ob_i (oq.ldn rfl) ?_
  refine op8.stn (ws := [(.int .i64 (r)), (.int .i64 (c)), u]) rfl rfl (oc1 rfl (oc1 rfl (oc1 ou.one oc0))) (fun H19 op8 off20 => ?_)
  replace ou := ou.off off20 ap8Xu.symm
  replace hvb := hvb0.le (off20.le lE np8)
  replace hvs := hvs0.le (off20.le lE np8)
  replace hvc := hvc0.le (off20.le lE np8)
  replace lE := off20.le lE np8
  replace op8 : Cel H19 p8 [(.int .i64 (r)), (.int .i64 (c)), u] := op8
  refine ob_i (op8.ldn rfl) ?_
  skip
  exact hk  u _ ou nu  lE
 refine ⟨fun n' σ' H' => ∃ i : Nat, n' = st.toNat - i ∧ i ≤ st.toNat ∧ ∃ u, σ' 2 = (.bool (rnd)) ∧ σ' 4 = p1 ∧ σ' 5 = q ∧ σ' 8 = p8 ∧ σ' 11 = (.int .i64 (st)) ∧ σ' 12 = (.int .i64 ((i : Int))) ∧ Cel H' p1 [vb, vs] ∧ Cel H' q [(.int .i64 (r)), (.int .i64 (c)), u] ∧ Cel H' p8 [(.int .i64 (0)), (.int .i64 (0)), (.slice none 0 0)] ∧ Own eI H' u (rnL rnd b s r c l i) ∧ Nw H u ∧ Apart p1 u ∧ Apart q u ∧ Apart p8 u ∧ Le H H',
  ⟨_, 0, rfl, by omega, u14, rfl, rfl, rfl, rfl, rfl, (congrArg (Value.int .i64) (by first | omega | rfl | (simp; done))), op1, oq, op8, (Own.cast (by first | rfl | (simp; done)) ou14), nu14, ap1Xu14, aqXu14, ap8Xu14, lE⟩, ?_⟩
 rintro n21 σ21 H21 ⟨i, rfl, hiN, u, g2L21, g4L21, g5L21, g8L21, g11L21, g12L21, op1, oq, op8, ou, nu, ap1Xu, aqXu, ap8Xu, lE⟩
 have hvb := hvb0.le lE
 have hvs := hvs0.le lE
 have hvc := hvc0.le lE
 try simp only [g2L21, g4L21, g5L21, g11L21, g12L21]
 have hfi : fieldN 1 r c (rnL rnd b s r c l i) := rnL_field hf i
 have hli := fieldN_len hfi
 have hfn : fieldN 1 r c (nxL rnd b s r c (rnL rnd b s r c l i)) := nxL_field hf.1
 have hln := fieldN_len hfn
 refine ob_i (vInt_lss _ _ _) ?_
 refine cnd_d (fun hg22 => ?_) (fun hg22 => ?_)
 ·skip
  have ti := hg22
  refine ob_i (op1.ldn rfl) ?_
  refine ob_i (oq.ldn rfl) ?_
  refine C.impl_Life_step hvb hvs ou.sl (by first | omega | assumption) (by first | omega | assumption) (by first | omega | assumption) (fun  u25 H23 ou25 nn26  le24 => ?_)
  have ap1Xu25 : Apart p1 u25 := op1.apart nn26
  have aqXu25 : Apart q u25 := oq.apart nn26
  have ap8Xu25 : Apart p8 u25 := op8.apart nn26
  have nu25 : Nw H u25 := nn26.le lE
  replace op1 := op1.le le24
  replace oq := oq.le le24
  replace op8 := op8.le le24
  replace hvb := hvb.le le24
  replace hvs := hvs.le le24
  replace hvc := hvc.le le24
  replace lE := lE.trans le24
  refine oq.stn (ws := [(.int .i64 (r)), (.int .i64 (c)), u25]) rfl rfl (oc1 rfl (oc1 rfl (oc1 ou25.one oc0))) (fun H27 oq off28 => ?_)
  replace op1 := op1.off off28 ap1Xq
  replace op8 := op8.off off28 aqXp8.symm
  replace ou25 := ou25.off off28 aqXu25.symm
  replace hvb := hvb0.le (off28.le lE nq)
  replace hvs := hvs0.le (off28.le lE nq)
  replace hvc := hvc0.le (off28.le lE nq)
  replace lE := off28.le lE nq
  replace oq : Cel H27 q [(.int .i64 (r)), (.int .i64 (c)), u25] := oq
  refine ob_i (vInt_add (by omega) (by omega)) ?_
  exact nxt (st.toNat - (i + 1)) (by omega) ⟨i + 1, rfl, by omega, u25, g2L21, g4L21, g5L21, g8L21, g11L21, (congrArg (Value.int .i64) (by first | omega | rfl | (simp; done))), op1, oq, op8, ou25, nu25, ap1Xu25, aqXu25, ap8Xu25, lE⟩
 ·skip
  have ti := hg22
  rw [show i = st.toNat by omega] at ou
  exact hJ18 _ _ ⟨u, g5L21, g8L21, op1, oq, op8, ou, nu, ap1Xu, aqXu, ap8Xu, lE⟩
def runP (b s : List Int) (r c : Int) (l : List Int) (n : Int) : Prop := canP b s r c l ∧ 0 ≤ n ∧ n ≤ 512
instance (b s : List Int) (r c : Int) (l : List Int) (n : Int) : Decidable (runP b s r c l n) := by unfold runP; infer_instance
end Go.Proofs.YtffmfkpobjdmmaaGreatDoor
/- Counts ahead, inner steps. -/
namespace Go.Proofs.YtffmfkpobjdmmaaGreatDoor
open HL
set_option maxRecDepth 100000
end Go.Proofs.YtffmfkpobjdmmaaGreatDoor
/- Fields that are still, and those that lead to one. -/
namespace Go.Proofs.YtffmfkpobjdmmaaGreatDoor
open HL
set_option maxRecDepth 100000
end Go.Proofs.YtffmfkpobjdmmaaGreatDoor
/- Patterns that come again elsewhere: the program's and the reference's. -/
namespace Go.Proofs.YtffmfkpobjdmmaaGreatDoor
open HL
set_option maxRecDepth 100000
end Go.Proofs.YtffmfkpobjdmmaaGreatDoor
/- Fields that are drawn, and what they become. -/
namespace Go.Proofs.YtffmfkpobjdmmaaGreatDoor
open HL
set_option maxRecDepth 100000
end Go.Proofs.YtffmfkpobjdmmaaGreatDoor
/- Texts: bytes in a row. -/
namespace Go.Proofs.YtffmfkpobjdmmaaGreatDoor.HL
set_option maxRecDepth 100000
/-- A text of some bytes. -/
def tS (l : List UInt8) : ByteArray := ⟨l.toArray⟩
abbrev vS (l : List UInt8) : Value := .string (tS l)
theorem tS_size (l : List UInt8) : (tS l).size = l.length := rfl
theorem tS_data (l : List UInt8) : (tS l).data.toList = l := rfl
theorem tS_toList (l : List UInt8) : (tS l).toList = l := by rw [ByteArray.toList_eq]; rfl
theorem tS_of (b : ByteArray) : b = tS b.data.toList := by cases b; rfl
theorem tS_append (a b : List UInt8) : tS a ++ tS b = tS (a ++ b) := by
  have h : ∀ {x y : ByteArray}, x.data.toList = y.data.toList → x = y := fun {x y} h => by
    cases x; cases y; simp only [ByteArray.mk.injEq]; exact Array.toList_inj.mp h
  apply h
  rw [ByteArray.data_append, Array.toList_append]
  rfl
theorem vStr_add {a b : List UInt8} (h : a.length + b.length ≤ 9223372036854775807) : vStr .add (vS a) (vS b) = some (vS (a ++ b)) := by
  simp only [vStr, tS_size, tS_append]
  rw [if_pos]
  have e : IntKind.i64.max = 9223372036854775807 := by decide
  rw [e]; omega
theorem vStr_eql (a b : List UInt8) : vStr .eql (vS a) (vS b) = some (.bool (decide (a = b))) := by
  simp only [vStr, tS_toList]
  congr 2
  by_cases h : a = b
  · simp [h]
  · simp [h]
theorem vStr_neq (a b : List UInt8) : vStr .neq (vS a) (vS b) = some (.bool (decide (a ≠ b))) := by
  simp only [vStr, tS_toList]
  congr 2
  by_cases h : a = b
  · simp [h]
  · simp [h]
theorem vStr_neq_same (a : List UInt8) : vStr .neq (vS a) (vS a) = some (.bool false) := by rw [vStr_neq]; simp
theorem vStr_lss (a b : List UInt8) : vStr .lss (vS a) (vS b) = some (.bool (Op.bytesLess a b)) := by simp only [vStr, tS_toList]
theorem vLenS_t (a : List UInt8) : vLenS (vS a) = some (.int .i64 a.length) := rfl
theorem tS_extract (a : List UInt8) (l h : Nat) : (tS a).extract l h = tS ((a.drop l).take (h - l)) := by
  have hh : ∀ {x y : ByteArray}, x.data.toList = y.data.toList → x = y := fun {x y} h => by
    cases x; cases y; simp only [ByteArray.mk.injEq]; exact Array.toList_inj.mp h
  apply hh
  rw [ByteArray.data_extract, Array.toList_extract, List.extract_eq_take_drop]
  rfl
theorem vSlS_t {a : List UInt8} {k k' : IntKind} {l h : Int} (l0 : 0 ≤ l) (lh : l ≤ h) (h1 : h ≤ a.length) : vSlS (vS a) (some (.int k l)) (some (.int k' h)) = some (vS ((a.drop l.toNat).take (h.toNat - l.toNat))) := by
  have e := tS_size a
  simp only [vSlS, bnd, e]
  rw [if_pos ⟨by omega, by omega⟩]
  simp only
  rw [if_pos ⟨by omega, by omega⟩]
  simp only [tS_extract]
end Go.Proofs.YtffmfkpobjdmmaaGreatDoor.HL
/- The runs of a row, as texts: plain law. -/
namespace Go.Proofs.YtffmfkpobjdmmaaGreatDoor
open HL
set_option maxRecDepth 100000
/-- A number below 100 in decimal. -/
def decT (n : Nat) : List UInt8 := if n < 10 then [UInt8.ofNat (48 + n)] else [UInt8.ofNat (48 + n / 10), UInt8.ofNat (48 + n % 10)]
theorem decT_len (n : Nat) : 1 ≤ (decT n).length ∧ (decT n).length ≤ 2 := by unfold decT; split <;> simp
/-- How often a number stands at the beginning. -/
def rN (x : Int) : List Int → Nat
  | [] => 0
  | y :: l => if y = x then rN x l + 1 else 0
theorem rN_le (x : Int) : ∀ l : List Int, rN x l ≤ l.length
  | [] => Nat.le_refl _
  | y :: l => by
    have := rN_le x l
    unfold rN
    split <;> simp <;> omega
theorem rN_step {x : Int} : ∀ {l : List Int} {t : Nat}, t ≤ rN x l → t < l.length → at_ 0 l (t : Int) = x → t + 1 ≤ rN x l
  | [], t, _, h, _ => by simp at h
  | y :: l, 0, _, _, h => by
    have : y = x := h
    unfold rN
    rw [if_pos this]; omega
  | y :: l, t + 1, h1, h2, h3 => by
    unfold rN at h1 ⊢
    split at h1
    · rename_i hy
      rw [if_pos hy]
      have := rN_step (x := x) (l := l) (t := t) (by omega) (by simpa using h2) (by
        unfold at_ at h3 ⊢
        simpa using h3)
      omega
    · omega
theorem rN_at {x : Int} : ∀ {l : List Int} {t : Nat}, t < rN x l → at_ 0 l (t : Int) = x
  | [], t, h => by simp [rN] at h
  | y :: l, 0, h => by
    unfold rN at h
    split at h
    · rename_i hy; exact hy
    · omega
  | y :: l, t + 1, h => by
    unfold rN at h
    split at h
    · have := rN_at (x := x) (l := l) (t := t) (by omega)
      unfold at_ at this ⊢
      simpa using this
    · omega
theorem rN_end {x : Int} {l : List Int} {t : Nat} (h1 : t ≤ rN x l) (h2 : t = l.length ∨ at_ 0 l (t : Int) ≠ x) : t = rN x l := by
  rcases Nat.lt_or_ge t (rN x l) with h | h
  · have h3 := rN_at h
    rcases h2 with h2 | h2
    · have := rN_le x l; omega
    · exact absurd h3 h2
  · omega
def chT (x : Int) : UInt8 := if x = 1 then 111 else 98
/-- The runs of a row, without zeros at its end. -/
def rtx : List Int → List UInt8
  | [] => []
  | x :: l => if x = 0 ∧ rN x (x :: l) = l.length + 1 then [] else (if rN x (x :: l) = 1 then [] else decT (rN x (x :: l))) ++ [chT x] ++ rtx ((x :: l).drop (rN x (x :: l)))
termination_by l => l.length
decreasing_by
  have : 1 ≤ rN x (x :: l) := by unfold rN; rw [if_pos rfl]; omega
  simp only [List.length_drop, List.length_cons]; omega
theorem rtx_nil : rtx [] = [] := by unfold rtx; rfl
theorem rtx_of {l : List Int} (h : 0 < l.length) : rtx l = if at_ 0 l 0 = 0 ∧ rN (at_ 0 l 0) l = l.length then [] else (if rN (at_ 0 l 0) l = 1 then [] else decT (rN (at_ 0 l 0) l)) ++ [chT (at_ 0 l 0)] ++ rtx (l.drop (rN (at_ 0 l 0) l)) := by
  cases l with
  | nil => simp at h
  | cons x l =>
    conv => lhs; unfold rtx
    rfl
theorem rtx_zero : ∀ {l : List Int}, (∀ t, t < l.length → at_ 0 l (t : Int) = 0) → rtx l = []
  | [], _ => rtx_nil
  | x :: l, h => by
    rw [rtx_of (by simp)]
    have e0 : at_ 0 (x :: l) 0 = 0 := h 0 (by simp)
    rw [e0]
    have hk : ∀ t, t ≤ (x :: l).length → t ≤ rN 0 (x :: l) := by
      intro t
      induction t with
      | zero => intro _; omega
      | succ t ih => intro ht; exact rN_step (ih (by omega)) (by omega) (h t (by omega))
    have := hk _ (Nat.le_refl _)
    have := rN_le 0 (x :: l)
    rw [if_pos ⟨rfl, by omega⟩]
theorem rtx_len : ∀ (n : Nat) (l : List Int), l.length ≤ n → (rtx l).length ≤ 3 * l.length
  | 0, l, h => by
    have : l = [] := List.length_eq_zero_iff.mp (by omega)
    subst this
    simp [rtx_nil]
  | n + 1, l, h => by
    cases l with
    | nil => simp [rtx_nil]
    | cons x l =>
      rw [rtx_of (by simp)]
      split
      · simp
      · have h1 : 1 ≤ rN (at_ 0 (x :: l) 0) (x :: l) := rN_step (t := 0) (by omega) (by simp) rfl
        have h2 := rN_le (at_ 0 (x :: l) 0) (x :: l)
        have h3 := rtx_len n ((x :: l).drop (rN (at_ 0 (x :: l) 0) (x :: l))) (by simp only [List.length_drop]; simp only [List.length_cons] at h ⊢; omega)
        simp only [List.length_drop] at h3
        have h4 := decT_len (rN (at_ 0 (x :: l) 0) (x :: l))
        simp only [List.length_append, List.length_singleton]
        split
        · simp only [List.length_nil]; omega
        · omega
section
variable {row : List Int}
theorem at_drop {a t : Nat} : at_ 0 (row.drop a) (t : Int) = at_ 0 row ((a + t : Nat) : Int) := by
  unfold at_
  rw [Int.toNat_natCast, Int.toNat_natCast]
  simp [List.getD_eq_getElem?_getD, List.getElem?_drop]
/-- A run that is told: what is written, and what is left. -/
theorem rtx_run {a k : Nat} (ha : a < row.length) (hk : k = rN (at_ 0 row (a : Int)) (row.drop a)) (hne : ¬ (at_ 0 row (a : Int) = 0 ∧ a + k = row.length)) :
    rtx (row.drop a) = (if k = 1 then [] else decT k) ++ [chT (at_ 0 row (a : Int))] ++ rtx (row.drop (a + k)) := by
  have e0 : at_ 0 (row.drop a) 0 = at_ 0 row (a : Int) := at_drop (t := 0)
  rw [rtx_of (by simp; omega), e0, ← hk]
  rw [if_neg (fun h => hne ⟨h.1, by have := h.2; simp only [List.length_drop] at this; omega⟩), List.drop_drop]
theorem rtx_stop {a k : Nat} (ha : a < row.length) (hk : k = rN (at_ 0 row (a : Int)) (row.drop a)) (h : at_ 0 row (a : Int) = 0 ∧ a + k = row.length) : rtx (row.drop a) = [] := by
  have e0 : at_ 0 (row.drop a) 0 = at_ 0 row (a : Int) := at_drop (t := 0)
  rw [rtx_of (by simp; omega), e0, ← hk]
  rw [if_pos ⟨h.1, by simp only [List.length_drop]; omega⟩]
theorem run_zero {a : Nat} (ha : a < row.length) : a + 1 - a ≤ rN (at_ 0 row (a : Int)) (row.drop a) := by
  have := rN_step (x := at_ 0 row (a : Int)) (l := row.drop a) (t := 0) (by omega) (by simp; omega) (at_drop (t := 0))
  omega
theorem run_next {a e : Nat} (hae : a ≤ e) (h : e - a ≤ rN (at_ 0 row (a : Int)) (row.drop a)) (he : e < row.length) (hx : at_ 0 row (e : Int) = at_ 0 row (a : Int)) : e + 1 - a ≤ rN (at_ 0 row (a : Int)) (row.drop a) := by
  have := rN_step (t := e - a) h (by simp; omega) (by rw [at_drop, show a + (e - a) = e by omega]; exact hx)
  omega
theorem run_end {a e : Nat} (hae : a ≤ e) (h : e - a ≤ rN (at_ 0 row (a : Int)) (row.drop a)) (he : e ≤ row.length) (hx : e = row.length ∨ at_ 0 row (e : Int) ≠ at_ 0 row (a : Int)) : e - a = rN (at_ 0 row (a : Int)) (row.drop a) := by
  refine rN_end h ?_
  rcases hx with hx | hx
  · exact .inl (by simp; omega)
  · exact .inr (by rw [at_drop, show a + (e - a) = e by omega]; exact hx)
theorem run_pos {a : Nat} (ha : a < row.length) : 1 ≤ rN (at_ 0 row (a : Int)) (row.drop a) ∧ a + rN (at_ 0 row (a : Int)) (row.drop a) ≤ row.length := by
  have := run_zero ha
  have := rN_le (at_ 0 row (a : Int)) (row.drop a)
  simp only [List.length_drop] at this
  omega
/-- The end of a row without the zeros behind it. -/
def endP (row : List Int) (e : Nat) : Prop := e ≤ row.length ∧ ∀ j, e ≤ j → j < row.length → at_ 0 row (j : Int) = 0
theorem endP_rtx {e : Nat} (h : endP row e) : rtx (row.drop e) = [] := rtx_zero (fun t ht => by
  rw [at_drop]
  exact h.2 _ (by omega) (by simp only [List.length_drop] at ht; omega))
/-- A run within a row that is cut so. -/
theorem run_cut {a e k : Nat} (h : endP row e) (hl : 0 < e → at_ 0 row ((e - 1 : Nat) : Int) ≠ 0) (ha : a < e) (k1 : 1 ≤ k) (hk : k ≤ rN (at_ 0 row (a : Int)) (row.drop a)) (hke : a + k ≤ e) (hx : a + k = e ∨ at_ 0 row ((a + k : Nat) : Int) ≠ at_ 0 row (a : Int)) :
    k = rN (at_ 0 row (a : Int)) (row.drop a) ∧ ¬ (at_ 0 row (a : Int) = 0 ∧ a + k = row.length) := by
  have hlast : a + k = e → at_ 0 row (a : Int) ≠ 0 := fun he h0 => by
    have h1 := rN_at (x := at_ 0 row (a : Int)) (l := row.drop a) (t := k - 1) (by omega)
    rw [at_drop, show a + (k - 1) = e - 1 by omega] at h1
    exact hl (by omega) (h1.trans h0)
  have e1 := run_end (a := a) (e := a + k) (by omega) (by rw [show a + k - a = k by omega]; exact hk) (by have := h.1; omega) (by
    rcases hx with hx | hx
    · rcases Nat.lt_or_ge (a + k) row.length with h2 | h2
      · right
        rw [h.2 (a + k) (by omega) h2]
        exact fun h3 => hlast hx h3.symm
      · left; have := h.1; omega
    · exact .inr hx)
  refine ⟨by omega, fun hh => ?_⟩
  rcases hx with hx | hx
  · exact hlast hx hh.1
  · have := h.1
    have : a + k = e := by omega
    exact hlast this hh.1
end
/-- Texts with another one between them. -/
def joinT (sep : List UInt8) : List (List UInt8) → List UInt8
  | [] => []
  | a :: r => a ++ r.flatMap (sep ++ ·)
theorem joinT_snoc (sep : List UInt8) (x : List UInt8) : ∀ ls : List (List UInt8), ls ≠ [] → joinT sep (ls ++ [x]) = joinT sep ls ++ sep ++ x
  | [], h => absurd rfl h
  | a :: r, _ => by simp [joinT]
end Go.Proofs.YtffmfkpobjdmmaaGreatDoor
/- Parts of slices; slices that are put together. -/
namespace Go.Proofs.YtffmfkpobjdmmaaGreatDoor
open HL
set_option maxRecDepth 100000
namespace HL
theorem Sl.cut {α : Type} {enc : α → Value} {H : Hp} {v : Value} {l : List α} (h : Sl enc H v l) {lo hi : Int} (h0 : 0 ≤ lo) (h1 : lo ≤ hi) (h2 : hi ≤ l.length) :
    ∃ x, vSl3 1 v (some (.int .i64 lo)) (some (.int .i64 hi)) none = some x ∧ (hi = l.length → vSl3 1 v (some (.int .i64 lo)) none none = some x) ∧ (lo = 0 → vSl3 1 v none (some (.int .i64 hi)) none = some x) ∧ (lo = 0 → hi = l.length → vSl3 1 v none none none = some x) ∧
      Sl enc H x ((l.drop lo.toNat).take (hi.toNat - lo.toNat)) ∧ (∀ b, bk x = some b → bk v = some b) := by
  obtain ⟨a, c, rfl, hc, hr⟩ := h
  have e1 : bnd (some (.int .i64 hi)) c l.length = some hi.toNat := by simp only [bnd]; rw [if_pos ⟨by omega, by omega⟩]
  have e2 : bnd (some (.int .i64 lo)) hi.toNat 0 = some lo.toNat := by simp only [bnd]; rw [if_pos ⟨by omega, by omega⟩]
  have e3 : bnd none c l.length = some l.length := rfl
  refine ⟨.slice (if c = lo.toNat then a else a.map (·.add (lo.toNat * 1))) (hi.toNat - lo.toNat) (c - lo.toNat), ?_, ?_, ?_, ?_, ?_, ?_⟩
  · simp only [vSl3, vSl, e1, e2]
  · intro e
    subst e
    have e2' : bnd (some (.int .i64 lo)) l.length 0 = some lo.toNat := by simpa using e2
    simp only [vSl3, vSl, e3, e2', Int.toNat_natCast]
  · intro e
    subst e
    simp only [vSl3, vSl, e1]; rfl
  · intro e e'
    subst e e'
    simp only [vSl3, vSl, e3, Int.toNat_natCast]; rfl
  · have hl : ((l.drop lo.toNat).take (hi.toNat - lo.toNat)).length = hi.toNat - lo.toNat := by simp; omega
    refine ⟨_, _, by rw [hl], by rw [hl]; omega, fun i hi' => ?_⟩
    rw [hl] at hi'
    obtain ⟨ad, rfl, hh⟩ := hr (lo.toNat + i) (by omega)
    rw [if_neg (by omega)]
    refine ⟨ad.add (lo.toNat * 1), rfl, ?_⟩
    have e4 : (ad.add (lo.toNat * 1)).add i = ad.add (lo.toNat + i) := by
      rw [Nat.mul_one]
      unfold Addr.add
      by_cases hx : lo.toNat = 0
      · rw [if_pos hx, hx, Nat.zero_add]
      · by_cases hy : i = 0
        · subst hy; simp
        · rw [if_neg hx, if_neg hy, if_neg (by omega)]; simp [Nat.add_assoc]
    rw [e4, hh]
    simp
  · intro b hb
    by_cases hcl : c = lo.toNat
    · rw [if_pos hcl] at hb
      cases a with
      | none => simp [bk] at hb
      | some ad => simp only [bk] at hb; rw [if_pos (by omega)] at hb; simp at hb
    · rw [if_neg hcl] at hb
      cases a with
      | none => simp [bk] at hb
      | some ad =>
        have hbl : ∀ k, (ad.add k).block = ad.block := fun k => by unfold Addr.add; split <;> rfl
        simp only [Option.map_some, bk] at hb ⊢
        split at hb
        · simp at hb
        · rw [if_neg (by omega)]; rw [hbl] at hb; exact hb
end HL
end Go.Proofs.YtffmfkpobjdmmaaGreatDoor
/- Ranges over functions: a rule by an invariant; slices.Chunk. -/
namespace Go.Proofs.YtffmfkpobjdmmaaGreatDoor
open HL
set_option maxRecDepth 100000
namespace HL
/-- A range over an iterator that gives N times something: what holds ahead of each round. -/
theorem rgE_i {fv : Value} {ps : List Nat} {body : (Exit → S → Hp → Prop) → S → Hp → Prop} {Q : Exit → S → Hp → Prop} {σ : S} {H : Hp} (N : Nat) (arg : Nat → List Value) (I : Nat → Hp → Prop) (hfv : match fv with | .func (.func _) _ _ => True | _ => False) (hps : ∀ t, (arg t).length = ps.length) (h0 : I 0 H)
    (hb : ∀ t A σ' (Q' : Exit → S → Hp → Prop), t < N → σ' = ups σ ps (arg t) → (∀ σ'' B, I (t + 1) B → Q' .normal σ'' B) → (∀ σ'' B, Q .ret σ B → Q' .ret σ'' B) → (∀ id σ'' B, Q (.exit id) σ B → Q' (.exit id) σ'' B) → I t A → body Q' σ' A)
    (hend : ∀ A, I N A → Q .normal σ A)
    (hcall : ∀ (yv : Value) (J : Nat → Hp → Prop) (St : Hp → Prop) (H1 : Hp) (K : Value → Hp → Prop), (∀ t A, J t A → ∃ A' b o, A = A'.put b o ∧ A' b = none ∧ I t A') → J 0 H1 →
      (∀ t A (Z : Value → Hp → Prop), t < N → J t A → (∀ B, J (t + 1) B → Z (.bool true) B) → (∀ B, St B → Z (.bool false) B) → callV prg yv (arg t) A Z) → (∀ A, J N A → K (.tuple #[]) A) → (∀ A, St A → K (.tuple #[]) A) → callV prg fv [yv] H1 K) :
    rgE prg fv ps body Q σ H := by
  refine ⟨hfv, fun l X hl hy => ?_⟩
  refine hcall _ (fun t A => ∃ A', A = A'.put l (X none) ∧ A' l = none ∧ I t A') (fun A => ∃ A' j, A = A'.put l (X j) ∧ A' l = none ∧ jmpQ Q σ A' j) _ _ ?_ ⟨H, rfl, hl, h0⟩ ?_ ?_ ?_
  · rintro t A ⟨A', rfl, hn, hI⟩
    exact ⟨A', l, X none, rfl, hn, hI⟩
  · rintro t A Z ht ⟨A', rfl, hn, hI⟩ hT hF
    refine hy (arg t) A' Z (hps t) hn (hb t A' _ _ ht rfl (fun σ'' B hB hBl => ?_) (fun σ'' B hB hBl => ?_) (fun id σ'' B hB hBl => ?_) hI)
    · exact hT _ ⟨B, rfl, hBl, hB⟩
    · exact hF _ ⟨B, some .ret, rfl, hBl, hB⟩
    · exact hF _ ⟨B, some (.exit id), rfl, hBl, hB⟩
  · rintro A ⟨A', rfl, hn, hI⟩
    exact ⟨A', none, rfl, hn, hend A' hI⟩
  · rintro A ⟨A', j, rfl, hn, hj⟩
    exact ⟨A', j, rfl, hn, hj⟩
/-- A piece of a slice, with no room behind it. -/
def chV (v : Value) (lo c : Nat) : Value := (vSl3 1 v (some (.int .i64 (lo : Int))) (some (.int .i64 ((lo : Int) + (c : Int)))) (some (.int .i64 ((lo : Int) + (c : Int))))).getD undef
theorem chV_sl {α : Type} {enc : α → Value} {H : Hp} {v : Value} {l : List α} (h : Sl enc H v l) {lo c : Nat} (h1 : lo + c ≤ l.length) :
    vSl3 1 v (some (.int .i64 (lo : Int))) (some (.int .i64 ((lo : Int) + (c : Int)))) (some (.int .i64 ((lo : Int) + (c : Int)))) = some (chV v lo c) ∧ Sl enc H (chV v lo c) ((l.drop lo).take c) := by
  obtain ⟨a, k, rfl, hc, hr⟩ := h
  have e0 : bnd (some (.int .i64 ((lo : Int) + (c : Int)))) k k = some (lo + c) := by simp only [bnd]; rw [if_pos ⟨by omega, by omega⟩]; congr 1
  have e1 : bnd (some (.int .i64 ((lo : Int) + (c : Int)))) (lo + c) (lo + c) = some (lo + c) := by simp only [bnd]; rw [if_pos ⟨by omega, by omega⟩]; congr 1
  have e2 : bnd (some (.int .i64 (lo : Int))) (lo + c) 0 = some lo := by simp only [bnd]; rw [if_pos ⟨by omega, by omega⟩]; simp
  have e : vSl3 1 (.slice a l.length k) (some (.int .i64 (lo : Int))) (some (.int .i64 ((lo : Int) + (c : Int)))) (some (.int .i64 ((lo : Int) + (c : Int)))) = some (.slice (if lo + c = lo then a else a.map (·.add (lo * 1))) (lo + c - lo) (lo + c - lo)) := by
    simp only [vSl3, e0, e1, e2]
  refine ⟨by unfold chV; rw [e]; rfl, ?_⟩
  unfold chV
  rw [e]
  show Sl enc H (.slice _ _ _) _
  have hl : ((l.drop lo).take c).length = c := by simp; omega
  refine ⟨_, _, by rw [hl]; congr 1; omega, by rw [hl]; omega, fun i hi' => ?_⟩
  rw [hl] at hi'
  obtain ⟨ad, rfl, hh⟩ := hr (lo + i) (by omega)
  rw [if_neg (by omega)]
  refine ⟨ad.add (lo * 1), rfl, ?_⟩
  have e4 : (ad.add (lo * 1)).add i = ad.add (lo + i) := by
    rw [Nat.mul_one]
    unfold Addr.add
    by_cases hx : lo = 0
    · rw [if_pos hx, hx, Nat.zero_add]
    · by_cases hy : i = 0
      · subst hy; simp
      · rw [if_neg hx, if_neg hy, if_neg (by omega)]; simp [Nat.add_assoc]
  rw [e4, hh]
  simp
end HL
/-- A row of a list. -/
def rowL (c : Nat) (l : List Int) (i : Nat) : List Int := (l.drop (i * c)).take c
theorem rowL_len {c r : Nat} {l : List Int} (hl : l.length = r * c) {i : Nat} (hi : i < r) : (rowL c l i).length = c := by
  unfold rowL
  have := Nat.mul_le_mul_right c (show i + 1 ≤ r by omega)
  rw [Nat.add_mul, Nat.one_mul] at this
  simp; omega
theorem C.slices_Chunk {vc : Value} {l : List Int} {n : Int} {H : Hp} {K : Value → Hp → Prop} (hv : Sl eI H vc l) (hn : 1 ≤ n)
    (hk : ∀ ps pn H', Cel H' ps [vc] → Cel H' pn [.int .i64 n] → Nw H ps → Nw H pn → Apart ps pn → Le H H' → K (.func (.func I.slices_Chunk_int64Zint64Z1) #[] #[ps, pn]) H') :
    HT prg I.slices_Chunk_int64Zint64 [vc, .int .i64 n].toArray H K := by
 refine R.slices_Chunk_int64Zint64 ?_
 unfold F.slices_Chunk_int64Zint64
 rw [hv.cells]
 refine nw_i (fun ps H2 ops nps le2 => ?_)
 refine nw_i (fun pn H4 opn npn le4 => ?_)
 refine ob_i (opn.ld0 rfl) ?_
 refine ob_i (vInt_lss _ _ _) ?_
 rw [decide_eq_false (show ¬ n < 1 by omega)]
 refine cnd_f1 ?_
 exact hk ps pn H4 (ops.le le4) opn nps (npn.le le2) (ops.apart npn) (le2.trans le4)
theorem C.slices_ChunkZ1 {yv ps pn vc : Value} {l : List Int} {c r : Nat} {H0 H : Hp} {K : Value → Hp → Prop} {J : Nat → Hp → Prop} {St : Hp → Prop} (hv : Sl eI H0 vc l) (hl : l.length = r * c) (c1 : 1 ≤ c) (c2 : c ≤ 1000000) (l2 : l.length ≤ 1000000)
    (hb : ∀ t A, J t A → Cel A ps [vc] ∧ Cel A pn [.int .i64 (c : Int)]) (h0 : J 0 H)
    (hst : ∀ t A (Z : Value → Hp → Prop), t < r → J t A → (∀ B, J (t + 1) B → Z (.bool true) B) → (∀ B, St B → Z (.bool false) B) → callV prg yv [chV vc (t * c) c] A Z)
    (hk : ∀ A, J r A → K (.tuple #[]) A) (hs : ∀ A, St A → K (.tuple #[]) A) :
    HT prg I.slices_Chunk_int64Zint64Z1 [yv, ps, pn].toArray H K := by
 refine R.slices_Chunk_int64Zint64Z1 ?_
 unfold F.slices_Chunk_int64Zint64Z1
 refine ⟨fun n σ H' => ∃ t : Nat, n = r - t ∧ t ≤ r ∧ σ 0 = yv ∧ σ 1 = ps ∧ σ 2 = pn ∧ σ 4 = .int .i64 ((t * c : Nat) : Int) ∧ J t H', ⟨_, 0, rfl, by omega, rfl, rfl, rfl, congrArg (Value.int .i64) (by simp), h0⟩, ?_⟩
 rintro n σ H1 ⟨t, rfl, ht, g0, g1, g2, g4, hJ⟩
 simp only [g0, g1, g2, g4]
 obtain ⟨ops, opn⟩ := hb t H1 hJ
 refine ob_i (ops.ld0 rfl) ?_
 refine ob_i hv.len ?_
 refine ob_i (vInt_lss _ _ _) ?_
 refine cnd_d (fun hlt => ?_) (fun hge => ?_)
 ·have htr : t < r := Nat.lt_of_not_le fun hh => by
   have := Nat.mul_le_mul_right c hh
   omega
  have hm := Nat.mul_le_mul_right c (show t + 1 ≤ r by omega)
  rw [Nat.add_mul, Nat.one_mul] at hm
  refine ob_i (opn.ld0 rfl) ?_
  refine ob_i (ops.ld0 rfl) ?_
  obtain ⟨x, _, hx2, _, _, hx5, _⟩ := hv.cut (lo := ((t * c : Nat) : Int)) (hi := (l.length : Int)) (by omega) (by omega) (by omega)
  refine ob_i (hx2 rfl) ?_
  refine ob_i hx5.len ?_
  have hmin : vMx false (.int .i64 (c : Int)) [.int .i64 (((l.drop ((t * c : Nat) : Int).toNat).take ((l.length : Int).toNat - ((t * c : Nat) : Int).toNat)).length : Int)] = some (.int .i64 (c : Int)) := by
   simp only [vMx]
   rw [if_neg]
   rw [List.length_take, List.length_drop, Int.toNat_natCast, Int.toNat_natCast]
   omega
  refine ob_i hmin ?_
  refine ob_i (ops.ld0 rfl) ?_
  refine ob_i (vInt_add (by omega) (by omega)) ?_
  refine ob_i (vInt_add (by omega) (by omega)) ?_
  refine ob_i (chV_sl hv (lo := t * c) (c := c) (by omega)).1 ?_
  refine hst t H1 _ htr hJ (fun B hB => ?_) (fun B hB => ?_)
  ·refine ob_i (a := .bool false) rfl ?_
   refine cnd_f1 ?_
   obtain ⟨ops, opn⟩ := hb _ B hB
   refine ob_i (opn.ld0 rfl) ?_
   refine ob_i (vInt_add (by omega) (by omega)) ?_
   exact nxt (r - (t + 1)) (by omega) ⟨t + 1, rfl, by omega, g0, g1, g2, congrArg (Value.int .i64) (by rw [Nat.add_mul, Nat.one_mul]; omega), hB⟩
  ·refine ob_i (a := .bool true) rfl ?_
   refine cnd_t1 ?_
   exact hs B hB
 ·obtain rfl : t = r := by
   have := Nat.le_antisymm ht (Nat.le_of_not_lt fun hh => by
    have hm := Nat.mul_le_mul_right c (show t + 1 ≤ r by omega)
    rw [Nat.add_mul, Nat.one_mul] at hm
    omega)
   exact this
  exact hk _ hJ
end Go.Proofs.YtffmfkpobjdmmaaGreatDoor
/- Maps by texts. -/
namespace Go.Proofs.YtffmfkpobjdmmaaGreatDoor.HL
set_option maxRecDepth 100000
def keyIs (k : ByteArray) (v : Value) : Bool := match v with | .string s => k == s | _ => false
/-- What a map has at a text: where, and what. -/
def findS (k : ByteArray) : List MapEntry → Nat → Option (Nat × Value)
  | [], _ => none
  | e :: es, i => bif keyIs k e.key then some (i, e.val) else findS k es (i + 1)
def keysS (es : List MapEntry) : Prop := ∀ e ∈ es, ∃ s, e.key = .string s
theorem findNow_s (k : ByteArray) : ∀ (es : List MapEntry) (i : Nat), keysS es → Instr.findNow .string (.string k) es i = some (findS k es i)
  | [], i, _ => rfl
  | e :: es, i, h => by
    obtain ⟨s, hs⟩ := h e (by simp)
    have ih := findNow_s k es (i + 1) (fun x hx => h x (by simp [hx]))
    unfold Instr.findNow findS
    rw [hs]
    simp only [Instr.sameNow, keyIs]
    cases e1 : (k == s) with
    | true => rfl
    | false => exact ih
theorem val_checkKey (P : Program) (b : Bool) (n : Nat) (t : TypeId) (k : ByteArray) (H : Hp) (ht : P.underlying t = some .string) : val P (Instr.checkKey b (n + 1) t (.string k)) H = some () := by
  unfold Instr.checkKey
  rw [val_bind', val_underlying, ht]
  rfl
theorem val_findKey (P : Program) (t : TypeId) (k : ByteArray) (es : List MapEntry) (H : Hp) (ht : P.underlying t = some .string) (hk : keysS es) : val P (Instr.findKey t (.string k) es) H = some (findS k es 0) := by
  unfold Instr.findKey
  rw [val_bind', val_underlying, ht]
  simp only [Option.bind_some]
  rw [findNow_s k es 0 hk]
  rfl
/-- A new entry. -/
theorem hp_mapUpdate_new {P : Program} {t kt et : TypeId} {r c : Nat} {es : Array MapEntry} {k : ByteArray} {x : Value} {H : Hp} {K : Unit → Hp → Prop} (ht : P.underlying t = some (.map kt et)) (hk : P.underlying kt = some .string)
    (hr : H r = some (.map es c)) (hs : keysS es.toList) (hn : findS k es.toList 0 = none) (h : K () (H.put r (.map (es.push { key := .string k, val := x, born := c }) (c + 1)))) : hp P (Instr.mapUpdate t (.map (some r)) (.string k) x) H K := by
  unfold Instr.mapUpdate
  have e1 : val P (getObj r) H = some (.map es c) := by
    show val P (Sem.getObj r Sem.pure) H = _
    simp only [val, hr]
  refine hp_val_bind P _ _ H K _ (by rw [val_underlying, ht]) ?_
  refine hp_val_bind P _ _ H K _ e1 ?_
  refine hp_val_bind P _ _ H K _ (val_checkKey P _ 9999 kt k H hk) ?_
  refine hp_val_bind P _ _ H K _ (val_findKey P kt k es.toList H hk hs) ?_
  rw [hn]
  show hp P (Sem.setObj r _ (Sem.pure ())) H K
  simp only [hp, hr]
  exact h
end Go.Proofs.YtffmfkpobjdmmaaGreatDoor.HL
/- Slices of fields whose cells are owned. -/
namespace Go.Proofs.YtffmfkpobjdmmaaGreatDoor
open HL
set_option maxRecDepth 100000
namespace HL
/-- What has blocks: a slice or a pointer, or a set of blocks. -/
class Bks (α : Type) where inb : α → Nat → Prop
instance instBV : Bks Value := ⟨fun v b => bk v = some b⟩
def Rg : Type := Nat → Prop
instance instBR : Bks Rg := ⟨fun S b => S b⟩
def Apt {α β : Type} [Bks α] [Bks β] (u : α) (v : β) : Prop := ∀ b, Bks.inb u b → ¬ Bks.inb v b
def Kn {α : Type} [Bks α] (H : Hp) (u : α) : Prop := ∀ b, Bks.inb u b → ∃ o, H b = some o
def Nws (H : Hp) (S : Rg) : Prop := ∀ b, S b → H b = none
def OffS (S : Rg) (H H' : Hp) : Prop := ∀ b o, H b = some o → ¬ S b → H' b = some o
section
variable {α β : Type} [Bks α] [Bks β] {u : α} {v : β} {H H' : Hp} {S : Rg}
theorem Apt.symm (h : Apt u v) : Apt v u := fun b h1 h2 => h b h2 h1
theorem Apt.nil_r {c : Nat} : Apt u (Value.slice none c c) := fun b _ h => by
  have : bk (.slice none c c) = some b := h
  simp [bk] at this
theorem Apt.of_nws (hu : Kn H u) (hn : Nws H S) : Apt u S := fun b h1 h2 => by
  obtain ⟨o, ho⟩ := hu b h1
  rw [hn b h2] at ho; exact absurd ho (by simp)
theorem Apt.of_nw {w : Value} (hu : Kn H u) (hn : Nw H w) : Apt u w := fun b h1 h2 => by
  obtain ⟨o, ho⟩ := hu b h1
  rw [hn b h2] at ho; exact absurd ho (by simp)
theorem Nws.le (h : Nws H' S) (hl : Le H H') : Nws H S := fun b hb => by
  cases ho : H b with
  | none => rfl
  | some o => have := hl b o ho; rw [h b hb] at this; exact absurd this (by simp)
theorem OffS.le {H0 : Hp} (h : OffS S H H') (hl : Le H0 H) (hn : Nws H0 S) : Le H0 H' := fun b o hb =>
  h b o (hl b o hb) (fun e => by rw [hn b e] at hb; exact absurd hb (by simp))
theorem OffS.trans {A B C : Hp} (h : OffS S A B) (h' : OffS S B C) : OffS S A C := fun b o hb hv => h' b o (h b o hb hv) hv
theorem OffS.of_le (h : Le H H') : OffS S H H' := fun b o hb _ => h b o hb
/-- What has no block of a set stays. -/
theorem OffS.off {w x : Value} (h : OffS S H H') (ha : Apt w S) : ∀ b o, bk w = some b → H b = some o → H' b = some o := fun b o hb ho => h b o ho (ha b hb)
end
theorem Own.offS {α : Type} {enc : α → Value} {H H' : Hp} {u : Value} {l : List α} {S : Rg} (h : Own enc H u l) (ho : OffS S H H') (ha : Apt u S) : Own enc H' u l := by
  obtain ⟨a, c, rfl, hc, hr⟩ := h
  refine ⟨a, c, rfl, hc, fun h0 => ?_⟩
  obtain ⟨b, off, cs, e, rfl, hb, hs, hcs⟩ := hr h0
  refine ⟨b, off, cs, e, rfl, ho b _ hb (ha b ?_), hs, hcs⟩
  show bk _ = some b
  simp only [bk]
  rw [if_neg (by omega)]
theorem Cel.offS {H H' : Hp} {p : Value} {cs : List Value} {S : Rg} (h : Cel H p cs) (ho : OffS S H H') (ha : Apt p S) : Cel H' p cs := by
  obtain ⟨r, e, rfl, hr⟩ := h
  exact ⟨r, e, rfl, ho r _ hr (ha r rfl)⟩
theorem Ro.offS {α : Type} {enc : α → Value} {H H' : Hp} {u : Value} {l : List α} {S : Rg} (h : Ro enc H u l) (ho : OffS S H H') (ha : Apt u S) : Ro enc H' u l := by
  obtain ⟨⟨a, c, rfl, hc, hr⟩, hk⟩ := h
  have key : ∀ b, bk (.slice a l.length c) = some b → H' b = H b := fun b hb => by
    obtain ⟨o, hbo⟩ := hk b hb
    rw [ho b o hbo (ha b hb), hbo]
  refine ⟨⟨a, c, rfl, hc, fun i hi => ?_⟩, fun b hb => by rw [key b hb]; exact hk b hb⟩
  obtain ⟨ad, rfl, hh⟩ := hr i hi
  refine ⟨ad, rfl, ?_⟩
  have e : H' (ad.add i).block = H (ad.add i).block := by
    rw [add_block]
    exact key _ (by simp only [bk]; rw [if_neg (by omega)])
  unfold Hp.cell? at hh ⊢
  rw [e]; exact hh
/-- A field. -/
structure FdL where
  r : Int
  c : Int
  l : List Int
  deriving DecidableEq
def fd0 : FdL := ⟨0, 0, []⟩
def RelF (P : Value → List Int → Prop) : List Fv → List FdL → Prop
  | [], [] => True
  | x :: L, f :: fs => (x.r = f.r ∧ x.c = f.c ∧ P x.v f.l) ∧ RelF P L fs
  | _, _ => False
section
variable {P Q : Value → List Int → Prop}
theorem RelF.len : ∀ {L : List Fv} {fs : List FdL}, RelF P L fs → L.length = fs.length
  | [], [], _ => rfl
  | x :: L, f :: fs, h => congrArg (· + 1) (RelF.len h.2)
  | [], _ :: _, h => h.elim
  | _ :: _, [], h => h.elim
theorem RelF.imp : ∀ {L : List Fv} {fs : List FdL}, RelF P L fs → (∀ x ∈ L, ∀ l, P x.v l → Q x.v l) → RelF Q L fs
  | [], [], _, _ => trivial
  | x :: L, f :: fs, h, g => ⟨⟨h.1.1, h.1.2.1, g x (by simp) _ h.1.2.2⟩, RelF.imp h.2 (fun y hy => g y (by simp [hy]))⟩
  | [], _ :: _, h, _ => h.elim
  | _ :: _, [], h, _ => h.elim
theorem RelF.app : ∀ {L M : List Fv} {fs gs : List FdL}, RelF P L fs → RelF P M gs → RelF P (L ++ M) (fs ++ gs)
  | [], M, [], gs, _, h => h
  | x :: L, M, f :: fs, gs, h1, h2 => ⟨h1.1, RelF.app h1.2 h2⟩
  | [], _, _ :: _, _, h, _ => h.elim
  | _ :: _, _, [], _, h, _ => h.elim
theorem RelF.get : ∀ {L : List Fv} {fs : List FdL} {i : Nat}, RelF P L fs → i < L.length → (at_ fv0 L (i : Int)).r = (at_ fd0 fs (i : Int)).r ∧ (at_ fv0 L (i : Int)).c = (at_ fd0 fs (i : Int)).c ∧ P (at_ fv0 L (i : Int)).v (at_ fd0 fs (i : Int)).l
  | [], [], i, _, hi => absurd hi (by simp)
  | x :: L, f :: fs, 0, h, _ => h.1
  | x :: L, f :: fs, i + 1, h, hi => RelF.get (L := L) (fs := fs) (i := i) h.2 (by simpa using hi)
  | [], _ :: _, _, h, _ => h.elim
  | _ :: _, [], _, h, _ => h.elim
end
/-- A slice of fields, whose blocks and those of its fields are owned. -/
def Fam (H : Hp) (v : Value) (S : Rg) (fs : List FdL) : Prop :=
  ∃ L, OwnE 3 encFv H v L ∧ RelF (Own eI H) L fs ∧ (∀ x ∈ L, Apart v x.v) ∧ L.Pairwise (fun x y => Apart x.v y.v) ∧ ∀ b, S b ↔ (bk v = some b ∨ ∃ x ∈ L, bk x.v = some b)
theorem RelF.mem {P : Value → List Int → Prop} : ∀ {L : List Fv} {fs : List FdL}, RelF P L fs → ∀ x ∈ L, ∃ l, P x.v l
  | [], [], _ => by simp
  | x :: L, f :: fs, h => fun y hy => by
    rcases List.mem_cons.mp hy with rfl | hy
    · exact ⟨_, h.1.2.2⟩
    · exact RelF.mem h.2 y hy
  | [], _ :: _, h => h.elim
  | _ :: _, [], h => h.elim
section
variable {H H' : Hp} {v : Value} {S : Rg} {fs : List FdL}
theorem Fam.known (h : Fam H v S fs) : Kn H S := by
  obtain ⟨L, h1, h2, h3, h4, h5⟩ := h
  intro b hb
  rcases (h5 b).mp hb with e | ⟨x, hx, e⟩
  · exact h1.known b e
  · obtain ⟨l, hl⟩ := h2.mem x hx
    exact hl.known b e
theorem Fam.le (h : Fam H v S fs) (hl : Le H H') : Fam H' v S fs := by
  obtain ⟨L, h1, h2, h3, h4, h5⟩ := h
  exact ⟨L, h1.le hl, h2.imp (fun _ _ _ h => h.le hl), h3, h4, h5⟩
theorem Fam.off {w : Value} (h : Fam H v S fs) (ho : Off w H H') (ha : Apt S w) : Fam H' v S fs := by
  obtain ⟨L, h1, h2, h3, h4, h5⟩ := h
  exact ⟨L, h1.off ho (fun b hb => ha b ((h5 b).mpr (.inl hb))), h2.imp (fun x hx _ h => h.off ho (fun b hb => ha b ((h5 b).mpr (.inr ⟨x, hx, hb⟩)))), h3, h4, h5⟩
theorem OwnE.offS {n : Nat} {α : Type} {enc : α → List Value} {u : Value} {l : List α} (h : OwnE n enc H u l) (ho : OffS S H H') (ha : Apt u S) : OwnE n enc H' u l := by
  obtain ⟨a, c, rfl, hc, hr⟩ := h
  refine ⟨a, c, rfl, hc, fun h0 => ?_⟩
  obtain ⟨b, off, cs, e, rfl, hb, hs, hcs⟩ := hr h0
  refine ⟨b, off, cs, e, rfl, ho b _ hb (ha b ?_), hs, hcs⟩
  show bk _ = some b
  simp only [bk]
  rw [if_neg (by omega)]
theorem Fam.offS {T : Rg} (h : Fam H v S fs) (ho : OffS T H H') (ha : Apt S T) : Fam H' v S fs := by
  obtain ⟨L, h1, h2, h3, h4, h5⟩ := h
  exact ⟨L, h1.offS ho (fun b hb => ha b ((h5 b).mpr (.inl hb))), h2.imp (fun x hx _ h => h.offS ho (fun b hb => ha b ((h5 b).mpr (.inr ⟨x, hx, hb⟩)))), h3, h4, h5⟩
theorem Fam.len (h : Fam H v S fs) : vLenSl v = some (.int .i64 fs.length) := by
  obtain ⟨L, h1, h2, _⟩ := h
  rw [h1.len, h2.len]
theorem Fam.one (h : Fam H v S fs) : oneCell v = true := by obtain ⟨L, h1, _⟩ := h; exact h1.one
theorem Fam.cells (h : Fam H v S fs) : v.cells = #[v] := by obtain ⟨L, h1, _⟩ := h; exact h1.cells
theorem Fam.isSl (h : Fam H v S fs) : ∃ a n c, v = .slice a n c := by obtain ⟨L, h1, _⟩ := h; exact h1.isSl
theorem Fam.cast {gs : List FdL} (e : fs = gs) (h : Fam H v S fs) : Fam H v S gs := e ▸ h
theorem Fam.nil_of (a : Option Addr) : Fam H (.slice a 0 0) (fun _ => False) [] :=
  ⟨[], OwnE.nil_of a, trivial, by simp, List.Pairwise.nil, fun b => ⟨fun h => h.elim, fun h => by
    rcases h with h | ⟨x, hx, _⟩
    · cases a <;> simp [bk] at h
    · simp at hx⟩⟩
/-- A new slice of fields. -/
theorem bSE_fam {z : Array Value} {e : TypeId} {K : Value → Hp → Prop} (hk : ∀ v S H', Fam H' v S [] → Nws H S → Le H H' → K v H') : bS 3 0 z e [] H K :=
  bSE_nil (n := 3) (enc := encFv) fun v H' ov nv hb le => hk v (fun _ => False) H' ⟨[], ov, trivial, by simp, List.Pairwise.nil, fun b => ⟨fun h => h.elim, fun h => by
    rcases h with h | ⟨x, hx, _⟩
    · rw [hb] at h; simp at h
    · simp at hx⟩⟩ (fun b h => h.elim) le
/-- One more. -/
theorem Fam.push {bytes : Nat} {z : Array Value} {e : TypeId} {w x : Value} {r c : Int} {l : List Int} {K : Value → Hp → Prop} (h : Fam H v S fs) (hz : z.size = 3) (hw : SlE 3 encFv H w [⟨r, c, x⟩]) (hx : Own eI H x l) (ax : Apt x S)
    (hb : bytes ≤ 64) (hl : fs.length < 1000000)
    (hk : ∀ v' S' H', Fam H' v' S' (fs ++ [⟨r, c, l⟩]) → OffS S H H' → (∀ b, S' b → S b ∨ bk x = some b ∨ H b = none) → (∀ b, bk x = some b → S' b) → Own eI H' x l → K v' H') : apd 3 bytes z e v w H K := by
  obtain ⟨L, h1, h2, h3, h4, h5⟩ := h
  have hlen := h2.len
  have axv : Apart x v := fun b hb hv => ax b hb ((h5 b).mpr (.inl hv))
  refine OwnE.apd h1 encFv_n hz hw (fun y hy t ht => ?_) hb (by simp; omega) (fun v' H' ov off hb' => ?_)
  · simp only [List.mem_singleton] at hy
    subst hy
    simp only [encFv, List.mem_cons, List.not_mem_nil, or_false] at ht
    rcases ht with rfl | rfl | rfl
    · rfl
    · rfl
    · exact hx.one
  have ax' : ∀ y ∈ L, Apart v' y.v := fun y hy b e1 e2 => by
    rcases hb' b e1 with e3 | e3
    · exact h3 y hy b e3 e2
    · obtain ⟨m, hm⟩ := h2.mem y hy
      obtain ⟨o, ho⟩ := hm.known b e2
      rw [e3] at ho; simp at ho
  have axx : Apart v' x := fun b e1 e2 => by
    rcases hb' b e1 with e3 | e3
    · exact axv b e2 e3
    · obtain ⟨o, ho⟩ := hx.known b e2
      rw [e3] at ho; simp at ho
  have hx' := hx.off off axv
  refine hk v' (fun b => bk v' = some b ∨ ∃ y ∈ L ++ [⟨r, c, x⟩], bk y.v = some b) H' ⟨_, ov, ?_, ?_, ?_, fun b => Iff.rfl⟩ (fun b o hbo hn => off b o hbo (fun e => hn ((h5 b).mpr (.inl e)))) ?_ (fun b hb => .inr ⟨⟨r, c, x⟩, by simp, hb⟩) hx'
  · exact (h2.imp (fun y hy m h => h.off off (h3 y hy).symm)).app ⟨⟨rfl, rfl, hx'⟩, trivial⟩
  · intro y hy
    rcases List.mem_append.mp hy with hy | hy
    · exact ax' y hy
    · simp only [List.mem_singleton] at hy; subst hy; exact axx
  · rw [List.pairwise_append]
    refine ⟨h4, List.pairwise_singleton _ _, fun y hy t ht => ?_⟩
    simp only [List.mem_singleton] at ht
    subst ht
    exact fun b e1 e2 => ax b e2 ((h5 b).mpr (.inr ⟨y, hy, e1⟩))
  · intro b hb
    rcases hb with hb | ⟨y, hy, e⟩
    · rcases hb' b hb with e3 | e3
      · exact .inl ((h5 b).mpr (.inl e3))
      · exact .inr (.inr e3)
    · rcases List.mem_append.mp hy with hy | hy
      · exact .inl ((h5 b).mpr (.inr ⟨y, hy, e⟩))
      · simp only [List.mem_singleton] at hy; subst hy; exact .inr (.inl e)
/-- Apart from what was pushed to. -/
theorem Apt.push {α : Type} [Bks α] {u : α} {S' : Rg} {x : Value} (hu : Kn H u) (hS : Apt u S) (hx : Apt u x) (hb : ∀ b, S' b → S b ∨ bk x = some b ∨ H b = none) : Apt u S' := fun b h1 h2 => by
  rcases hb b h2 with h | h | h
  · exact hS b h1 h
  · exact hx b h1 h
  · obtain ⟨o, ho⟩ := hu b h1
    rw [h] at ho; simp at ho
theorem Nws.push {H0 : Hp} {S' : Rg} {x : Value} (hl : Le H0 H) (hS : Nws H0 S) (hx : Nw H0 x) (hb : ∀ b, S' b → S b ∨ bk x = some b ∨ H b = none) : Nws H0 S' := fun b h2 => by
  rcases hb b h2 with h | h | h
  · exact hS b h
  · exact hx b h
  · cases ho : H0 b with
    | none => rfl
    | some o => rw [hl b o ho] at h; simp at h
end
end HL
end Go.Proofs.YtffmfkpobjdmmaaGreatDoor
/- Maps from texts to numbers, as owned things. -/
namespace Go.Proofs.YtffmfkpobjdmmaaGreatDoor.HL
set_option maxRecDepth 100000
/-- The entries of a map, told as texts and numbers. -/
def entsS (es : List MapEntry) : List (ByteArray × Int) → Prop := fun ms => es.map (fun e => (e.key, e.val)) = ms.map (fun m => (Value.string m.1, Value.int .i64 m.2))
theorem entsS_keys {es : List MapEntry} {ms : List (ByteArray × Int)} (h : entsS es ms) : keysS es := fun e he => by
  have : (e.key, e.val) ∈ es.map (fun e => (e.key, e.val)) := List.mem_map.mpr ⟨e, he, rfl⟩
  rw [h] at this
  obtain ⟨m, _, hm⟩ := List.mem_map.mp this
  exact ⟨m.1, by injection hm with h1 _; exact h1.symm⟩
/-- A map that is owned. -/
def Mp (H : Hp) (p : Value) (S : Rg) (ms : List (ByteArray × Int)) : Prop := ∃ r es c, p = .map (some r) ∧ H r = some (.map es c) ∧ entsS es.toList ms ∧ ∀ b, S b ↔ b = r
section
variable {H H' : Hp} {p : Value} {S : Rg} {ms : List (ByteArray × Int)}
theorem Mp.known (h : Mp H p S ms) : Kn H S := by
  obtain ⟨r, es, c, _, hr, _, hS⟩ := h
  intro b hb
  rw [(hS b).mp hb]; exact ⟨_, hr⟩
theorem Mp.le (h : Mp H p S ms) (hl : Le H H') : Mp H' p S ms := by
  obtain ⟨r, es, c, e, hr, he, hS⟩ := h
  exact ⟨r, es, c, e, hl r _ hr, he, hS⟩
theorem Mp.off {w : Value} (h : Mp H p S ms) (ho : Off w H H') (ha : Apt S w) : Mp H' p S ms := by
  obtain ⟨r, es, c, e, hr, he, hS⟩ := h
  exact ⟨r, es, c, e, ho r _ hr (ha r ((hS r).mpr rfl)), he, hS⟩
theorem Mp.offS {T : Rg} (h : Mp H p S ms) (ho : OffS T H H') (ha : Apt S T) : Mp H' p S ms := by
  obtain ⟨r, es, c, e, hr, he, hS⟩ := h
  exact ⟨r, es, c, e, ho r _ hr (ha r ((hS r).mpr rfl)), he, hS⟩
/-- What the map has at a text. -/
def mget (k : ByteArray) : List (ByteArray × Int) → Option Int
  | [] => none
  | m :: ms => bif k == m.1 then some m.2 else mget k ms
theorem findS_mget (k : ByteArray) : ∀ (es : List MapEntry) (ms : List (ByteArray × Int)) (i : Nat), entsS es ms → (findS k es i).map Prod.snd = (mget k ms).map (Value.int .i64)
  | [], [], _, _ => rfl
  | e :: es, m :: ms, i, h => by
    simp only [entsS, List.map_cons, List.cons.injEq, Prod.mk.injEq] at h
    obtain ⟨⟨h1, h2⟩, h3⟩ := h
    have ih := findS_mget k es ms (i + 1) h3
    unfold findS mget
    rw [h1]
    simp only [keyIs]
    cases k == m.1
    · exact ih
    · simp [h2]
  | [], _ :: _, _, h => by simp [entsS] at h
  | _ :: _, [], _, h => by simp [entsS] at h
/-- One more entry. -/
theorem Mp.add {P : Program} {t kt et : TypeId} {k : ByteArray} {x : Int} {K : Unit → Hp → Prop} (h : Mp H p S ms) (ht : P.underlying t = some (.map kt et)) (hk : P.underlying kt = some .string) (hn : mget k ms = none)
    (hK : ∀ H', Mp H' p S (ms ++ [(k, x)]) → OffS S H H' → K () H') : hp P (Instr.mapUpdate t p (.string k) (.int .i64 x)) H K := by
  obtain ⟨r, es, c, rfl, hr, he, hS⟩ := h
  have e := findS_mget k es.toList ms 0 he
  have hf : findS k es.toList 0 = none := by
    rw [hn] at e
    cases h : findS k es.toList 0 with
    | none => rfl
    | some x => rw [h] at e; simp at e
  refine hp_mapUpdate_new ht hk hr (entsS_keys he) hf ?_
  refine hK _ ⟨r, _, c + 1, rfl, Hp.put_same _ _ _, ?_, hS⟩ (fun b o hb hn => ?_)
  · unfold entsS at he ⊢
    rw [Array.toList_push, List.map_append, he, List.map_append]; rfl
  · rw [Hp.put_ne _ _ (by rintro rfl; exact hn ((hS _).mpr rfl))]; exact hb
end
end Go.Proofs.YtffmfkpobjdmmaaGreatDoor.HL
/- Bytes in slices. -/
namespace Go.Proofs.YtffmfkpobjdmmaaGreatDoor.HL
abbrev eU : Int → Value := .int .u8
end Go.Proofs.YtffmfkpobjdmmaaGreatDoor.HL
/- Bytes told as texts. -/
namespace Go.Proofs.YtffmfkpobjdmmaaGreatDoor.HL
set_option maxRecDepth 100000
def bytesS (s : ByteArray) (l : List Int) : ByteArray := l.foldl (fun s n => s.push (UInt8.ofNat n.toNat)) s
theorem val_bytesFrom (P : Program) (H : Hp) : ∀ (l : List Int) (s : ByteArray),
    val P (forIn (l.map eU) s fun c r => (match c with
      | Value.int IntKind.u8 n => pure (ForInStep.yield (r.push (UInt8.ofNat n.toNat)))
      | _ => do
        stuck "bytesToString: byte expected"
        pure (ForInStep.yield r) : Sem (ForInStep ByteArray))) H = some (bytesS s l)
  | [], s => rfl
  | n :: l, s => by
    simp only [List.map_cons, List.forIn_cons, val_bind', val_pure, Option.bind_some]
    exact val_bytesFrom P H l _
theorem val_bytesToString {P : Program} {H : Hp} {v : Value} {l : List Int} (h : Sl eU H v l) : val P (Conv.bytesToString v) H = some (.string (bytesS .empty l)) := by
  have hf := h.firstC
  obtain ⟨a, c, rfl, hc, hr⟩ := h
  cases a with
  | none =>
    have : l = [] := by
      cases l with
      | nil => rfl
      | cons x r => obtain ⟨ad, e, _⟩ := hr 0 (by simp); simp at e
    subst this
    rfl
  | some ad =>
    simp only [HL.firstC, Nat.mul_one] at hf
    unfold Conv.bytesToString
    simp only [val_bind', val_loadCells P H ad l.length _ hf, Option.bind_some]
    have := val_bytesFrom P H l .empty
    simp only [List.forIn_toArray]
    exact Eq.trans (congrArg (fun o => Option.bind o (fun v => val P (pure (Value.string v)) H)) this) rfl
theorem bytesS_data : ∀ (l : List Int) (s : ByteArray), (bytesS s l).data.toList = s.data.toList ++ l.map fun n => UInt8.ofNat n.toNat
  | [], s => by simp [bytesS]
  | n :: l, s => by
    have := bytesS_data l (s.push (UInt8.ofNat n.toNat))
    simp only [bytesS, List.foldl_cons, List.map_cons] at this ⊢
    rw [this, ByteArray.data_push, Array.toList_push, List.append_assoc]; rfl
end Go.Proofs.YtffmfkpobjdmmaaGreatDoor.HL
/- What the small functions of structs come to: copies, sizes, what is alike. -/
namespace Go.Proofs.YtffmfkpobjdmmaaGreatDoor
open HL
set_option maxRecDepth 100000
theorem C.laws_toField {xa : Int} {xb : Int} {xc : Value} {sxc : List Int} {H : Hp} {K : Value → Hp → Prop} (hxc0 : Sl eI H xc sxc) (msxc : (sxc).length ≤ 17592186044416)
    (hk : ∀ uc H', Own eI H' uc sxc → Nw H uc → Le H H' → K (.agg #[(.int .i64 (xa)), (.int .i64 (xb)), uc]) H') : HT prg I.laws_toField [(.agg #[(.int .i64 (xa)), (.int .i64 (xb)), xc])].toArray H K := by
 have lE := Le.refl H
 have hxc := hxc0
 refine R.laws_toField ?_
 unfold F.laws_toField
 refine nw_i (fun p1 H2 op1 nn3 le4 => ?_)
 replace hxc := hxc.le le4
 replace lE := lE.trans le4
 replace op1 : Cel H2 p1 [(.int .i64 (xa)), (.int .i64 (xb)), xc] := op1
 refine nw_i (fun p5 H6 op5 nn7 le8 => ?_)
 have np5 : Nw H p5 := nn7.le lE
 replace op1 := op1.le le8
 replace hxc := hxc.le le8
 replace lE := lE.trans le8
 replace op5 : Cel H6 p5 [(.int .i64 (0)), (.int .i64 (0)), (.slice none 0 0)] := op5
 refine nw_i (fun p9 H10 op9 nn11 le12 => ?_)
 have ap1Xp9 : Apart p1 p9 := op1.apart nn11
 have ap5Xp9 : Apart p5 p9 := op5.apart nn11
 have np9 : Nw H p9 := nn11.le lE
 replace op1 := op1.le le12
 replace op5 := op5.le le12
 replace hxc := hxc.le le12
 replace lE := lE.trans le12
 replace op9 : Cel H10 p9 [(.int .i64 (0)), (.int .i64 (0)), (.slice none 0 0)] := op9
 refine ob_i (op1.fa 0) ?_
 refine ob_i (op1.ld 0 rfl) ?_
 refine ob_i (op9.fa 0) ?_
 refine op9.st (by simp) rfl rfl (fun H13 op9 off14 => ?_)
 replace op1 := op1.off off14 ap1Xp9
 replace op5 := op5.off off14 ap5Xp9
 replace hxc := hxc0.le (off14.le lE np9)
 replace lE := off14.le lE np9
 replace op9 : Cel H13 p9 [(.int .i64 (xa)), (.int .i64 (0)), (.slice none 0 0)] := op9
 refine ob_i (op1.fa 1) ?_
 refine ob_i (op1.ld 1 rfl) ?_
 refine ob_i (op9.fa 1) ?_
 refine op9.st (by simp) rfl rfl (fun H15 op9 off16 => ?_)
 replace op1 := op1.off off16 ap1Xp9
 replace op5 := op5.off off16 ap5Xp9
 replace hxc := hxc0.le (off16.le lE np9)
 replace lE := off16.le lE np9
 replace op9 : Cel H15 p9 [(.int .i64 (xa)), (.int .i64 (xb)), (.slice none 0 0)] := op9
 refine ob_i (op1.fa 2) ?_
 refine ob_i (op1.ld 2 rfl) ?_
 refine C.laws_toInt64S hxc (by omega) (fun u17 H18 ou17 nn19 le20 => ?_)
 have ap5Xu17 : Apart p5 u17 := op5.apart nn19
 have ap9Xu17 : Apart p9 u17 := op9.apart nn19
 have nu17 : Nw H u17 := nn19.le lE
 replace op5 := op5.le le20
 replace op9 := op9.le le20
 replace hxc := hxc.le le20
 replace lE := lE.trans le20
 refine ob_i (op9.fa 2) ?_
 refine op9.st (by simp) ou17.one ou17.cells (fun H21 op9 off22 => ?_)
 replace op5 := op5.off off22 ap5Xp9
 replace ou17 := ou17.off off22 ap9Xu17.symm
 replace hxc := hxc0.le (off22.le lE np9)
 replace lE := off22.le lE np9
 replace op9 : Cel H21 p9 [(.int .i64 (xa)), (.int .i64 (xb)), u17] := op9
 refine ob_i (op9.ldn rfl) ?_
 refine op5.stn (ws := [(.int .i64 (xa)), (.int .i64 (xb)), u17]) rfl rfl (oc1 rfl (oc1 rfl (oc1 ou17.one oc0))) (fun H23 op5 off24 => ?_)
 replace ou17 := ou17.off off24 ap5Xu17.symm
 replace hxc := hxc0.le (off24.le lE np5)
 replace lE := off24.le lE np5
 replace op5 : Cel H23 p5 [(.int .i64 (xa)), (.int .i64 (xb)), u17] := op5
 refine ob_i (op5.ldn rfl) ?_
 exact hk u17 _ ou17 nu17  lE

theorem C.laws_szField {xa : Int} {xb : Int} {xc : Value} {sxc : List Int} {k : Int} {H : Hp} {K : Value → Hp → Prop} (hxc0 : Sl eI H xc sxc) (msxc : (sxc).length ≤ 9223372036854775807) (hk0 : 0 ≤ k) (hk1 : k < 9223372036854775808) (h1 : ∀ H', Le H H' → K (.int .i64 (-1)) H')
    (h2 : ∀ H', Le H H' → 0 ≤ k - (sxc).length → K (.int .i64 (k - (sxc).length)) H') : HT prg I.laws_szField [(.agg #[(.int .i64 (xa)), (.int .i64 (xb)), xc]), .int .i64 k].toArray H K := by
 have lE := Le.refl H
 have hxc := hxc0
 refine R.laws_szField ?_
 unfold F.laws_szField
 refine nw_i (fun p1 H2 op1 nn3 le4 => ?_)
 replace hxc := hxc.le le4
 replace lE := lE.trans le4
 replace op1 : Cel H2 p1 [(.int .i64 (xa)), (.int .i64 (xb)), xc] := op1
 refine ob_i (op1.fa 2) ?_
 refine ob_i (op1.ld 2 rfl) ?_
 refine C.laws_szInt64S hxc.len (by omega) (by omega) (fun hz5 => ?_) (fun hz5 => ?_)
 ·skip
  refine ob_i (vInt_lss_t (by omega)) ?_
  refine cnd_t1 ?_
  exact h1 _ lE
 refine ob_i (vInt_lss_f (by omega)) ?_
 refine cnd_f1 ?_
 exact h2 _ lE (by omega)

theorem C.laws_eqField {xa : Int} {xb : Int} {xc : Value} {sxc : List Int} {yc : Value} {H : Hp} {K : Value → Hp → Prop} (hxc0 : Sl eI H xc sxc) (hyc0 : Sl eI H yc sxc) (msxc : (sxc).length ≤ 9223372036854775807)
    (hk : ∀ H', Le H H' → K (.bool true) H') : HT prg I.laws_eqField [(.agg #[(.int .i64 (xa)), (.int .i64 (xb)), xc]), (.agg #[(.int .i64 (xa)), (.int .i64 (xb)), yc])].toArray H K := by
 have lE := Le.refl H
 have hxc := hxc0
 have hyc := hyc0
 refine R.laws_eqField ?_
 unfold F.laws_eqField
 refine nw_i (fun p1 H2 op1 nn3 le4 => ?_)
 replace hxc := hxc.le le4
 replace hyc := hyc.le le4
 replace lE := lE.trans le4
 replace op1 : Cel H2 p1 [(.int .i64 (xa)), (.int .i64 (xb)), xc] := op1
 refine nw_i (fun p5 H6 op5 nn7 le8 => ?_)
 replace op1 := op1.le le8
 replace hxc := hxc.le le8
 replace hyc := hyc.le le8
 replace lE := lE.trans le8
 replace op5 : Cel H6 p5 [(.int .i64 (xa)), (.int .i64 (xb)), yc] := op5
 refine ob_i (op1.fa 0) ?_
 refine ob_i (op1.ld 0 rfl) ?_
 refine ob_i (op5.fa 0) ?_
 refine ob_i (op5.ld 0 rfl) ?_
 refine ob_i (vInt_neq_same _ _) ?_
 refine cnd_f1 ?_
 refine ob_i (op1.fa 1) ?_
 refine ob_i (op1.ld 1 rfl) ?_
 refine ob_i (op5.fa 1) ?_
 refine ob_i (op5.ld 1 rfl) ?_
 refine ob_i (vInt_neq_same _ _) ?_
 refine cnd_f1 ?_
 refine ob_i (op1.fa 2) ?_
 refine ob_i (op1.ld 2 rfl) ?_
 refine ob_i (op5.fa 2) ?_
 refine ob_i (op5.ld 2 rfl) ?_
 refine C.laws_eqInt64S hxc hyc (by omega) ?_
 rw [decide_eq_true rfl]
 refine ob_i (a := .bool false) rfl ?_
 refine cnd_f1 ?_
 exact hk _ lE
end Go.Proofs.YtffmfkpobjdmmaaGreatDoor
/- Slices of fields that are compared, marked and held. -/
namespace Go.Proofs.YtffmfkpobjdmmaaGreatDoor
open HL
set_option maxRecDepth 100000
namespace HL
theorem at_get {α : Type} (d : α) {l : List α} {i : Nat} (h : i < l.length) : at_ d l (i : Int) = l[i] := by
  unfold at_; rw [List.getD_eq_getElem?_getD, Int.toNat_natCast, List.getElem?_eq_getElem h]; rfl
/-- A new row of elements. -/
theorem bSE_i {α : Type} {enc : α → List Value} {n len : Nat} {z : Array Value} {e : TypeId} {parts : List (Nat × Value)} {l : List α} {H : Hp} {K : Value → Hp → Prop} (h1 : len * n ≤ 1000000) (hl : l.length = len) (hn : ∀ x, (enc x).length = n)
    (hf : Instr.fill (fun i => some (i * n, n)) (if len * n = 0 then #[] else zrow z (len * n)) parts = some (l.flatMap enc).toArray) (hk : ∀ v H', OwnE n enc H' v l → Nw H v → Le H H' → K v H') : bS n len z e parts H K := by
  refine ⟨by omega, ?_⟩
  rw [hf]
  intro r hr
  subst hl
  have fl := flat_len hn l
  refine hk _ _ ⟨some ⟨r, 0, none⟩, l.length, rfl, Nat.le_refl _, fun _ => ⟨r, 0, _, e, rfl, Hp.put_same _ _ _, by simp only [List.size_toArray]; omega, fun i hi => by simp []⟩⟩ ?_ (Le.put _ hr)
  intro b hb
  simp only [bk] at hb
  split at hb
  · simp at hb
  · simp only [Option.some.injEq] at hb; subst hb; exact hr
/-- Fields that are read. -/
def FamS (H : Hp) (v : Value) (fs : List FdL) : Prop := ∃ L, SlE 3 encFv H v L ∧ RelF (Sl eI H) L fs
section
variable {H H' : Hp} {v : Value} {S : Rg} {fs : List FdL}
theorem Fam.sl (h : Fam H v S fs) : FamS H v fs := by
  obtain ⟨L, h1, h2, _⟩ := h
  exact ⟨L, h1.sl encFv_n, h2.imp (fun _ _ _ h => h.sl)⟩
theorem FamS.le (h : FamS H v fs) (hl : Le H H') : FamS H' v fs := by
  obtain ⟨L, h1, h2⟩ := h
  exact ⟨L, h1.le hl, h2.imp (fun _ _ _ h => h.le hl)⟩
theorem FamS.len (h : FamS H v fs) : vLenSl v = some (.int .i64 fs.length) := by
  obtain ⟨L, h1, h2⟩ := h
  rw [h1.len, h2.len]
theorem FamS.one (h : FamS H v fs) : oneCell v = true := by obtain ⟨L, h1, _⟩ := h; exact h1.one
theorem FamS.cells (h : FamS H v fs) : v.cells = #[v] := by obtain ⟨L, h1, _⟩ := h; exact h1.cells
theorem FamS.cast {gs : List FdL} (e : fs = gs) (h : FamS H v fs) : FamS H v gs := e ▸ h
theorem FamS.ix (h : FamS H v fs) {i : Int} (h0 : 0 ≤ i) (h1 : i < fs.length) : vIx 3 v (.int .i64 i) = some (ptrE 3 v i) := by
  obtain ⟨L, g1, g2⟩ := h
  exact g1.ix encFv_n (by omega) h0 (by rw [g2.len]; exact h1)
theorem FamS.at_ (h : FamS H v fs) {i : Nat} (h1 : i < fs.length) : ∃ x, vLoadN 3 (ptrE 3 v i) H = some (.agg #[.int .i64 (at_ fd0 fs (i : Int)).r, .int .i64 (at_ fd0 fs (i : Int)).c, x]) ∧ Sl eI H x (at_ fd0 fs (i : Int)).l ∧
    vLoad (fp (ptrE 3 v i) 0) H = some (.int .i64 (at_ fd0 fs (i : Int)).r) ∧ vLoad (fp (ptrE 3 v i) 1) H = some (.int .i64 (at_ fd0 fs (i : Int)).c) ∧ vLoad (fp (ptrE 3 v i) 2) H = some x ∧ vFa 0 (ptrE 3 v i) = some (fp (ptrE 3 v i) 0) ∧ vFa 1 (ptrE 3 v i) = some (fp (ptrE 3 v i) 1) ∧ vFa 2 (ptrE 3 v i) = some (fp (ptrE 3 v i) 2) := by
  obtain ⟨L, g1, g2⟩ := h
  have hi : (i : Int) < L.length := by rw [g2.len]; omega
  obtain ⟨e1, e2, e3⟩ := g2.get (i := i) (by omega)
  have e := g1.ldn encFv_n (by omega) fv0 (i := (i : Int)) (by omega) hi
  refine ⟨_, ?_, e3, ?_, ?_, ?_, g1.fa encFv_n (by omega) (by omega) hi 0, g1.fa encFv_n (by omega) (by omega) hi 1, g1.fa encFv_n (by omega) (by omega) hi 2⟩
  · rw [e]; simp only [encFv, e1, e2]
  · rw [g1.ld encFv_n (by omega) fv0 (by omega) hi (k := 0) (by omega) rfl, e1]
  · rw [g1.ld encFv_n (by omega) fv0 (by omega) hi (k := 1) (by omega) rfl, e2]
  · exact g1.ld encFv_n (by omega) fv0 (by omega) hi (k := 2) (by omega) rfl
theorem RelF.set : ∀ {P : Value → List Int → Prop} {L : List Fv} {fs : List FdL} {i : Nat} {x : Fv} {f : FdL}, RelF P L fs → (x.r = f.r ∧ x.c = f.c ∧ P x.v f.l) → RelF P (L.set i x) (fs.set i f)
  | P, [], [], i, x, f, _, _ => trivial
  | P, y :: L, g :: fs, 0, x, f, h, hx => ⟨hx, h.2⟩
  | P, y :: L, g :: fs, i + 1, x, f, h, hx => ⟨h.1, RelF.set h.2 hx⟩
  | _, [], _ :: _, _, _, _, h, _ => h.elim
  | _, _ :: _, [], _, _, _, h, _ => h.elim
theorem RelF.gete {P : Value → List Int → Prop} {L : List Fv} {fs : List FdL} {i : Nat} (h : RelF P L fs) (h1 : i < L.length) (h2 : i < fs.length) : L[i].r = fs[i].r ∧ L[i].c = fs[i].c ∧ P L[i].v fs[i].l := by
  have := h.get h1
  rw [at_get fv0 h1, at_get fd0 h2] at this
  exact this
/-- The cells of one of them, and what is put back. -/
theorem Fam.cut (h : Fam H v S fs) {i : Nat} (hi : i < fs.length) : ∃ x, vLoad (fp (ptrE 3 v (i : Int)) 2) H = some x ∧ Own eI H x fs[i].l ∧ ∀ H' m, Own eI H' x m → Off x H H' → Fam H' v S (fs.set i ⟨fs[i].r, fs[i].c, m⟩) ∧ OffS S H H' := by
  obtain ⟨L, h1, h2, h3, h4, h5⟩ := h
  have hi' : i < L.length := by rw [h2.len]; exact hi
  have g := h2.gete hi' hi
  have hx : ∀ b, bk L[i].v = some b → S b := fun b hb => (h5 b).mpr (.inr ⟨_, List.getElem_mem hi', hb⟩)
  refine ⟨L[i].v, ?_, g.2.2, fun H' m om off => ⟨⟨L, h1.off off (h3 _ (List.getElem_mem hi')), ?_, h3, h4, h5⟩, fun b o hb hn => off b o hb (fun e => hn (hx b e))⟩⟩
  · have := (h1.sl encFv_n).ld encFv_n (by omega) fv0 (i := (i : Int)) (by omega) (by omega) (k := 2) (by omega) (x := L[i].v) (by rw [at_get fv0 hi']; rfl)
    exact this
  · have key : ∀ (L : List Fv) (fs : List FdL) (i : Nat) (hi : i < L.length) (hi2 : i < fs.length), RelF (Own eI H) L fs → L.Pairwise (fun x y => Apart x.v y.v) → Off L[i].v H H' → Own eI H' L[i].v m → RelF (Own eI H') L (fs.set i ⟨fs[i].r, fs[i].c, m⟩) := by
      intro L
      induction L with
      | nil => intro fs i hi; simp at hi
      | cons x L ih =>
        intro fs i hi hi2 hr hp hoff ho
        cases fs with
        | nil => simp at hi2
        | cons f fs =>
          rw [List.pairwise_cons] at hp
          cases i with
          | zero =>
            refine ⟨⟨hr.1.1, hr.1.2.1, ho⟩, hr.2.imp (fun y hy _ h => h.off hoff (fun b e1 e2 => hp.1 y hy b e2 e1))⟩
          | succ i =>
            have hi3 : i < L.length := by simpa using hi
            refine ⟨⟨hr.1.1, hr.1.2.1, hr.1.2.2.off hoff (hp.1 _ (List.getElem_mem hi3))⟩, ih fs i hi3 (by simpa using hi2) hr.2 hp.2 hoff ho⟩
    exact key L fs i hi' hi h2 h4 off om
end
end HL
end Go.Proofs.YtffmfkpobjdmmaaGreatDoor
/- Pointers that are only read; elements of a family; texts as keys. -/
namespace Go.Proofs.YtffmfkpobjdmmaaGreatDoor
open HL
set_option maxRecDepth 100000
namespace HL
/-- A pointer to cells that are read. -/
def CelR (H : Hp) (p : Value) (cs : List Value) : Prop := ∃ a, p = .pointer (some a) ∧ (∃ o, H a.block = some o) ∧ ∀ i (h : i < cs.length), H.cell? (a.add i) = some cs[i]
section
variable {H H' : Hp} {p u v : Value} {cs : List Value}
theorem Cel.r (h : Cel H p cs) : CelR H p cs := by
  obtain ⟨r, e, rfl, hr⟩ := h
  refine ⟨_, rfl, ⟨_, hr⟩, fun i hi => ?_⟩
  simp only [add_none, Hp.cell?, hr, Nat.zero_add]
  simp [hi]
theorem CelR.known (h : CelR H p cs) : ∀ b, bk p = some b → ∃ o, H b = some o := by
  obtain ⟨a, rfl, ho, _⟩ := h
  intro b hb
  simp only [bk, Option.some.injEq] at hb
  subst hb; exact ho
theorem CelR.le (h : CelR H p cs) (hl : Le H H') : CelR H' p cs := by
  obtain ⟨a, rfl, ⟨o, ho⟩, hc⟩ := h
  exact ⟨a, rfl, ⟨o, hl _ _ ho⟩, fun i hi => hl.cell (hc i hi)⟩
theorem CelR.keep (h : CelR H p cs) (hk : ∀ b, bk p = some b → H' b = H b) : CelR H' p cs := by
  obtain ⟨a, rfl, ⟨o, ho⟩, hc⟩ := h
  have e := hk a.block rfl
  refine ⟨a, rfl, ⟨o, by rw [e]; exact ho⟩, fun i hi => ?_⟩
  have := hc i hi
  unfold Hp.cell? at this ⊢
  rw [add_block] at this ⊢
  rw [e]; exact this
theorem CelR.off (h : CelR H p cs) (ho : Off v H H') (ha : Apart p v) : CelR H' p cs := h.keep fun b hb => by
  obtain ⟨o, hh⟩ := h.known b hb
  rw [ho b o hh (ha b hb), hh]
theorem CelR.offS {S : Rg} (h : CelR H p cs) (ho : OffS S H H') (ha : Apt p S) : CelR H' p cs := h.keep fun b hb => by
  obtain ⟨o, hh⟩ := h.known b hb
  rw [ho b o hh (ha b hb), hh]
theorem CelR.apart (h : CelR H p cs) (hn : Nw H v) : Apart p v := Apart.of_nw h.known hn
theorem CelR.fa (h : CelR H p cs) (k : Nat) : vFa k p = some (fp p k) := by
  obtain ⟨a, rfl, _⟩ := h; rfl
theorem CelR.nilC (h : CelR H p cs) : vNilC p = some p := by
  obtain ⟨a, rfl, _⟩ := h; rfl
theorem CelR.ld (h : CelR H p cs) (k : Nat) {x : Value} (hx : cs[k]? = some x) : vLoad (fp p k) H = some x := by
  obtain ⟨a, rfl, _, hc⟩ := h
  obtain ⟨hk, rfl⟩ := List.getElem?_eq_some_iff.mp hx
  exact hc k hk
theorem CelR.ld0 (h : CelR H p cs) {x : Value} (hx : cs[0]? = some x) : vLoad p H = some x := by
  obtain ⟨a, rfl, _, hc⟩ := h
  obtain ⟨hk, rfl⟩ := List.getElem?_eq_some_iff.mp hx
  have := hc 0 hk
  rw [show a.add 0 = a by unfold Addr.add; simp] at this
  exact this
theorem CelR.ldn (h : CelR H p cs) {n : Nat} (hn : cs.length = n) : vLoadN n p H = some (.agg cs.toArray) := by
  obtain ⟨a, rfl, _, hc⟩ := h
  simp only [vLoadN]
  rw [rd_cells (enc := id) a n 0 cs hn (fun i hi => by rw [Nat.zero_add]; exact hc i hi)]
  simp
theorem CelR.cast {ds : List Value} (e : cs = ds) (h : CelR H p cs) : CelR H p ds := e ▸ h
end
theorem OwnE.blk {n : Nat} {α : Type} {enc : α → List Value} {H : Hp} {v : Value} {l : List α} (h : OwnE n enc H v l) (hn : ∀ x, (enc x).length = n) (n0 : 0 < n) {i : Nat} (hi : i < l.length) :
    ∃ a c, v = .slice (some a) l.length c ∧ (∃ o, H a.block = some o) ∧ bk v = some a.block ∧ ∀ j (hj : j < n), H.cell? (a.add (i * n + j)) = (enc l[i])[j]? := by
  have hs := h.sl hn
  obtain ⟨a, c, e, hc⟩ := hs.base hn n0 hi
  have hb : bk v = some a.block := by
    obtain ⟨a', c', e', h1, _⟩ := h
    rw [e] at e'
    simp only [Value.slice.injEq] at e'
    rw [e]
    simp only [bk]
    rw [if_neg (by omega)]
  exact ⟨a, c, e, h.known _ hb, hb, hc⟩
/-- An element of a family, by its pointer. -/
theorem Fam.el {H : Hp} {v : Value} {S : Rg} {fs : List FdL} {f : FdL} (h : Fam H v S fs) {i : Int} (i0 : 0 ≤ i) (i1 : i < fs.length) (e : at_ fd0 fs i = f) :
    ∃ P x, vIx 3 v (.int .i64 i) = some P ∧ CelR H P [.int .i64 f.r, .int .i64 f.c, x] ∧ Ro eI H x f.l ∧ (∀ b, bk P = some b → S b) ∧ (∀ b, bk x = some b → S b) := by
  obtain ⟨L, h1, h2, h3, h4, h5⟩ := h
  obtain ⟨n, rfl⟩ := Int.eq_ofNat_of_zero_le i0
  have hl := h2.len
  have hn : n < L.length := by omega
  obtain ⟨g1, g2, g3⟩ := h2.get hn
  obtain ⟨a, c, rfl, ho, hb, hc⟩ := h1.blk encFv_n (by omega) hn
  have hx := at_get fv0 hn
  subst e
  refine ⟨.pointer (some (a.add (n * 3))), (at_ fv0 L (n : Int)).v, ?_, ⟨_, rfl, by rw [add_block]; exact ho, fun j hj => ?_⟩, g3.ro, fun b hb2 => ?_, fun b hb2 => ?_⟩
  · simp only [vIx]
    rw [if_pos (by omega)]; rfl
  · simp only [List.length_cons, List.length_nil] at hj
    rw [add_add, hc j (by omega), ← hx]
    simp only [encFv]
    have hj3 : j = 0 ∨ j = 1 ∨ j = 2 := by omega
    rcases hj3 with rfl | rfl | rfl
    · simp [g1]
    · simp [g2]
    · simp
  · simp only [bk, add_block, Option.some.injEq] at hb2
    subst hb2
    exact (h5 _).mpr (.inl hb)
  · exact (h5 _).mpr (.inr ⟨_, at_mem fv0 L (by omega) (by omega), hb2⟩)
theorem Apt.ap2 {α : Type} [Bks α] {z : α} {u u' : Value} {H : Hp} (hz : Kn H z) (ha : Apt z u) (hb : ∀ b, bk u' = some b → bk u = some b ∨ H b = none) : Apt z u' := fun b h1 h2 => by
  rcases hb b h2 with h | h
  · exact ha b h1 h
  · obtain ⟨o, ho⟩ := hz b h1
    rw [h] at ho; simp at ho
theorem Mp.cast {H : Hp} {p : Value} {S : Rg} {ms ns : List (ByteArray × Int)} (e : ms = ns) (h : Mp H p S ms) : Mp H p S ns := e ▸ h
def cvBS (P : Program) (s d : TypeId) : Bool := match P.underlying s, P.underlying d with
  | some (.slice e), some .string => (match P.underlying e with | some (.int .u8) => true | _ => false)
  | _, _ => false
theorem val_convBS {P : Program} {s d : TypeId} {H : Hp} {v : Value} {l : List Int} (h : cvBS P s d = true) (hs : Sl eU H v l) : val P (convert s d v) H = some (.string (bytesS .empty l)) := by
  unfold cvBS at h
  split at h
  · rename_i e h1 h2
    split at h
    · rename_i h3
      have hv := val_bytesToString (P := P) hs
      obtain ⟨a, n, c, rfl⟩ := hs.isSl
      unfold convert
      rw [val_bind', val_underlying, h1, Option.bind_some, val_bind', val_underlying, h2, Option.bind_some]
      simp only
      rw [val_bind', val_underlying, h3, Option.bind_some]
      exact hv
    · simp at h
  · simp at h
theorem vCI_u8 {k : IntKind} {a : Int} (h : 0 ≤ a) (h' : a ≤ 255) : vCI .u8 (.int k a) = some (.int .u8 a) := by
  have : IntKind.u8.wrap a = a := by unfold IntKind.wrap; simp [IntKind.signed, IntKind.bits]; omega
  simp only [vCI, this]
end HL
end Go.Proofs.YtffmfkpobjdmmaaGreatDoor
/- Texts: bytes turned to texts, small numbers, the rows of a field. -/
namespace Go.Proofs.YtffmfkpobjdmmaaGreatDoor
open HL
set_option maxRecDepth 100000
namespace HL
def btT (l : List Int) : List UInt8 := l.map fun n => UInt8.ofNat n.toNat
theorem val_convT {P : Program} {s d : TypeId} {H : Hp} {v : Value} {l : List Int} (h : cvBS P s d = true) (hs : Sl eU H v l) : val P (convert s d v) H = some (vS (btT l)) := by
  rw [val_convBS h hs, tS_of (bytesS .empty l), bytesS_data]
  rfl
theorem Cel.castX {H : Hp} {p : Value} {cs ds : List Value} (e : cs = ds) (h : Cel H p cs) : Cel H p ds := e ▸ h
end HL
def digT : List UInt8 := [48, 49, 50, 51, 52, 53, 54, 55, 56, 57, 97, 98, 99, 100, 101, 102, 103, 104, 105, 106, 107, 108, 109, 110, 111, 112, 113, 114, 115, 116, 117, 118, 119, 120, 121, 122]
def dig2T : List UInt8 := [48, 48, 48, 49, 48, 50, 48, 51, 48, 52, 48, 53, 48, 54, 48, 55, 48, 56, 48, 57, 49, 48, 49, 49, 49, 50, 49, 51, 49, 52, 49, 53, 49, 54, 49, 55, 49, 56, 49, 57, 50, 48, 50, 49, 50, 50, 50, 51, 50, 52, 50, 53, 50, 54, 50, 55, 50, 56, 50, 57, 51, 48, 51, 49, 51, 50, 51, 51, 51, 52, 51, 53, 51, 54, 51, 55, 51, 56, 51, 57, 52, 48, 52, 49, 52, 50, 52, 51, 52, 52, 52, 53, 52, 54, 52, 55, 52, 56, 52, 57, 53, 48, 53, 49, 53, 50, 53, 51, 53, 52, 53, 53, 53, 54, 53, 55, 53, 56, 53, 57, 54, 48, 54, 49, 54, 50, 54, 51, 54, 52, 54, 53, 54, 54, 54, 55, 54, 56, 54, 57, 55, 48, 55, 49, 55, 50, 55, 51, 55, 52, 55, 53, 55, 54, 55, 55, 55, 56, 55, 57, 56, 48, 56, 49, 56, 50, 56, 51, 56, 52, 56, 53, 56, 54, 56, 55, 56, 56, 56, 57, 57, 48, 57, 49, 57, 50, 57, 51, 57, 52, 57, 53, 57, 54, 57, 55, 57, 56, 57, 57]
theorem dig_one : ∀ n : Nat, n < 10 → (digT.drop n).take (n + 1 - n) = decT n := by decide +kernel
theorem dig_two : ∀ n : Nat, n < 100 → 10 ≤ n → (dig2T.drop (n * 2)).take (n * 2 + 2 - n * 2) = decT n := by decide +kernel
theorem small_one {n : Int} (h0 : 0 ≤ n) (h1 : n < 10) : (digT.drop n.toNat).take ((n + 1).toNat - n.toNat) = decT n.toNat := by
  have := dig_one n.toNat (by omega)
  rw [show (n + 1).toNat = n.toNat + 1 by omega]; exact this
theorem small_two {n : Int} (h0 : 10 ≤ n) (h1 : n < 100) : (dig2T.drop (n * 2).toNat).take ((n * 2 + 2).toNat - (n * 2).toNat) = decT n.toNat := by
  have := dig_two n.toNat (by omega) (by omega)
  rw [show (n * 2 + 2).toNat = n.toNat * 2 + 2 by omega, show (n * 2).toNat = n.toNat * 2 by omega]; exact this
theorem num_one {n : Int} (h0 : 0 ≤ n) (h1 : n < 10) : btT [48 + n] = decT n.toNat := by
  unfold btT decT
  rw [if_pos (by omega)]
  simp only [List.map_cons, List.map_nil]
  rw [show (48 + n).toNat = 48 + n.toNat by omega]
theorem num_two {n : Int} (h0 : 10 ≤ n) (h1 : n < 100) : decT (n / 10).toNat ++ btT [48 + n % 10] = decT n.toNat := by
  unfold btT decT
  rw [if_pos (by omega), if_neg (by omega)]
  simp only [List.map_cons, List.map_nil, List.singleton_append]
  rw [show (48 + n % 10).toNat = 48 + n.toNat % 10 by omega, show (n / 10).toNat = n.toNat / 10 by omega]
theorem bo_T {x : Int} (h0 : 0 ≤ x) (h1 : x ≤ 1) : (([98, 111] : List UInt8).drop x.toNat).take ((x + 1).toNat - x.toNat) = [chT x] := by
  rcases show x = 0 ∨ x = 1 by omega with rfl | rfl <;> rfl
theorem chT_1 {x : Int} (h : x = 1) : ([111] : List UInt8) = [chT x] := by subst h; rfl
theorem chT_0 {x : Int} (h : ¬ x = 1) : ([98] : List UInt8) = [chT x] := by unfold chT; rw [if_neg h]
/-- The rows' texts. -/
def rowsT (c : Nat) (l : List Int) (n : Nat) : List (List UInt8) := (List.range n).map fun i => rtx (rowL c l i)
theorem rowsT_len {c : Nat} {l : List Int} {n : Nat} : (rowsT c l n).length = n := by simp [rowsT]
theorem rowsT_succ {c : Nat} {l : List Int} {n : Nat} : rowsT c l (n + 1) = rowsT c l n ++ [rtx (rowL c l n)] := by simp [rowsT, List.range_succ]
theorem rowsT_flat {c : Nat} {l : List Int} : ∀ n : Nat, (rowsT c l n).flatten.length ≤ n * (3 * c)
  | 0 => by simp [rowsT]
  | n + 1 => by
    have ih := rowsT_flat (c := c) (l := l) n
    have h2 := rtx_len c (rowL c l n) (by unfold rowL; simp; omega)
    have h3 : (rowL c l n).length ≤ c := by unfold rowL; simp; omega
    rw [rowsT_succ]
    simp only [List.flatten_append, List.length_append, List.flatten_cons, List.flatten_nil, List.append_nil]
    rw [Nat.add_mul]
    omega
def joinR (c : Nat) (l : List Int) (n : Nat) : List UInt8 := joinT [36] (rowsT c l n)
theorem joinR_zero {c : Nat} {l : List Int} : joinR c l 0 = [] := rfl
theorem joinR_one {c : Nat} {l : List Int} {n : Nat} (h : n = 0) : joinR c l (n + 1) = rtx (rowL c l n) := by
  subst h
  simp [joinR, rowsT, joinT]
theorem joinR_succ {c : Nat} {l : List Int} {n : Nat} (h : 0 < n) : joinR c l (n + 1) = joinR c l n ++ [36] ++ rtx (rowL c l n) := by
  unfold joinR
  rw [rowsT_succ]
  exact joinT_snoc _ _ _ (fun he => by have := congrArg List.length he; rw [rowsT_len] at this; simp at this; omega)
theorem joinR_len {c : Nat} {l : List Int} : ∀ n : Nat, (joinR c l n).length ≤ n * (3 * c + 1)
  | 0 => by simp [joinR_zero]
  | n + 1 => by
    have ih := joinR_len (c := c) (l := l) n
    have h2 := rtx_len c (rowL c l n) (by unfold rowL; simp; omega)
    have h3 : (rowL c l n).length ≤ c := by unfold rowL; simp; omega
    rcases Nat.eq_zero_or_pos n with h | h
    · rw [joinR_one h, Nat.add_mul]; omega
    · rw [joinR_succ h, Nat.add_mul]; simp only [List.length_append, List.length_singleton]; omega
/-- What is written ahead of the rows. -/
def headT (r c : Int) : List UInt8 := decT c.toNat ++ [44] ++ decT r.toNat ++ [58]
theorem headT_len (r c : Int) : (headT r c).length ≤ 6 := by
  have := decT_len c.toNat
  have := decT_len r.toNat
  simp only [headT, List.length_append, List.length_singleton]
  omega
/-- A field's text. -/
def fieldT (r c : Int) (l : List Int) : List UInt8 := headT r c ++ joinR c.toNat l r.toNat ++ [33]
theorem row_mul {r c : Int} {i : Nat} (hs : sidesF r c) (hi : (i : Int) < r) : ((i * c.toNat : Nat) : Int) = (i : Int) * c ∧ 0 ≤ (i : Int) * c ∧ (i : Int) * c + c ≤ r * c ∧ ((i : Int) + 1) * c = (i : Int) * c + c := by
  obtain ⟨⟨_, _⟩, _, _⟩ := hs
  have e : ((i * c.toNat : Nat) : Int) = (i : Int) * c := by rw [Int.natCast_mul, Int.toNat_of_nonneg (by omega)]
  have h1 : ((i : Int) + 1) * c ≤ r * c := Int.mul_le_mul_of_nonneg_right (by omega) (by omega)
  have h2 : ((i : Int) + 1) * c = (i : Int) * c + c := by rw [Int.add_mul, Int.one_mul]
  refine ⟨e, ?_, by omega, h2⟩
  have := Int.mul_nonneg (show (0 : Int) ≤ i by omega) (show 0 ≤ c by omega)
  exact this
theorem row_eq {r c : Int} {l : List Int} {i : Nat} (hs : sidesF r c) (hi : (i : Int) < r) : (l.drop ((i : Int) * c).toNat).take ((((i : Int) + 1) * c).toNat - ((i : Int) * c).toNat) = rowL c.toNat l i := by
  obtain ⟨e, h0, h1, h2⟩ := row_mul hs hi
  unfold rowL
  rw [show ((i : Int) * c).toNat = i * c.toNat by omega, show (((i : Int) + 1) * c).toNat - i * c.toNat = c.toNat by have := hs.2.1; omega]
theorem row_01 {c : Nat} {l : List Int} {i : Nat} (h : ∀ x ∈ l, 0 ≤ x ∧ x ≤ 1) : ∀ x ∈ rowL c l i, 0 ≤ x ∧ x ≤ 1 := fun x hx => h x (List.mem_of_mem_drop (List.mem_of_mem_take hx))
theorem endP_back {row : List Int} {e : Nat} (h : endP row e) (he : 0 < e) (h0 : at_ 0 row ((e : Int) - 1) = 0) {d : Nat} (hd : d = e - 1) : endP row d := by
  subst hd
  refine ⟨by have := h.1; omega, fun q h1 h2 => ?_⟩
  rcases Nat.lt_or_ge q e with h3 | h3
  · rw [show (q : Int) = (e : Int) - 1 by omega]; exact h0
  · exact h.2 q h3 h2
end Go.Proofs.YtffmfkpobjdmmaaGreatDoor
/- Fields that are turned and mirrored. -/
namespace Go.Proofs.YtffmfkpobjdmmaaGreatDoor
open HL
set_option maxRecDepth 100000
def turG (r c : Int) (l : List Int) (x y : Int) : Int := at_ 0 l ((r - 1 - y) * c + x)
def turL (r c : Int) (l : List Int) : List Int := mkL r (turG r c l) (c.toNat * r.toNat)
def mirG (c : Int) (l : List Int) (x y : Int) : Int := at_ 0 l (x * c + (c - 1 - y))
def mirL (r c : Int) (l : List Int) : List Int := mkL c (mirG c l) (r.toNat * c.toNat)
theorem at_01 {l : List Int} (h : ∀ x ∈ l, 0 ≤ x ∧ x ≤ 1) (i : Int) : 0 ≤ at_ 0 l i ∧ at_ 0 l i ≤ 1 := by
  unfold at_
  rw [List.getD_eq_getElem?_getD]
  cases he : l[i.toNat]? with
  | none => simp
  | some y => exact h y (List.mem_of_getElem? he)
def turF (f : FdL) : FdL := ⟨f.c, f.r, turL f.r f.c f.l⟩
def mirF (f : FdL) : FdL := ⟨f.r, f.c, mirL f.r f.c f.l⟩
def okF (f : FdL) : Prop := fieldN 1 f.r f.c f.l
theorem turF_ok {f : FdL} (h : okF f) : okF (turF f) := mkL_field ⟨h.1.2, h.1.1⟩ (fun _ _ => at_01 h.2.2 _)
theorem mirF_ok {f : FdL} (h : okF f) : okF (mirF f) := mkL_field h.1 (fun _ _ => at_01 h.2.2 _)
def imK (f : FdL) : Nat → FdL
  | 0 => f
  | k + 1 => turF (imK f k)
theorem imK_ok {f : FdL} (h : okF f) : ∀ k, okF (imK f k)
  | 0 => h
  | k + 1 => turF_ok (imK_ok h k)
/-- The field of a side. -/
def imB (f : FdL) (i : Nat) : FdL := if i = 0 then f else mirF f
theorem imB_ok {f : FdL} (h : okF f) (i : Nat) : okF (imB f i) := by
  unfold imB
  split
  · exact h
  · exact mirF_ok h
def imgs (f : FdL) (n : Nat) : List FdL := (List.range n).map fun t => imK (imB f (t / 4)) (t % 4)
theorem imgs_len (f : FdL) (n : Nat) : (imgs f n).length = n := by simp [imgs]
theorem imgs_succ (f : FdL) {i k : Nat} (hk : k < 4) : imgs f (4 * i + k) ++ [⟨(imK (imB f i) k).r, (imK (imB f i) k).c, (imK (imB f i) k).l⟩] = imgs f (4 * i + k + 1) := by
  simp only [imgs, List.range_succ, List.map_append, List.map_cons, List.map_nil]
  rw [show (4 * i + k) / 4 = i by omega, show (4 * i + k) % 4 = k by omega]
theorem cut_all {r c : Int} {l : List Int} (h1 : 0 ≤ r) (h2 : 0 < c) (hl : (l.length : Int) = r * c) : mkL c (cutG c l 0 0) (r.toNat * c.toNat) = l := by
  have hl2 := mkL_len' (c := c) (g := cutG c l 0 0) (rr := r) (cc := c) h1 (by omega)
  apply List.ext_getElem
  · omega
  · intro j g1 g2
    have d := Int.mul_ediv_add_emod (j : Int) c
    rw [Int.mul_comm] at d
    simp only [mkL, List.getElem_map, List.getElem_range, cutG]
    rw [show (0 + (j : Int) / c) * c + 0 + (j : Int) % c = (j : Int) by rw [Int.zero_add]; omega, at_get 0 g2]
/-- What is told of the field of a round, and of the next one. -/
def gL (f : FdL) (i : Nat) : List Int := if i = 0 then f.l else if i = 1 then (mirF f).l else []
def hL (f : FdL) (i : Nat) : List Int := if i = 0 then (mirF f).l else []
theorem hgL (f : FdL) (i : Nat) : hL f i = gL f (i + 1) := by
  unfold hL gL
  rcases i with _ | i <;> simp
theorem gL_eq {f : FdL} {i : Nat} (h : i < 2) : gL f i = (imB f i).l := by
  rcases (by omega : i = 0 ∨ i = 1) with rfl | rfl <;> rfl
theorem imB_r (f : FdL) (i : Nat) : (imB f i).r = f.r := by unfold imB; split <;> rfl
theorem imB_c (f : FdL) (i : Nat) : (imB f i).c = f.c := by unfold imB; split <;> rfl
end Go.Proofs.YtffmfkpobjdmmaaGreatDoor
