/- Two fields put together: the program's and the reference's. -/
import Derived.Test.YtnndhafldmkdeaaTE
namespace Go.Proofs.Ytnndhafldmkdeaa
open HL
set_option maxRecDepth 100000
theorem mkL_congr {c : Int} {f g : Int → Int → Int} {N : Nat} (hc : 0 < c) (h : ∀ x y, 0 ≤ x → 0 ≤ y → y < c → x * c + y < N → f x y = g x y) : mkL c f N = mkL c g N := by
  unfold mkL
  apply List.map_congr_left
  intro j hj
  have := List.mem_range.mp hj
  have d := Int.mul_ediv_add_emod (j : Int) c
  rw [Int.mul_comm] at d
  exact h _ _ (Int.ediv_nonneg (by omega) (by omega)) (Int.emod_nonneg _ (by omega)) (Int.emod_lt_of_pos _ hc) (by omega)
theorem mkL_set {c : Int} {f : Int → Int → Int} {N : Nat} {i k v : Int} (hc : 0 < c) (k0 : 0 ≤ k) (k1 : k < c) (h : 0 ≤ i * c) : (mkL c f N).set (i * c + k).toNat v = mkL c (fun x y => if x = i ∧ y = k then v else f x y) N := by
  have hd := divmod (c := c) (i := i) (k := k) hc k0 k1
  apply List.ext_getElem?
  intro j
  rw [List.getElem?_set]
  simp only [mkL, List.getElem?_map, List.length_map, List.length_range]
  by_cases hj : j < N
  · rw [List.getElem?_range hj]
    simp only [Option.map_some]
    by_cases e : (i * c + k).toNat = j
    · rw [if_pos e, if_pos (by omega), if_pos]
      have ej : (j : Int) = i * c + k := by omega
      rw [ej]; exact hd
    · rw [if_neg e, if_neg]
      rintro ⟨h1, h2⟩
      have d := Int.mul_ediv_add_emod (j : Int) c
      rw [h1, h2, Int.mul_comm] at d
      omega
  · rw [List.getElem?_eq_none (by simpa using hj)]
    simp only [Option.map_none]
    split
    · rw [if_neg (by omega)]
    · rfl
theorem mkL_len {c : Int} {g : Int → Int → Int} {rr cc : Int} (h1 : 0 ≤ rr) (h2 : 0 ≤ cc) : ((mkL c g (rr.toNat * cc.toNat)).length : Int) = rr * cc := by
  rw [mkL_length, Int.natCast_mul, Int.toNat_of_nonneg h1, Int.toNat_of_nonneg h2]
theorem mkL_zero {c : Int} {N : Nat} : mkL c (fun _ _ => 0) N = List.replicate N 0 := by
  rw [List.eq_replicate_iff]
  refine ⟨mkL_length _ _ _, fun x hx => ?_⟩
  simp only [mkL, List.mem_map] at hx
  obtain ⟨j, _, rfl⟩ := hx
  rfl
theorem flatF_01 {r c : Int} {l : List Int} (h : fieldN 1 r c l) (x y : Int) : 0 ≤ flatF r c l x y ∧ flatF r c l x y ≤ 1 := by
  unfold flatF
  split
  · rename_i h1
    have b := ix_lt (a := x) (b := y) (r := r) (c := c) (by omega) (by omega) (by omega) (by omega)
    exact fieldN_at h (by omega) (by omega)
  · omega
/-- Two fields' cells. -/
def metG (ra ca : Int) (la : List Int) (rb cb : Int) (lb : List Int) (row col x y : Int) : Int := max (flatF ra ca la x y) (flatF rb cb lb (x - row) (y - col))
def metA (ca : Int) (la : List Int) (i k x y : Int) : Int := if (x < i ∧ y < ca) ∨ (x = i ∧ y < k) then at_ 0 la (x * ca + y) else 0
def metB (ra ca : Int) (la : List Int) (cb : Int) (lb : List Int) (row col i k x y : Int) : Int :=
  if ((0 ≤ x - row ∧ x - row < i ∧ 0 ≤ y - col ∧ y - col < cb) ∨ (x - row = i ∧ 0 ≤ y - col ∧ y - col < k)) ∧ at_ 0 lb ((x - row) * cb + (y - col)) = 1 then 1 else flatF ra ca la x y
def metO (ra ca rb cb row col : Int) : Prop := (0 ≤ row ∧ row ≤ 24) ∧ (0 ≤ col ∧ col ≤ 24) ∧ (1 ≤ max ra (row + rb) ∧ max ra (row + rb) ≤ 24) ∧ (1 ≤ max ca (col + cb) ∧ max ca (col + cb) ≤ 24)
def metOk (ra ca : Int) (la : List Int) (rb cb : Int) (lb : List Int) (row col : Int) : Prop := fieldN 1 ra ca la ∧ fieldN 1 rb cb lb ∧ metO ra ca rb cb row col
instance (ra ca rb cb row col : Int) : Decidable (metO ra ca rb cb row col) := by unfold metO; infer_instance
instance (ra ca : Int) (la : List Int) (rb cb : Int) (lb : List Int) (row col : Int) : Decidable (metOk ra ca la rb cb lb row col) := by unfold metOk; infer_instance
def metL0 (ra ca : Int) (la : List Int) (rb cb : Int) (lb : List Int) (row col : Int) : List Int := mkL (max ca (col + cb)) (metG ra ca la rb cb lb row col) ((max ra (row + rb)).toNat * (max ca (col + cb)).toNat)
def metL (ra ca : Int) (la : List Int) (rb cb : Int) (lb : List Int) (row col : Int) : List Int := if metOk ra ca la rb cb lb row col then metL0 ra ca la rb cb lb row col else []
def metI (x ra ca : Int) (la : List Int) (rb cb : Int) (lb : List Int) (row col : Int) : Int := if metOk ra ca la rb cb lb row col then x else 0
theorem metL_len {ra ca : Int} {la : List Int} {rb cb : Int} {lb : List Int} {row col : Int} : (metL ra ca la rb cb lb row col).length ≤ 576 := by
  unfold metL
  split
  · rename_i h
    obtain ⟨_, _, _, _, h3, h4⟩ := h
    unfold metL0
    rw [mkL_length]
    have := Nat.mul_le_mul (show (max ra (row + rb)).toNat ≤ 24 by omega) (show (max ca (col + cb)).toNat ≤ 24 by omega)
    omega
  · simp
theorem metA_zero {c ca : Int} {la : List Int} {N : Nat} (hc : 0 < c) (h : 0 ≤ ca) : List.replicate N 0 = mkL c (metA ca la 0 0) N := by
  rw [← mkL_zero (c := c)]
  apply mkL_congr hc
  intro x y h1 h2 _ _
  unfold metA
  rw [if_neg (by omega)]
theorem metA_set {c ca : Int} {la : List Int} {N : Nat} {i k : Int} (k0 : 0 ≤ k) (k1 : k < ca) (k2 : k < c) (i0 : 0 ≤ i) (h : 0 ≤ i * c) : (mkL c (metA ca la i k) N).set (i * c + k).toNat (at_ 0 la (i * ca + k)) = mkL c (metA ca la i (k + 1)) N := by
  rw [mkL_set (by omega) k0 k2 h]
  apply mkL_congr (by omega)
  intro x y h1 h2 _ _
  unfold metA
  by_cases e : x = i ∧ y = k
  · obtain ⟨rfl, rfl⟩ := e
    rw [if_pos ⟨rfl, rfl⟩, if_pos (by omega)]
  · rw [if_neg e]
    by_cases e2 : (x < i ∧ y < ca) ∨ (x = i ∧ y < k)
    · rw [if_pos e2, if_pos (by omega)]
    · rw [if_neg e2, if_neg (by omega)]
theorem metA_row {c ca : Int} {la : List Int} {N : Nat} {i k : Int} (hc : 0 < c) (k1 : k = ca) : mkL c (metA ca la i k) N = mkL c (metA ca la (i + 1) 0) N := by
  apply mkL_congr hc
  intro x y h1 h2 _ _
  unfold metA
  by_cases e2 : (x < i ∧ y < ca) ∨ (x = i ∧ y < k)
  · rw [if_pos e2, if_pos (by omega)]
  · rw [if_neg e2, if_neg (by omega)]
theorem metA_end {c ra ca cb : Int} {la lb : List Int} {row col : Int} {N : Nat} (hc : 0 < c) : mkL c (metA ca la ra 0) N = mkL c (metB ra ca la cb lb row col 0 0) N := by
  apply mkL_congr hc
  intro x y h1 h2 _ _
  unfold metA metB
  rw [if_neg (show ¬ (((0 ≤ x - row ∧ x - row < 0 ∧ 0 ≤ y - col ∧ y - col < cb) ∨ (x - row = 0 ∧ 0 ≤ y - col ∧ y - col < 0)) ∧ at_ 0 lb ((x - row) * cb + (y - col)) = 1) from fun h => by have := h.1; omega)]
  unfold flatF
  by_cases e2 : (x < ra ∧ y < ca) ∨ (x = ra ∧ y < 0)
  · rw [if_pos e2, if_pos (by omega)]
  · rw [if_neg e2, if_neg (by omega)]
theorem metB_set {c ra ca cb : Int} {la lb : List Int} {row col : Int} {N : Nat} {i k : Int} (k0 : 0 ≤ k) (k1 : k < cb) (k2 : col + k < c) (i0 : 0 ≤ i) (c0 : 0 ≤ col) (h : 0 ≤ (row + i) * c) (h1 : at_ 0 lb (i * cb + k) = 1) :
    (mkL c (metB ra ca la cb lb row col i k) N).set ((row + i) * c + col + k).toNat 1 = mkL c (metB ra ca la cb lb row col i (k + 1)) N := by
  rw [show (row + i) * c + col + k = (row + i) * c + (col + k) by omega, mkL_set (by omega) (by omega) k2 h]
  apply mkL_congr (by omega)
  intro x y _ _ _ _
  unfold metB
  by_cases e : x = row + i ∧ y = col + k
  · obtain ⟨rfl, rfl⟩ := e
    rw [if_pos ⟨rfl, rfl⟩, if_pos]
    rw [show row + i - row = i by omega, show col + k - col = k by omega]
    exact ⟨by omega, h1⟩
  · rw [if_neg e]
    by_cases e2 : ((0 ≤ x - row ∧ x - row < i ∧ 0 ≤ y - col ∧ y - col < cb) ∨ (x - row = i ∧ 0 ≤ y - col ∧ y - col < k)) ∧ at_ 0 lb ((x - row) * cb + (y - col)) = 1
    · rw [if_pos e2, if_pos ⟨by have := e2.1; omega, e2.2⟩]
    · rw [if_neg e2, if_neg (fun h => e2 ⟨by have := h.1; omega, h.2⟩)]
theorem metB_skip {c ra ca cb : Int} {la lb : List Int} {row col : Int} {N : Nat} {i k : Int} (hc : 0 < c) (h1 : ¬ at_ 0 lb (i * cb + k) = 1) :
    mkL c (metB ra ca la cb lb row col i k) N = mkL c (metB ra ca la cb lb row col i (k + 1)) N := by
  apply mkL_congr hc
  intro x y _ _ _ _
  unfold metB
  by_cases e : x - row = i ∧ y - col = k
  · obtain ⟨rfl, rfl⟩ := e
    rw [if_neg (fun h => h1 h.2), if_neg (fun h => h1 h.2)]
  · by_cases e2 : ((0 ≤ x - row ∧ x - row < i ∧ 0 ≤ y - col ∧ y - col < cb) ∨ (x - row = i ∧ 0 ≤ y - col ∧ y - col < k)) ∧ at_ 0 lb ((x - row) * cb + (y - col)) = 1
    · rw [if_pos e2, if_pos ⟨by have := e2.1; omega, e2.2⟩]
    · rw [if_neg e2, if_neg (fun h => e2 ⟨by have := h.1; omega, h.2⟩)]
theorem metB_row {c ra ca cb : Int} {la lb : List Int} {row col : Int} {N : Nat} {i k : Int} (hc : 0 < c) (i0 : 0 ≤ i) (k1 : k = cb) : mkL c (metB ra ca la cb lb row col i k) N = mkL c (metB ra ca la cb lb row col (i + 1) 0) N := by
  apply mkL_congr hc
  intro x y _ _ _ _
  unfold metB
  by_cases e2 : ((0 ≤ x - row ∧ x - row < i ∧ 0 ≤ y - col ∧ y - col < cb) ∨ (x - row = i ∧ 0 ≤ y - col ∧ y - col < k)) ∧ at_ 0 lb ((x - row) * cb + (y - col)) = 1
  · rw [if_pos e2, if_pos ⟨by have := e2.1; omega, e2.2⟩]
  · rw [if_neg e2, if_neg (fun h => e2 ⟨by have := h.1; omega, h.2⟩)]
theorem metB_end {c ra ca rb cb : Int} {la lb : List Int} {row col : Int} {N : Nat} (hc : 0 < c) (ha : fieldN 1 ra ca la) (hb : fieldN 1 rb cb lb) : mkL c (metB ra ca la cb lb row col rb 0) N = mkL c (metG ra ca la rb cb lb row col) N := by
  apply mkL_congr hc
  intro x y _ _ _ _
  have fa := flatF_01 ha x y
  have fb := flatF_01 hb (x - row) (y - col)
  unfold metB metG
  by_cases e : (0 ≤ x - row ∧ x - row ≤ rb - 1) ∧ 0 ≤ y - col ∧ y - col ≤ cb - 1
  · have e3 : flatF rb cb lb (x - row) (y - col) = at_ 0 lb ((x - row) * cb + (y - col)) := by unfold flatF; rw [if_pos e]
    rw [e3] at fb ⊢
    by_cases e4 : at_ 0 lb ((x - row) * cb + (y - col)) = 1
    · rw [if_pos ⟨by omega, e4⟩]; omega
    · rw [if_neg (fun h => e4 h.2)]; omega
  · have e3 : flatF rb cb lb (x - row) (y - col) = 0 := by unfold flatF; rw [if_neg e]
    rw [e3, if_neg (fun h => e (by have := h.1; omega))]; omega
theorem C.spec_l05Meet {p p2 va vb : Value} {ra ca rb cb row col : Int} {la lb : List Int} {H : Hp} {K : Value → Hp → Prop} (hp0 : Cel H p [.int .i64 ra, .int .i64 ca, va]) (hp20 : Cel H p2 [.int .i64 rb, .int .i64 cb, vb]) (hva0 : Sl eI H va la) (hvb0 : Sl eI H vb lb) (ha : fieldN 1 ra ca la) (hb : fieldN 1 rb cb lb)
    (hk1 : ¬ metO ra ca rb cb row col → ∀ H', Le H H' → K (.tuple #[.agg #[.int .i64 0, .int .i64 0, .slice none 0 0], .bool false]) H')
    (hk2 : metO ra ca rb cb row col → ∀ u H', Own eI H' u (metL0 ra ca la rb cb lb row col) → Nw H u → Le H H' → K (.tuple #[.agg #[.int .i64 (max ra (row + rb)), .int .i64 (max ca (col + cb)), u], .bool true]) H') : HT prg I.spec_l05Meet [p, p2, .int .i64 row, .int .i64 col].toArray H K := by
  have lE := Le.refl H
  have hp := hp0
  have hp2 := hp20
  have hva := hva0
  have hvb := hvb0
  refine R.spec_l05Meet ?_
  unfold F.spec_l05Meet
  have q1 := ha.1.1
  have q2 := ha.1.2
  have q3 := hb.1.1
  have q4 := hb.1.2
  have q5 := sidesF_mul ha.1
  have q6 := sidesF_mul hb.1
  have q7 := ha.2.1
  have q8 := hb.2.1
  refine nw_i (fun q H1 oq nn2 le3 => ?_)
  have nq : Nw H q := nn2.le lE
  replace hp := hp.le le3
  replace hp2 := hp2.le le3
  replace hva := hva.le le3
  replace hvb := hvb.le le3
  replace lE := lE.trans le3
  replace oq : Cel H1 q [(.int .i64 (0)), (.int .i64 (0)), (.slice none 0 0)] := oq
  refine C.spec_l00In  ?_
  refine ob_nd (fun hc4 => ?_) (fun hc4 => ?_)
  · skip
    refine gop_rf ?_
    refine gop_rf ?_
    refine C.spec_l00In  ?_
    refine gop_rf ?_
    refine ob_nd (fun hc5 => ?_) (fun hc5 => ?_)
    · skip
      refine ob_i (vPick_f _ _) ?_
      refine cnd_f1 ?_
      refine ob_i (hp.nilC) ?_
      refine ob_i (hp.fa 0) ?_
      refine ob_i (hp.ld 0 rfl) ?_
      refine ob_i (hp2.nilC) ?_
      refine ob_i (hp2.fa 0) ?_
      refine ob_i (hp2.ld 0 rfl) ?_
      refine ob_i (vInt_add (by omega) (by omega)) ?_
      refine C.spec_l00Max  ?_
      refine ⟨Le.refl _, ?_⟩
      obtain ⟨mr, hmr⟩ : ∃ x, x = max (ra) (row + rb) := ⟨_, rfl⟩
      rw [← hmr]
      refine ob_i (hp.nilC) ?_
      refine ob_i (hp.fa 1) ?_
      refine ob_i (hp.ld 1 rfl) ?_
      refine ob_i (hp2.nilC) ?_
      refine ob_i (hp2.fa 1) ?_
      refine ob_i (hp2.ld 1 rfl) ?_
      refine ob_i (vInt_add (by omega) (by omega)) ?_
      refine C.spec_l00Max  ?_
      refine ⟨Le.refl _, ?_⟩
      obtain ⟨mc, hmc⟩ : ∃ x, x = max (ca) (col + cb) := ⟨_, rfl⟩
      rw [← hmc]
      refine C.spec_l05Sides  ?_
      refine ob_nd (fun hc6 => ?_) (fun hc6 => ?_)
      · skip
        refine cnd_f1 ?_
        refine C.spec_l04New (by omega) (by omega) (by omega) (by omega) (fun u H7 ou nn9  le8 => ?_)
        have aqXu : Apart q u := oq.apart nn9
        have nu : Nw H u := nn9.le lE
        replace oq := oq.le le8
        replace hp := hp.le le8
        replace hp2 := hp2.le le8
        replace hva := hva.le le8
        replace hvb := hvb.le le8
        replace lE := lE.trans le8
        refine nw_i (fun s H10 os nn11 le12 => ?_)
        have aqXs : Apart q s := oq.apart nn11
        have auXs : Apart u s := ou.apart nn11
        have ns : Nw H s := nn11.le lE
        replace oq := oq.le le12
        replace ou := ou.le le12
        replace hp := hp.le le12
        replace hp2 := hp2.le le12
        replace hva := hva.le le12
        replace hvb := hvb.le le12
        replace lE := lE.trans le12
        replace os : Cel H10 s [(.int .i64 (0)), (.int .i64 (0)), (.slice none 0 0)] := os
        refine os.stn (ws := [(.int .i64 (mr)), (.int .i64 (mc)), u]) rfl rfl (oc1 rfl (oc1 rfl (oc1 ou.one oc0))) (fun H13 os off14 => ?_)
        replace oq := oq.off off14 aqXs
        replace ou := ou.off off14 auXs
        replace hp := hp0.le (off14.le lE ns)
        replace hp2 := hp20.le (off14.le lE ns)
        replace hva := hva0.le (off14.le lE ns)
        replace hvb := hvb0.le (off14.le lE ns)
        replace lE := off14.le lE ns
        replace os : Cel H13 s [(.int .i64 (mr)), (.int .i64 (mc)), u] := os
        refine jn_i (fun σ' H' => σ' 1 = p2 ∧ σ' 2 = (.int .i64 (row)) ∧ σ' 3 = (.int .i64 (col)) ∧ σ' 8 = q ∧ σ' 11 = (.int .i64 (mc)) ∧ σ' 12 = s ∧ Cel H' q [(.int .i64 (0)), (.int .i64 (0)), (.slice none 0 0)] ∧ Own eI H' u (mkL mc (metB ra ca la cb lb row col (0) (0)) (mr.toNat * mc.toNat)) ∧ Cel H' s [(.int .i64 (mr)), (.int .i64 (mc)), u] ∧ Le H H') (fun σ15 H15 hP => ?_) (fun J15 hJ15 => ?_)
        · skip
          obtain ⟨g1L15, g2L15, g3L15, g8L15, g11L15, g12L15, oq, ou, os, lE⟩ := hP
          have hp := hp0.le lE
          have hp2 := hp20.le lE
          have hva := hva0.le lE
          have hvb := hvb0.le lE
          try simp only [g1L15, g2L15, g3L15, g8L15, g11L15, g12L15]
          refine jn_i (fun σ' H' => σ' 8 = q ∧ σ' 12 = s ∧ Cel H' q [(.int .i64 (0)), (.int .i64 (0)), (.slice none 0 0)] ∧ Own eI H' u (mkL mc (metG ra ca la rb cb lb row col) (mr.toNat * mc.toNat)) ∧ Cel H' s [(.int .i64 (mr)), (.int .i64 (mc)), u] ∧ Le H H') (fun σ16 H16 hP => ?_) (fun J16 hJ16 => ?_)
          · skip
            obtain ⟨g8L16, g12L16, oq, ou, os, lE⟩ := hP
            have hp := hp0.le lE
            have hp2 := hp20.le lE
            have hva := hva0.le lE
            have hvb := hvb0.le lE
            try simp only [g8L16, g12L16]
            refine ob_i (os.ldn rfl) ?_
            refine oq.stn (ws := [(.int .i64 (mr)), (.int .i64 (mc)), u]) rfl rfl (oc1 rfl (oc1 rfl (oc1 ou.one oc0))) (fun H17 oq off18 => ?_)
            replace ou := ou.off off18 aqXu.symm
            replace os := os.off off18 aqXs.symm
            replace hp := hp0.le (off18.le lE nq)
            replace hp2 := hp20.le (off18.le lE nq)
            replace hva := hva0.le (off18.le lE nq)
            replace hvb := hvb0.le (off18.le lE nq)
            replace lE := off18.le lE nq
            replace oq : Cel H17 q [(.int .i64 (mr)), (.int .i64 (mc)), u] := oq
            refine ob_i (oq.ldn rfl) ?_
            subst hmr hmc
            exact hk2 ⟨hc4, hc5, hc6⟩ u _ ou nu lE
          refine ⟨fun n' σ' H' => ∃ i : Nat, n' = rb.toNat - i ∧ i ≤ rb.toNat ∧ σ' 1 = p2 ∧ σ' 2 = (.int .i64 (row)) ∧ σ' 3 = (.int .i64 (col)) ∧ σ' 8 = q ∧ σ' 11 = (.int .i64 (mc)) ∧ σ' 12 = s ∧ σ' 15 = (.int .i64 ((i : Int))) ∧ Cel H' q [(.int .i64 (0)), (.int .i64 (0)), (.slice none 0 0)] ∧ Own eI H' u (mkL mc (metB ra ca la cb lb row col ((i : Int)) (0)) (mr.toNat * mc.toNat)) ∧ Cel H' s [(.int .i64 (mr)), (.int .i64 (mc)), u] ∧ Le H H',
            ⟨_, 0, rfl, by omega, g1L15, g2L15, g3L15, g8L15, g11L15, g12L15, rfl, oq, ou, os, lE⟩, ?_⟩
          rintro n19 σ19 H19 ⟨i, rfl, hiN, g1L19, g2L19, g3L19, g8L19, g11L19, g12L19, g15L19, oq, ou, os, lE⟩
          have hp := hp0.le lE
          have hp2 := hp20.le lE
          have hva := hva0.le lE
          have hvb := hvb0.le lE
          try simp only [g1L19, g2L19, g3L19, g8L19, g11L19, g12L19, g15L19]
          refine ob_i (hp2.nilC) ?_
          refine ob_i (hp2.fa 0) ?_
          refine ob_i (hp2.ld 0 rfl) ?_
          refine ob_i (vInt_lss _ _ _) ?_
          refine cnd_d (fun hg20 => ?_) (fun hg20 => ?_)
          · skip
            have ti := hg20
            refine jn_i (fun σ' H' => σ' 1 = p2 ∧ σ' 2 = (.int .i64 (row)) ∧ σ' 3 = (.int .i64 (col)) ∧ σ' 8 = q ∧ σ' 11 = (.int .i64 (mc)) ∧ σ' 12 = s ∧ σ' 15 = (.int .i64 ((i : Int))) ∧ Cel H' q [(.int .i64 (0)), (.int .i64 (0)), (.slice none 0 0)] ∧ Own eI H' u (mkL mc (metB ra ca la cb lb row col ((i : Int) + 1) (0)) (mr.toNat * mc.toNat)) ∧ Cel H' s [(.int .i64 (mr)), (.int .i64 (mc)), u] ∧ Le H H') (fun σ21 H21 hP => ?_) (fun J21 hJ21 => ?_)
            · skip
              obtain ⟨g1L21, g2L21, g3L21, g8L21, g11L21, g12L21, g15L21, oq, ou, os, lE⟩ := hP
              have hp := hp0.le lE
              have hp2 := hp20.le lE
              have hva := hva0.le lE
              have hvb := hvb0.le lE
              try simp only [g8L21, g15L21]
              refine ob_i (vInt_add (by omega) (by omega)) ?_
              exact nxt (rb.toNat - (i + 1)) (by omega) ⟨i + 1, rfl, by omega, g1L21, g2L21, g3L21, g8L21, g11L21, g12L21, rfl, oq, ou, os, lE⟩
            refine ⟨fun n' σ' H' => ∃ k : Nat, n' = cb.toNat - k ∧ k ≤ cb.toNat ∧ σ' 1 = p2 ∧ σ' 2 = (.int .i64 (row)) ∧ σ' 3 = (.int .i64 (col)) ∧ σ' 8 = q ∧ σ' 11 = (.int .i64 (mc)) ∧ σ' 12 = s ∧ σ' 15 = (.int .i64 ((i : Int))) ∧ σ' 16 = (.int .i64 ((k : Int))) ∧ Cel H' q [(.int .i64 (0)), (.int .i64 (0)), (.slice none 0 0)] ∧ Own eI H' u (mkL mc (metB ra ca la cb lb row col ((i : Int)) ((k : Int))) (mr.toNat * mc.toNat)) ∧ Cel H' s [(.int .i64 (mr)), (.int .i64 (mc)), u] ∧ Le H H',
              ⟨_, 0, rfl, by omega, g1L19, g2L19, g3L19, g8L19, g11L19, g12L19, g15L19, rfl, oq, ou, os, lE⟩, ?_⟩
            rintro n22 σ22 H22 ⟨k, rfl, hkN, g1L22, g2L22, g3L22, g8L22, g11L22, g12L22, g15L22, g16L22, oq, ou, os, lE⟩
            have hp := hp0.le lE
            have hp2 := hp20.le lE
            have hva := hva0.le lE
            have hvb := hvb0.le lE
            try simp only [g1L22, g2L22, g3L22, g8L22, g11L22, g12L22, g15L22, g16L22]
            refine ob_i (hp2.nilC) ?_
            refine ob_i (hp2.fa 1) ?_
            refine ob_i (hp2.ld 1 rfl) ?_
            refine ob_i (vInt_lss _ _ _) ?_
            refine cnd_d (fun hg23 => ?_) (fun hg23 => ?_)
            · skip
              have tk := hg23
              have x1 := ix_lt (a := (i : Int)) (b := (k : Int)) (r := rb) (c := cb) (by omega) (by omega) (by omega) (by omega)
              have x2 := ix_lt (a := row + (i : Int)) (b := col + (k : Int)) (r := mr) (c := mc) (by omega) (by omega) (by omega) (by omega)
              have x3 := mkL_len (c := mc) (g := metB ra ca la cb lb row col (i : Int) (k : Int)) (rr := mr) (cc := mc) (by omega) (by omega)
              have x4 := ix_le (a := mr) (b := mc) (by omega) (by omega) (by omega) (by omega)
              refine ob_i (hp2.nilC) ?_
              refine ob_i (hp2.fa 2) ?_
              refine ob_i (hp2.ld 2 rfl) ?_
              refine ob_i (hp2.nilC) ?_
              refine ob_i (hp2.fa 1) ?_
              refine ob_i (hp2.ld 1 rfl) ?_
              refine ob_i (vInt_mul (by omega) (by omega)) ?_
              refine ob_i (vInt_add (by omega) (by omega)) ?_
              refine ob_i (hvb.ix (by omega) (by omega)) ?_
              refine ob_i (hvb.ld 0 (by omega) (by omega)) ?_
              refine ob_i (vInt_eql _ _ _) ?_
              refine cnd_d (fun hg24 => ?_) (fun hg24 => ?_)
              · skip
                refine ob_i (os.fa 2) ?_
                refine ob_i (os.ld 2 rfl) ?_
                refine ob_i (vInt_add (by omega) (by omega)) ?_
                refine ob_i (vInt_mul (by omega) (by omega)) ?_
                refine ob_i (vInt_add (by omega) (by omega)) ?_
                refine ob_i (vInt_add (by omega) (by omega)) ?_
                refine ob_i (ou.sl.ix (by omega) (by omega)) ?_
                refine ou.st (x := 1) (by omega) (by omega) rfl rfl (fun H25 ou off26 => ?_)
                replace oq := oq.off off26 aqXu
                replace os := os.off off26 auXs.symm
                replace hp := hp0.le (off26.le lE nu)
                replace hp2 := hp20.le (off26.le lE nu)
                replace hva := hva0.le (off26.le lE nu)
                replace hvb := hvb0.le (off26.le lE nu)
                replace lE := off26.le lE nu
                refine ob_i (vInt_add (by omega) (by omega)) ?_
                rw [metB_set (by omega) (by omega) (by omega) (by omega) (by omega) (by omega) hg24] at ou
                exact nxt (cb.toNat - (k + 1)) (by omega) ⟨k + 1, rfl, by omega, g1L22, g2L22, g3L22, g8L22, g11L22, g12L22, g15L22, rfl, oq, ou, os, lE⟩
              · skip
                refine ob_i (vInt_add (by omega) (by omega)) ?_
                rw [metB_skip (by omega) hg24] at ou
                exact nxt (cb.toNat - (k + 1)) (by omega) ⟨k + 1, rfl, by omega, g1L22, g2L22, g3L22, g8L22, g11L22, g12L22, g15L22, rfl, oq, ou, os, lE⟩
            · skip
              have tk := hg23
              rw [metB_row (by omega) (by omega) (show (k : Int) = cb by omega)] at ou
              exact hJ21 _ _ ⟨g1L22, g2L22, g3L22, g8L22, g11L22, g12L22, g15L22, oq, ou, os, lE⟩
          · skip
            have ti := hg20
            rw [show (i : Int) = rb by omega, metB_end (by omega) ha hb] at ou
            exact hJ16 _ _ ⟨g8L19, g12L19, oq, ou, os, lE⟩
        refine ⟨fun n' σ' H' => ∃ i : Nat, n' = ra.toNat - i ∧ i ≤ ra.toNat ∧ σ' 0 = p ∧ σ' 1 = p2 ∧ σ' 2 = (.int .i64 (row)) ∧ σ' 3 = (.int .i64 (col)) ∧ σ' 8 = q ∧ σ' 11 = (.int .i64 (mc)) ∧ σ' 12 = s ∧ σ' 13 = (.int .i64 ((i : Int))) ∧ Cel H' q [(.int .i64 (0)), (.int .i64 (0)), (.slice none 0 0)] ∧ Own eI H' u (mkL mc (metA ca la ((i : Int)) (0)) (mr.toNat * mc.toNat)) ∧ Cel H' s [(.int .i64 (mr)), (.int .i64 (mc)), u] ∧ Le H H',
          ⟨_, 0, rfl, by omega, rfl, rfl, rfl, rfl, rfl, rfl, rfl, rfl, oq, by rw [metA_zero (c := mc) (ca := ca) (la := la) (by omega) (by omega)] at ou; exact ou, os, lE⟩, ?_⟩
        rintro n27 σ27 H27 ⟨i, rfl, hiN, g0L27, g1L27, g2L27, g3L27, g8L27, g11L27, g12L27, g13L27, oq, ou, os, lE⟩
        have hp := hp0.le lE
        have hp2 := hp20.le lE
        have hva := hva0.le lE
        have hvb := hvb0.le lE
        try simp only [g0L27, g8L27, g11L27, g12L27, g13L27]
        refine ob_i (hp.nilC) ?_
        refine ob_i (hp.fa 0) ?_
        refine ob_i (hp.ld 0 rfl) ?_
        refine ob_i (vInt_lss _ _ _) ?_
        refine cnd_d (fun hg28 => ?_) (fun hg28 => ?_)
        · skip
          have ti := hg28
          refine jn_i (fun σ' H' => σ' 0 = p ∧ σ' 1 = p2 ∧ σ' 2 = (.int .i64 (row)) ∧ σ' 3 = (.int .i64 (col)) ∧ σ' 8 = q ∧ σ' 11 = (.int .i64 (mc)) ∧ σ' 12 = s ∧ σ' 13 = (.int .i64 ((i : Int))) ∧ Cel H' q [(.int .i64 (0)), (.int .i64 (0)), (.slice none 0 0)] ∧ Own eI H' u (mkL mc (metA ca la ((i : Int) + 1) (0)) (mr.toNat * mc.toNat)) ∧ Cel H' s [(.int .i64 (mr)), (.int .i64 (mc)), u] ∧ Le H H') (fun σ29 H29 hP => ?_) (fun J29 hJ29 => ?_)
          · skip
            obtain ⟨g0L29, g1L29, g2L29, g3L29, g8L29, g11L29, g12L29, g13L29, oq, ou, os, lE⟩ := hP
            have hp := hp0.le lE
            have hp2 := hp20.le lE
            have hva := hva0.le lE
            have hvb := hvb0.le lE
            try simp only [g8L29, g13L29]
            refine ob_i (vInt_add (by omega) (by omega)) ?_
            exact nxt (ra.toNat - (i + 1)) (by omega) ⟨i + 1, rfl, by omega, g0L29, g1L29, g2L29, g3L29, g8L29, g11L29, g12L29, rfl, oq, ou, os, lE⟩
          refine ⟨fun n' σ' H' => ∃ k : Nat, n' = ca.toNat - k ∧ k ≤ ca.toNat ∧ σ' 0 = p ∧ σ' 1 = p2 ∧ σ' 2 = (.int .i64 (row)) ∧ σ' 3 = (.int .i64 (col)) ∧ σ' 8 = q ∧ σ' 11 = (.int .i64 (mc)) ∧ σ' 12 = s ∧ σ' 13 = (.int .i64 ((i : Int))) ∧ σ' 14 = (.int .i64 ((k : Int))) ∧ Cel H' q [(.int .i64 (0)), (.int .i64 (0)), (.slice none 0 0)] ∧ Own eI H' u (mkL mc (metA ca la ((i : Int)) ((k : Int))) (mr.toNat * mc.toNat)) ∧ Cel H' s [(.int .i64 (mr)), (.int .i64 (mc)), u] ∧ Le H H',
            ⟨_, 0, rfl, by omega, g0L27, g1L27, g2L27, g3L27, g8L27, g11L27, g12L27, g13L27, rfl, oq, ou, os, lE⟩, ?_⟩
          rintro n30 σ30 H30 ⟨k, rfl, hkN, g0L30, g1L30, g2L30, g3L30, g8L30, g11L30, g12L30, g13L30, g14L30, oq, ou, os, lE⟩
          have hp := hp0.le lE
          have hp2 := hp20.le lE
          have hva := hva0.le lE
          have hvb := hvb0.le lE
          try simp only [g0L30, g8L30, g11L30, g12L30, g13L30, g14L30]
          refine ob_i (hp.nilC) ?_
          refine ob_i (hp.fa 1) ?_
          refine ob_i (hp.ld 1 rfl) ?_
          refine ob_i (vInt_lss _ _ _) ?_
          refine cnd_d (fun hg31 => ?_) (fun hg31 => ?_)
          · skip
            have tk := hg31
            have x1 := ix_lt (a := (i : Int)) (b := (k : Int)) (r := ra) (c := ca) (by omega) (by omega) (by omega) (by omega)
            have x2 := ix_lt (a := (i : Int)) (b := (k : Int)) (r := mr) (c := mc) (by omega) (by omega) (by omega) (by omega)
            have x3 := mkL_len (c := mc) (g := metA ca la (i : Int) (k : Int)) (rr := mr) (cc := mc) (by omega) (by omega)
            have x4 := ix_le (a := mr) (b := mc) (by omega) (by omega) (by omega) (by omega)
            refine ob_i (os.fa 2) ?_
            refine ob_i (os.ld 2 rfl) ?_
            refine ob_i (vInt_mul (by omega) (by omega)) ?_
            refine ob_i (vInt_add (by omega) (by omega)) ?_
            refine ob_i (hp.nilC) ?_
            refine ob_i (hp.fa 2) ?_
            refine ob_i (hp.ld 2 rfl) ?_
            refine ob_i (hp.nilC) ?_
            refine ob_i (hp.fa 1) ?_
            refine ob_i (hp.ld 1 rfl) ?_
            refine ob_i (vInt_mul (by omega) (by omega)) ?_
            refine ob_i (vInt_add (by omega) (by omega)) ?_
            refine ob_i (hva.ix (by omega) (by omega)) ?_
            refine ob_i (hva.ld 0 (by omega) (by omega)) ?_
            refine ob_i (ou.sl.ix (by omega) (by omega)) ?_
            refine ou.st (x := at_ 0 (la) (((i : Int) * ca) + (k : Int))) (by omega) (by omega) rfl rfl (fun H32 ou off33 => ?_)
            replace oq := oq.off off33 aqXu
            replace os := os.off off33 auXs.symm
            replace hp := hp0.le (off33.le lE nu)
            replace hp2 := hp20.le (off33.le lE nu)
            replace hva := hva0.le (off33.le lE nu)
            replace hvb := hvb0.le (off33.le lE nu)
            replace lE := off33.le lE nu
            refine ob_i (vInt_add (by omega) (by omega)) ?_
            rw [metA_set (by omega) (by omega) (by omega) (by omega) (by omega)] at ou
            exact nxt (ca.toNat - (k + 1)) (by omega) ⟨k + 1, rfl, by omega, g0L30, g1L30, g2L30, g3L30, g8L30, g11L30, g12L30, g13L30, rfl, oq, ou, os, lE⟩
          · skip
            have tk := hg31
            rw [metA_row (by omega) (show (k : Int) = ca by omega)] at ou
            exact hJ29 _ _ ⟨g0L30, g1L30, g2L30, g3L30, g8L30, g11L30, g12L30, g13L30, oq, ou, os, lE⟩
        · skip
          have ti := hg28
          rw [show (i : Int) = ra by omega, metA_end (cb := cb) (lb := lb) (row := row) (col := col) (by omega)] at ou
          exact hJ15 _ _ ⟨g1L27, g2L27, g3L27, g8L27, g11L27, g12L27, oq, ou, os, lE⟩
      · skip
        refine cnd_t1 ?_
        refine ob_i (a := (.agg #[(.int .i64 (0)), (.int .i64 (0)), (.slice none 0 0)])) (by rfl) ?_
        refine oq.stn (ws := [(.int .i64 (0)), (.int .i64 (0)), (.slice none 0 0)]) rfl rfl (oc1 rfl (oc1 rfl (oc1 rfl oc0))) (fun H34 oq off35 => ?_)
        replace hp := hp0.le (off35.le lE nq)
        replace hp2 := hp20.le (off35.le lE nq)
        replace hva := hva0.le (off35.le lE nq)
        replace hvb := hvb0.le (off35.le lE nq)
        replace lE := off35.le lE nq
        replace oq : Cel H34 q [(.int .i64 (0)), (.int .i64 (0)), (.slice none 0 0)] := oq
        refine ob_i (oq.ldn rfl) ?_
        subst hmr hmc
        exact hk1 (fun h => hc6 ⟨h.2.2.1, h.2.2.2⟩) _ lE
    · skip
      refine ob_i (vPick_f _ _) ?_
      refine cnd_t1 ?_
      refine ob_i (a := (.agg #[(.int .i64 (0)), (.int .i64 (0)), (.slice none 0 0)])) (by rfl) ?_
      refine oq.stn (ws := [(.int .i64 (0)), (.int .i64 (0)), (.slice none 0 0)]) rfl rfl (oc1 rfl (oc1 rfl (oc1 rfl oc0))) (fun H36 oq off37 => ?_)
      replace hp := hp0.le (off37.le lE nq)
      replace hp2 := hp20.le (off37.le lE nq)
      replace hva := hva0.le (off37.le lE nq)
      replace hvb := hvb0.le (off37.le lE nq)
      replace lE := off37.le lE nq
      replace oq : Cel H36 q [(.int .i64 (0)), (.int .i64 (0)), (.slice none 0 0)] := oq
      refine ob_i (oq.ldn rfl) ?_
      exact hk1 (fun h => hc5 h.2.1) _ lE
  · skip
    refine gop_st ?_
    refine gop_st ?_
    refine gop_st ?_
    refine ob_i (vPick_t _ _) ?_
    refine cnd_t1 ?_
    refine ob_i (a := (.agg #[(.int .i64 (0)), (.int .i64 (0)), (.slice none 0 0)])) (by rfl) ?_
    refine oq.stn (ws := [(.int .i64 (0)), (.int .i64 (0)), (.slice none 0 0)]) rfl rfl (oc1 rfl (oc1 rfl (oc1 rfl oc0))) (fun H38 oq off39 => ?_)
    replace hp := hp0.le (off39.le lE nq)
    replace hp2 := hp20.le (off39.le lE nq)
    replace hva := hva0.le (off39.le lE nq)
    replace hvb := hvb0.le (off39.le lE nq)
    replace lE := off39.le lE nq
    replace oq : Cel H38 q [(.int .i64 (0)), (.int .i64 (0)), (.slice none 0 0)] := oq
    refine ob_i (oq.ldn rfl) ?_
    exact hk1 (fun h => hc4 h.1) _ lE
theorem C.spec_MeetFields {va vb : Value} {ra ca rb cb row col : Int} {la lb : List Int} {H : Hp} {K : Value → Hp → Prop} (hva0 : Sl eI H va la) (hvb0 : Sl eI H vb lb) (k1 : la.length ≤ 9223372036854775807) (k2 : lb.length ≤ 9223372036854775807)
    (hk : ∀ u H', Own eI H' u (metL ra ca la rb cb lb row col) → Nw H u → Le H H' → K (.tuple #[.agg #[.int .i64 (metI (max ra (row + rb)) ra ca la rb cb lb row col), .int .i64 (metI (max ca (col + cb)) ra ca la rb cb lb row col), u], .bool (decide (metOk ra ca la rb cb lb row col))]) H') :
    HT prg I.spec_MeetFields [.agg #[.int .i64 ra, .int .i64 ca, va], .agg #[.int .i64 rb, .int .i64 cb, vb], .int .i64 row, .int .i64 col].toArray H K := by
  have lE := Le.refl H
  have hva := hva0
  have hvb := hvb0
  refine R.spec_MeetFields ?_
  unfold F.spec_MeetFields
  refine nw_i (fun p H1 op nn2 le3 => ?_)
  have np : Nw H p := nn2.le lE
  replace hva := hva.le le3
  replace hvb := hvb.le le3
  replace lE := lE.trans le3
  replace op : Cel H1 p [(.int .i64 (ra)), (.int .i64 (ca)), va] := op
  refine nw_i (fun p2 H4 op2 nn5 le6 => ?_)
  have apXp2 : Apart p p2 := op.apart nn5
  have np2 : Nw H p2 := nn5.le lE
  replace op := op.le le6
  replace hva := hva.le le6
  replace hvb := hvb.le le6
  replace lE := lE.trans le6
  replace op2 : Cel H4 p2 [(.int .i64 (rb)), (.int .i64 (cb)), vb] := op2
  refine nw_i (fun q H7 oq nn8 le9 => ?_)
  have apXq : Apart p q := op.apart nn8
  have ap2Xq : Apart p2 q := op2.apart nn8
  have nq : Nw H q := nn8.le lE
  replace op := op.le le9
  replace op2 := op2.le le9
  replace hva := hva.le le9
  replace hvb := hvb.le le9
  replace lE := lE.trans le9
  replace oq : Cel H7 q [(.int .i64 (0)), (.int .i64 (0)), (.slice none 0 0)] := oq
  refine C.spec_l04Plain op hva k1 ?_
  refine ob_nd (fun hc10 => ?_) (fun hc10 => ?_)
  · skip
    refine gop_rf ?_
    refine C.spec_l04Plain op2 hvb k2 ?_
    refine gop_rf ?_
    refine ob_nd (fun hc11 => ?_) (fun hc11 => ?_)
    · skip
      refine ob_i (vPick_f _ _) ?_
      refine cnd_f1 ?_
      refine C.spec_l05Meet op op2 hva hvb hc10 hc11 (fun ht12 H13 le14 => ?_) (fun ht12 u15 H13 ou15 nn16 le14 => ?_)
      · skip
        replace op := op.le le14
        replace op2 := op2.le le14
        replace oq := oq.le le14
        replace hva := hva.le le14
        replace hvb := hvb.le le14
        replace lE := lE.trans le14
        refine ob_i (vExt_20 _ _) ?_
        refine ob_i (vExt_21 _ _) ?_
        refine oq.stn (ws := [(.int .i64 (0)), (.int .i64 (0)), (.slice none 0 0)]) rfl rfl (oc1 rfl (oc1 rfl (oc1 rfl oc0))) (fun H17 oq off18 => ?_)
        replace op := op.off off18 apXq
        replace op2 := op2.off off18 ap2Xq
        replace hva := hva0.le (off18.le lE nq)
        replace hvb := hvb0.le (off18.le lE nq)
        replace lE := off18.le lE nq
        replace oq : Cel H17 q [(.int .i64 (0)), (.int .i64 (0)), (.slice none 0 0)] := oq
        refine ob_i (oq.ldn rfl) ?_
        have hok : ¬ metOk ra ca la rb cb lb row col := fun h => ht12 h.2.2
        have h1 := hk (.slice none 0 0) H17
        simp only [metL, metI, hok, if_false, decide_false] at h1
        exact h1 (Own.nil_of none) (fun b hb => by simp [bk] at hb) lE
      · skip
        have apXu15 : Apart p u15 := op.apart nn16
        have ap2Xu15 : Apart p2 u15 := op2.apart nn16
        have aqXu15 : Apart q u15 := oq.apart nn16
        have nu15 : Nw H u15 := nn16.le lE
        replace op := op.le le14
        replace op2 := op2.le le14
        replace oq := oq.le le14
        replace hva := hva.le le14
        replace hvb := hvb.le le14
        replace lE := lE.trans le14
        refine ob_i (vExt_20 _ _) ?_
        refine ob_i (vExt_21 _ _) ?_
        refine oq.stn (ws := [(.int .i64 (max ra (row + rb))), (.int .i64 (max ca (col + cb))), u15]) rfl rfl (oc1 rfl (oc1 rfl (oc1 ou15.one oc0))) (fun H19 oq off20 => ?_)
        replace op := op.off off20 apXq
        replace op2 := op2.off off20 ap2Xq
        replace ou15 := ou15.off off20 aqXu15.symm
        replace hva := hva0.le (off20.le lE nq)
        replace hvb := hvb0.le (off20.le lE nq)
        replace lE := off20.le lE nq
        replace oq : Cel H19 q [(.int .i64 (max ra (row + rb))), (.int .i64 (max ca (col + cb))), u15] := oq
        refine ob_i (oq.ldn rfl) ?_
        have hok : metOk ra ca la rb cb lb row col := ⟨hc10, hc11, ht12⟩
        have h1 := hk u15 H19
        simp only [metL, metI, hok, if_true, decide_true] at h1
        exact h1 ou15 nu15 lE
    · skip
      refine ob_i (vPick_f _ _) ?_
      refine cnd_t1 ?_
      refine ob_i (a := (.agg #[(.int .i64 (0)), (.int .i64 (0)), (.slice none 0 0)])) (by rfl) ?_
      refine oq.stn (ws := [(.int .i64 (0)), (.int .i64 (0)), (.slice none 0 0)]) rfl rfl (oc1 rfl (oc1 rfl (oc1 rfl oc0))) (fun H21 oq off22 => ?_)
      replace op := op.off off22 apXq
      replace op2 := op2.off off22 ap2Xq
      replace hva := hva0.le (off22.le lE nq)
      replace hvb := hvb0.le (off22.le lE nq)
      replace lE := off22.le lE nq
      replace oq : Cel H21 q [(.int .i64 (0)), (.int .i64 (0)), (.slice none 0 0)] := oq
      refine ob_i (oq.ldn rfl) ?_
      have hok : ¬ metOk ra ca la rb cb lb row col := fun h => hc11 h.2.1
      have h1 := hk (.slice none 0 0) H21
      simp only [metL, metI, hok, if_false, decide_false] at h1
      exact h1 (Own.nil_of none) (fun b hb => by simp [bk] at hb) lE
  · skip
    refine gop_st ?_
    refine gop_st ?_
    refine ob_i (vPick_t _ _) ?_
    refine cnd_t1 ?_
    refine ob_i (a := (.agg #[(.int .i64 (0)), (.int .i64 (0)), (.slice none 0 0)])) (by rfl) ?_
    refine oq.stn (ws := [(.int .i64 (0)), (.int .i64 (0)), (.slice none 0 0)]) rfl rfl (oc1 rfl (oc1 rfl (oc1 rfl oc0))) (fun H23 oq off24 => ?_)
    replace op := op.off off24 apXq
    replace op2 := op2.off off24 ap2Xq
    replace hva := hva0.le (off24.le lE nq)
    replace hvb := hvb0.le (off24.le lE nq)
    replace lE := off24.le lE nq
    replace oq : Cel H23 q [(.int .i64 (0)), (.int .i64 (0)), (.slice none 0 0)] := oq
    refine ob_i (oq.ldn rfl) ?_
    have hok : ¬ metOk ra ca la rb cb lb row col := fun h => hc10 h.1
    have h1 := hk (.slice none 0 0) H23
    simp only [metL, metI, hok, if_false, decide_false] at h1
    exact h1 (Own.nil_of none) (fun b hb => by simp [bk] at hb) lE
theorem C.impl_meet_1 {p p2 q s va vb : Value} {ra ca rb cb row col i k : Int} {la lb : List Int} {H : Hp} {K : Value → Hp → Prop} (hp0 : Cel H p [.int .i64 ra, .int .i64 ca, va]) (hp20 : Cel H p2 [.int .i64 rb, .int .i64 cb, vb]) (hq0 : Cel H q [.int .i64 row]) (hs0 : Cel H s [.int .i64 col])
    (hva0 : Sl eI H va la) (hvb0 : Sl eI H vb lb) (ha : fieldN 1 ra ca la) (hb : fieldN 1 rb cb lb) (i0 : 0 ≤ i) (i1 : i ≤ 1000) (k0 : 0 ≤ k) (k1 : k ≤ 1000) (h0 : 0 ≤ row ∧ row ≤ 24) (h1 : 0 ≤ col ∧ col ≤ 24)
    (hk : ∀ H', Le H H' → K (.int .i64 (metG ra ca la rb cb lb row col i k)) H') : HT prg I.impl_meet_1 [.int .i64 i, .int .i64 k, p, p2, q, s].toArray H K := by
  have lE := Le.refl H
  have hp := hp0
  have hp2 := hp20
  have hq := hq0
  have hs := hs0
  have hva := hva0
  have hvb := hvb0
  refine R.impl_meet_1 ?_
  unfold F.impl_meet_1
  refine ob_i (hp.ldn rfl) ?_
  refine ob_i (hp2.ldn rfl) ?_
  refine ob_i (hq.ld0 rfl) ?_
  refine ob_i (vInt_sub (by omega) (by omega)) ?_
  refine ob_i (hs.ld0 rfl) ?_
  refine ob_i (vInt_sub (by omega) (by omega)) ?_
  refine C.look_flat hva ha.1 ha.2.1 (fun H1 le2 => ?_)
  replace hp := hp.le le2
  replace hp2 := hp2.le le2
  replace hq := hq.le le2
  replace hs := hs.le le2
  replace hva := hva.le le2
  replace hvb := hvb.le le2
  replace lE := lE.trans le2
  refine ⟨le2, ?_⟩
  refine C.look_flat hvb hb.1 hb.2.1 (fun H3 le4 => ?_)
  replace hp := hp.le le4
  replace hp2 := hp2.le le4
  replace hq := hq.le le4
  replace hs := hs.le le4
  replace hva := hva.le le4
  replace hvb := hvb.le le4
  replace lE := lE.trans le4
  refine ⟨le4, ?_⟩
  refine ob_i (vMx_max _ _ _) ?_
  exact hk _ lE
theorem C.impl_meet {va vb : Value} {ra ca rb cb row col : Int} {la lb : List Int} {H : Hp} {K : Value → Hp → Prop} (hva0 : Sl eI H va la) (hvb0 : Sl eI H vb lb) (k1 : la.length ≤ 9223372036854775807) (k2 : lb.length ≤ 9223372036854775807)
    (hk1 : ¬ metOk ra ca la rb cb lb row col → ∀ H', Le H H' → K (.tuple #[.agg #[.int .i64 0, .int .i64 0, .slice none 0 0], .bool false]) H')
    (hk2 : metOk ra ca la rb cb lb row col → ∀ u H', Own eI H' u (metL0 ra ca la rb cb lb row col) → Nw H u → Le H H' → K (.tuple #[.agg #[.int .i64 (max ra (row + rb)), .int .i64 (max ca (col + cb)), u], .bool true]) H') : HT prg I.impl_meet [.agg #[.int .i64 ra, .int .i64 ca, va], .agg #[.int .i64 rb, .int .i64 cb, vb], .int .i64 row, .int .i64 col].toArray H K := by
  have lE := Le.refl H
  have hva := hva0
  have hvb := hvb0
  refine R.impl_meet ?_
  unfold F.impl_meet
  refine nw_i (fun p H1 op nn2 le3 => ?_)
  have np : Nw H p := nn2.le lE
  replace hva := hva.le le3
  replace hvb := hvb.le le3
  replace lE := lE.trans le3
  replace op : Cel H1 p [(.int .i64 (ra)), (.int .i64 (ca)), va] := op
  refine nw_i (fun p2 H4 op2 nn5 le6 => ?_)
  have apXp2 : Apart p p2 := op.apart nn5
  have np2 : Nw H p2 := nn5.le lE
  replace op := op.le le6
  replace hva := hva.le le6
  replace hvb := hvb.le le6
  replace lE := lE.trans le6
  replace op2 : Cel H4 p2 [(.int .i64 (rb)), (.int .i64 (cb)), vb] := op2
  refine nw_i (fun r1 H7 or1 nn8 le9 => ?_)
  have apXr1 : Apart p r1 := op.apart nn8
  have ap2Xr1 : Apart p2 r1 := op2.apart nn8
  have nr1 : Nw H r1 := nn8.le lE
  replace op := op.le le9
  replace op2 := op2.le le9
  replace hva := hva.le le9
  replace hvb := hvb.le le9
  replace lE := lE.trans le9
  replace or1 : Cel H7 r1 [(.int .i64 (row))] := or1
  refine nw_i (fun r2 H10 or2 nn11 le12 => ?_)
  have apXr2 : Apart p r2 := op.apart nn11
  have ap2Xr2 : Apart p2 r2 := op2.apart nn11
  have ar1Xr2 : Apart r1 r2 := or1.apart nn11
  have nr2 : Nw H r2 := nn11.le lE
  replace op := op.le le12
  replace op2 := op2.le le12
  replace or1 := or1.le le12
  replace hva := hva.le le12
  replace hvb := hvb.le le12
  replace lE := lE.trans le12
  replace or2 : Cel H10 r2 [(.int .i64 (col))] := or2
  refine nw_i (fun q H13 oq nn14 le15 => ?_)
  have apXq : Apart p q := op.apart nn14
  have ap2Xq : Apart p2 q := op2.apart nn14
  have ar1Xq : Apart r1 q := or1.apart nn14
  have ar2Xq : Apart r2 q := or2.apart nn14
  have nq : Nw H q := nn14.le lE
  replace op := op.le le15
  replace op2 := op2.le le15
  replace or1 := or1.le le15
  replace or2 := or2.le le15
  replace hva := hva.le le15
  replace hvb := hvb.le le15
  replace lE := lE.trans le15
  replace oq : Cel H13 q [(.int .i64 (0)), (.int .i64 (0)), (.slice none 0 0)] := oq
  refine ob_i (op.ldn rfl) ?_
  refine C.impl_isPlain hva k1 (fun H16 le17 => ?_)
  replace op := op.le le17
  replace op2 := op2.le le17
  replace or1 := or1.le le17
  replace or2 := or2.le le17
  replace oq := oq.le le17
  replace hva := hva.le le17
  replace hvb := hvb.le le17
  replace lE := lE.trans le17
  refine ob_nd (fun hc18 => ?_) (fun hc18 => ?_)
  · skip
    have q1 := hc18.1.1
    have q2 := hc18.1.2
    refine gop_rf ?_
    refine ob_i (op2.ldn rfl) ?_
    refine gop_rf ?_
    refine C.impl_isPlain hvb k2 (fun H19 le20 => ?_)
    replace op := op.le le20
    replace op2 := op2.le le20
    replace or1 := or1.le le20
    replace or2 := or2.le le20
    replace oq := oq.le le20
    replace hva := hva.le le20
    replace hvb := hvb.le le20
    replace lE := lE.trans le20
    refine gop_rf ?_
    refine ob_nd (fun hc21 => ?_) (fun hc21 => ?_)
    · skip
      have q3 := hc21.1.1
      have q4 := hc21.1.2
      refine ob_i (vPick_f _ _) ?_
      refine gop_rf ?_
      refine ob_i (or1.ld0 rfl) ?_
      refine gop_rf ?_
      refine C.impl_within  ?_
      refine gop_rf ?_
      refine ob_nd (fun hc22 => ?_) (fun hc22 => ?_)
      · skip
        refine ob_i (vPick_f _ _) ?_
        refine gop_rf ?_
        refine ob_i (or2.ld0 rfl) ?_
        refine gop_rf ?_
        refine C.impl_within  ?_
        refine gop_rf ?_
        refine ob_nd (fun hc23 => ?_) (fun hc23 => ?_)
        · skip
          refine ob_i (vPick_f _ _) ?_
          refine cnd_f1 ?_
          refine ob_i (op.fa 0) ?_
          refine ob_i (op.ld 0 rfl) ?_
          refine ob_i (or1.ld0 rfl) ?_
          refine ob_i (op2.fa 0) ?_
          refine ob_i (op2.ld 0 rfl) ?_
          refine ob_i (vInt_add (by omega) (by omega)) ?_
          refine ob_i (vMx_max _ _ _) ?_
          obtain ⟨mr, hmr⟩ : ∃ x, x = max (ra) (row + rb) := ⟨_, rfl⟩
          rw [← hmr]
          refine ob_i (op.fa 1) ?_
          refine ob_i (op.ld 1 rfl) ?_
          refine ob_i (or2.ld0 rfl) ?_
          refine ob_i (op2.fa 1) ?_
          refine ob_i (op2.ld 1 rfl) ?_
          refine ob_i (vInt_add (by omega) (by omega)) ?_
          refine ob_i (vMx_max _ _ _) ?_
          obtain ⟨mc, hmc⟩ : ∃ x, x = max (ca) (col + cb) := ⟨_, rfl⟩
          rw [← hmc]
          refine C.impl_isSide  ?_
          refine ob_nd (fun hc24 => ?_) (fun hc24 => ?_)
          · skip
            refine gop_rf ?_
            refine gop_rf ?_
            refine C.impl_isSide  ?_
            refine gop_rf ?_
            refine ob_nd (fun hc25 => ?_) (fun hc25 => ?_)
            · skip
              refine ob_i (vPick_f _ _) ?_
              refine cnd_f1 ?_
              refine C.impl_madeField (g := metG ra ca la rb cb lb row col) (by omega) (by omega) (by omega) (by omega) (fun H' i k Z le hi hk' hZ => ?_) (fun u26 H27 ou26 nn28 le29 => ?_)
              · refine ⟨by kernel_rfl, ?_⟩
                exact C.impl_meet_1 (op.le le) (op2.le le) (or1.le le) (or2.le le) (hva.le le) (hvb.le le) hc18 hc21 (by omega) (by omega) (by omega) (by omega) (by omega) (by omega) hZ
              have apXu26 : Apart p u26 := op.apart nn28
              have ap2Xu26 : Apart p2 u26 := op2.apart nn28
              have ar1Xu26 : Apart r1 u26 := or1.apart nn28
              have ar2Xu26 : Apart r2 u26 := or2.apart nn28
              have aqXu26 : Apart q u26 := oq.apart nn28
              have nu26 : Nw H u26 := nn28.le lE
              replace op := op.le le29
              replace op2 := op2.le le29
              replace or1 := or1.le le29
              replace or2 := or2.le le29
              replace oq := oq.le le29
              replace hva := hva.le le29
              replace hvb := hvb.le le29
              replace lE := lE.trans le29
              refine oq.stn (ws := [(.int .i64 (mr)), (.int .i64 (mc)), u26]) rfl rfl (oc1 rfl (oc1 rfl (oc1 ou26.one oc0))) (fun H30 oq off31 => ?_)
              replace op := op.off off31 apXq
              replace op2 := op2.off off31 ap2Xq
              replace or1 := or1.off off31 ar1Xq
              replace or2 := or2.off off31 ar2Xq
              replace ou26 := ou26.off off31 aqXu26.symm
              replace hva := hva0.le (off31.le lE nq)
              replace hvb := hvb0.le (off31.le lE nq)
              replace lE := off31.le lE nq
              replace oq : Cel H30 q [(.int .i64 (mr)), (.int .i64 (mc)), u26] := oq
              refine ob_i (oq.ldn rfl) ?_
              subst hmr hmc
              exact hk2 ⟨hc18, hc21, hc22, hc23, hc24, hc25⟩ u26 _ ou26 nu26 lE
            · skip
              refine ob_i (vPick_f _ _) ?_
              refine cnd_t1 ?_
              refine ob_i (a := (.agg #[(.int .i64 (0)), (.int .i64 (0)), (.slice none 0 0)])) (by rfl) ?_
              refine oq.stn (ws := [(.int .i64 (0)), (.int .i64 (0)), (.slice none 0 0)]) rfl rfl (oc1 rfl (oc1 rfl (oc1 rfl oc0))) (fun H32 oq off33 => ?_)
              replace op := op.off off33 apXq
              replace op2 := op2.off off33 ap2Xq
              replace or1 := or1.off off33 ar1Xq
              replace or2 := or2.off off33 ar2Xq
              replace hva := hva0.le (off33.le lE nq)
              replace hvb := hvb0.le (off33.le lE nq)
              replace lE := off33.le lE nq
              replace oq : Cel H32 q [(.int .i64 (0)), (.int .i64 (0)), (.slice none 0 0)] := oq
              refine ob_i (oq.ldn rfl) ?_
              subst hmr hmc
              exact hk1 (fun h => hc25 h.2.2.2.2.2) _ lE
          · skip
            refine gop_st ?_
            refine gop_st ?_
            refine gop_st ?_
            refine ob_i (vPick_t _ _) ?_
            refine cnd_t1 ?_
            refine ob_i (a := (.agg #[(.int .i64 (0)), (.int .i64 (0)), (.slice none 0 0)])) (by rfl) ?_
            refine oq.stn (ws := [(.int .i64 (0)), (.int .i64 (0)), (.slice none 0 0)]) rfl rfl (oc1 rfl (oc1 rfl (oc1 rfl oc0))) (fun H34 oq off35 => ?_)
            replace op := op.off off35 apXq
            replace op2 := op2.off off35 ap2Xq
            replace or1 := or1.off off35 ar1Xq
            replace or2 := or2.off off35 ar2Xq
            replace hva := hva0.le (off35.le lE nq)
            replace hvb := hvb0.le (off35.le lE nq)
            replace lE := off35.le lE nq
            replace oq : Cel H34 q [(.int .i64 (0)), (.int .i64 (0)), (.slice none 0 0)] := oq
            refine ob_i (oq.ldn rfl) ?_
            subst hmr hmc
            exact hk1 (fun h => hc24 h.2.2.2.2.1) _ lE
        · skip
          refine ob_i (vPick_f _ _) ?_
          refine cnd_t1 ?_
          refine ob_i (a := (.agg #[(.int .i64 (0)), (.int .i64 (0)), (.slice none 0 0)])) (by rfl) ?_
          refine oq.stn (ws := [(.int .i64 (0)), (.int .i64 (0)), (.slice none 0 0)]) rfl rfl (oc1 rfl (oc1 rfl (oc1 rfl oc0))) (fun H36 oq off37 => ?_)
          replace op := op.off off37 apXq
          replace op2 := op2.off off37 ap2Xq
          replace or1 := or1.off off37 ar1Xq
          replace or2 := or2.off off37 ar2Xq
          replace hva := hva0.le (off37.le lE nq)
          replace hvb := hvb0.le (off37.le lE nq)
          replace lE := off37.le lE nq
          replace oq : Cel H36 q [(.int .i64 (0)), (.int .i64 (0)), (.slice none 0 0)] := oq
          refine ob_i (oq.ldn rfl) ?_
          exact hk1 (fun h => hc23 h.2.2.2.1) _ lE
      · skip
        refine ob_i (vPick_f _ _) ?_
        refine gop_st ?_
        refine gop_st ?_
        refine gop_st ?_
        refine ob_i (vPick_t _ _) ?_
        refine cnd_t1 ?_
        refine ob_i (a := (.agg #[(.int .i64 (0)), (.int .i64 (0)), (.slice none 0 0)])) (by rfl) ?_
        refine oq.stn (ws := [(.int .i64 (0)), (.int .i64 (0)), (.slice none 0 0)]) rfl rfl (oc1 rfl (oc1 rfl (oc1 rfl oc0))) (fun H38 oq off39 => ?_)
        replace op := op.off off39 apXq
        replace op2 := op2.off off39 ap2Xq
        replace or1 := or1.off off39 ar1Xq
        replace or2 := or2.off off39 ar2Xq
        replace hva := hva0.le (off39.le lE nq)
        replace hvb := hvb0.le (off39.le lE nq)
        replace lE := off39.le lE nq
        replace oq : Cel H38 q [(.int .i64 (0)), (.int .i64 (0)), (.slice none 0 0)] := oq
        refine ob_i (oq.ldn rfl) ?_
        exact hk1 (fun h => hc22 h.2.2.1) _ lE
    · skip
      refine ob_i (vPick_f _ _) ?_
      refine gop_st ?_
      refine gop_st ?_
      refine gop_st ?_
      refine ob_i (vPick_t _ _) ?_
      refine gop_st ?_
      refine gop_st ?_
      refine gop_st ?_
      refine ob_i (vPick_t _ _) ?_
      refine cnd_t1 ?_
      refine ob_i (a := (.agg #[(.int .i64 (0)), (.int .i64 (0)), (.slice none 0 0)])) (by rfl) ?_
      refine oq.stn (ws := [(.int .i64 (0)), (.int .i64 (0)), (.slice none 0 0)]) rfl rfl (oc1 rfl (oc1 rfl (oc1 rfl oc0))) (fun H40 oq off41 => ?_)
      replace op := op.off off41 apXq
      replace op2 := op2.off off41 ap2Xq
      replace or1 := or1.off off41 ar1Xq
      replace or2 := or2.off off41 ar2Xq
      replace hva := hva0.le (off41.le lE nq)
      replace hvb := hvb0.le (off41.le lE nq)
      replace lE := off41.le lE nq
      replace oq : Cel H40 q [(.int .i64 (0)), (.int .i64 (0)), (.slice none 0 0)] := oq
      refine ob_i (oq.ldn rfl) ?_
      exact hk1 (fun h => hc21 h.2.1) _ lE
  · skip
    refine gop_st ?_
    refine gop_st ?_
    refine gop_st ?_
    refine ob_i (vPick_t _ _) ?_
    refine gop_st ?_
    refine gop_st ?_
    refine gop_st ?_
    refine ob_i (vPick_t _ _) ?_
    refine gop_st ?_
    refine gop_st ?_
    refine gop_st ?_
    refine ob_i (vPick_t _ _) ?_
    refine cnd_t1 ?_
    refine ob_i (a := (.agg #[(.int .i64 (0)), (.int .i64 (0)), (.slice none 0 0)])) (by rfl) ?_
    refine oq.stn (ws := [(.int .i64 (0)), (.int .i64 (0)), (.slice none 0 0)]) rfl rfl (oc1 rfl (oc1 rfl (oc1 rfl oc0))) (fun H42 oq off43 => ?_)
    replace op := op.off off43 apXq
    replace op2 := op2.off off43 ap2Xq
    replace or1 := or1.off off43 ar1Xq
    replace or2 := or2.off off43 ar2Xq
    replace hva := hva0.le (off43.le lE nq)
    replace hvb := hvb0.le (off43.le lE nq)
    replace lE := off43.le lE nq
    replace oq : Cel H42 q [(.int .i64 (0)), (.int .i64 (0)), (.slice none 0 0)] := oq
    refine ob_i (oq.ldn rfl) ?_
    exact hk1 (fun h => hc18 h.1) _ lE
theorem C.impl_MeetFields {va vb : Value} {ra ca rb cb row col : Int} {la lb : List Int} {H : Hp} {K : Value → Hp → Prop} (hva0 : Sl eI H va la) (hvb0 : Sl eI H vb lb) (k1 : la.length ≤ 9223372036854775807) (k2 : lb.length ≤ 9223372036854775807)
    (hk : ∀ u H', Own eI H' u (metL ra ca la rb cb lb row col) → Nw H u → Le H H' → K (.tuple #[.agg #[.int .i64 (metI (max ra (row + rb)) ra ca la rb cb lb row col), .int .i64 (metI (max ca (col + cb)) ra ca la rb cb lb row col), u], .bool (decide (metOk ra ca la rb cb lb row col))]) H') :
    HT prg I.impl_MeetFields [.agg #[.int .i64 ra, .int .i64 ca, va], .agg #[.int .i64 rb, .int .i64 cb, vb], .int .i64 row, .int .i64 col].toArray H K := by
  have lE := Le.refl H
  have hva := hva0
  have hvb := hvb0
  refine R.impl_MeetFields ?_
  unfold F.impl_MeetFields
  refine nw_i (fun p H1 op nn2 le3 => ?_)
  have np : Nw H p := nn2.le lE
  replace hva := hva.le le3
  replace hvb := hvb.le le3
  replace lE := lE.trans le3
  replace op : Cel H1 p [(.int .i64 (ra)), (.int .i64 (ca)), va] := op
  refine nw_i (fun p2 H4 op2 nn5 le6 => ?_)
  have apXp2 : Apart p p2 := op.apart nn5
  have np2 : Nw H p2 := nn5.le lE
  replace op := op.le le6
  replace hva := hva.le le6
  replace hvb := hvb.le le6
  replace lE := lE.trans le6
  replace op2 : Cel H4 p2 [(.int .i64 (rb)), (.int .i64 (cb)), vb] := op2
  refine nw_i (fun q H7 oq nn8 le9 => ?_)
  have apXq : Apart p q := op.apart nn8
  have ap2Xq : Apart p2 q := op2.apart nn8
  have nq : Nw H q := nn8.le lE
  replace op := op.le le9
  replace op2 := op2.le le9
  replace hva := hva.le le9
  replace hvb := hvb.le le9
  replace lE := lE.trans le9
  replace oq : Cel H7 q [(.int .i64 (0)), (.int .i64 (0)), (.slice none 0 0)] := oq
  refine ob_i (op.ldn rfl) ?_
  refine ob_i (op2.ldn rfl) ?_
  refine C.impl_meet hva hvb k1 k2 (fun ht10 H11 le12 => ?_) (fun ht10 u13 H11 ou13 nn14 le12 => ?_)
  · skip
    replace op := op.le le12
    replace op2 := op2.le le12
    replace oq := oq.le le12
    replace hva := hva.le le12
    replace hvb := hvb.le le12
    replace lE := lE.trans le12
    refine ob_i (vExt_20 _ _) ?_
    refine ob_i (vExt_21 _ _) ?_
    refine oq.stn (ws := [(.int .i64 (0)), (.int .i64 (0)), (.slice none 0 0)]) rfl rfl (oc1 rfl (oc1 rfl (oc1 rfl oc0))) (fun H15 oq off16 => ?_)
    replace op := op.off off16 apXq
    replace op2 := op2.off off16 ap2Xq
    replace hva := hva0.le (off16.le lE nq)
    replace hvb := hvb0.le (off16.le lE nq)
    replace lE := off16.le lE nq
    replace oq : Cel H15 q [(.int .i64 (0)), (.int .i64 (0)), (.slice none 0 0)] := oq
    refine ob_i (oq.ldn rfl) ?_
    have hok : ¬ metOk ra ca la rb cb lb row col := fun h => ht10 h
    have h1 := hk (.slice none 0 0) H15
    simp only [metL, metI, hok, if_false, decide_false] at h1
    exact h1 (Own.nil_of none) (fun b hb => by simp [bk] at hb) lE
  · skip
    have apXu13 : Apart p u13 := op.apart nn14
    have ap2Xu13 : Apart p2 u13 := op2.apart nn14
    have aqXu13 : Apart q u13 := oq.apart nn14
    have nu13 : Nw H u13 := nn14.le lE
    replace op := op.le le12
    replace op2 := op2.le le12
    replace oq := oq.le le12
    replace hva := hva.le le12
    replace hvb := hvb.le le12
    replace lE := lE.trans le12
    refine ob_i (vExt_20 _ _) ?_
    refine ob_i (vExt_21 _ _) ?_
    refine oq.stn (ws := [(.int .i64 (max ra (row + rb))), (.int .i64 (max ca (col + cb))), u13]) rfl rfl (oc1 rfl (oc1 rfl (oc1 ou13.one oc0))) (fun H17 oq off18 => ?_)
    replace op := op.off off18 apXq
    replace op2 := op2.off off18 ap2Xq
    replace ou13 := ou13.off off18 aqXu13.symm
    replace hva := hva0.le (off18.le lE nq)
    replace hvb := hvb0.le (off18.le lE nq)
    replace lE := off18.le lE nq
    replace oq : Cel H17 q [(.int .i64 (max ra (row + rb))), (.int .i64 (max ca (col + cb))), u13] := oq
    refine ob_i (oq.ldn rfl) ?_
    have hok : metOk ra ca la rb cb lb row col := ht10
    have h1 := hk u13 H17
    simp only [metL, metI, hok, if_true, decide_true] at h1
    exact h1 ou13 nu13 lE
end Go.Proofs.Ytnndhafldmkdeaa
