/- Fields with a border of zeros: the program's and the reference's. -/
import Derived.Test.YtnndhafldmkdeaaTC
namespace Go.Proofs.Ytnndhafldmkdeaa
open HL
set_option maxRecDepth 100000
def groOk (r c : Int) (l : List Int) (b : Int) : Prop := fieldN 1 r c l ∧ (0 ≤ b ∧ b ≤ 24) ∧ (1 ≤ r + 2 * b ∧ r + 2 * b ≤ 24) ∧ (1 ≤ c + 2 * b ∧ c + 2 * b ≤ 24)
instance (r c : Int) (l : List Int) (b : Int) : Decidable (groOk r c l b) := by unfold groOk; infer_instance
def groG (r c : Int) (l : List Int) (b : Int) (i k : Int) : Int := flatF r c l (i - b) (k - b)
def groW (r c : Int) (l : List Int) (b : Int) : List Int := mkL (c + 2 * b) (groG r c l b) ((r + 2 * b).toNat * (c + 2 * b).toNat)
def groL (r c : Int) (l : List Int) (b : Int) : List Int := if groOk r c l b then groW r c l b else []
def groI (x r c : Int) (l : List Int) (b : Int) : Int := if groOk r c l b then x else 0
theorem groL_len {r c : Int} {l : List Int} {b : Int} : (groL r c l b).length ≤ 576 := by
  unfold groL
  split
  · rename_i h
    unfold groW
    rw [mkL_length]
    have := h.2.2.1
    have := h.2.2.2
    have := Nat.mul_le_mul (show (r + 2 * b).toNat ≤ 24 by omega) (show (c + 2 * b).toNat ≤ 24 by omega)
    omega
  · simp
theorem C.impl_GrowField_1 {p q vc : Value} {r c b i k : Int} {l : List Int} {H : Hp} {K : Value → Hp → Prop} (hp : Cel H p [.int .i64 r, .int .i64 c, vc]) (hq : Cel H q [.int .i64 b]) (hc : Sl eI H vc l) (hs : sidesF r c) (hl : (l.length : Int) = r * c)
    (b0 : 0 ≤ b) (b1 : b ≤ 24) (i0 : 0 ≤ i) (i1 : i ≤ 1000) (k0 : 0 ≤ k) (k1 : k ≤ 1000) (hk : ∀ H', Le H H' → K (.int .i64 (groG r c l b i k)) H') : HT prg I.impl_GrowField_1 [.int .i64 i, .int .i64 k, p, q].toArray H K := by
  refine R.impl_GrowField_1 ?_
  unfold F.impl_GrowField_1
  refine ob_i (hp.ldn rfl) ?_
  refine ob_i (hq.ld0 rfl) ?_
  refine ob_i (vInt_sub (by omega) (by omega)) ?_
  refine ob_i (hq.ld0 rfl) ?_
  refine ob_i (vInt_sub (by omega) (by omega)) ?_
  exact C.look_flat hc hs hl hk
theorem C.impl_GrowField {vc : Value} {r c b : Int} {l : List Int} {H : Hp} {K : Value → Hp → Prop} (hc : Sl eI H vc l)
    (k1 : l.length ≤ 9223372036854775807)
    (hk : ∀ u H', Own eI H' u (groL r c l b) → Nw H u → Le H H' → K (.tuple #[.agg #[.int .i64 (groI (r + 2 * b) r c l b), .int .i64 (groI (c + 2 * b) r c l b), u], .bool (decide (groOk r c l b))]) H') :
    HT prg I.impl_GrowField [.agg #[.int .i64 r, .int .i64 c, vc], .int .i64 b].toArray H K := by
  refine R.impl_GrowField ?_
  unfold F.impl_GrowField
  refine nw_i (fun p H1 hp np le1 => ?_)
  replace hp : Cel H1 p [.int .i64 r, .int .i64 c, vc] := hp
  refine nw_i (fun q H2 oq nq le2 => ?_)
  replace oq : Cel H2 q [.int .i64 b] := oq
  replace hp := hp.le le2
  refine nw_i (fun s H3 os ns le3 => ?_)
  replace os : Cel H3 s [.int .i64 0, .int .i64 0, .slice none 0 0] := os
  replace hp := hp.le le3
  replace oq := oq.le le3
  have le13 := (le1.trans le2).trans le3
  have ns0 : Nw H s := ns.le (le1.trans le2)
  refine ob_i (hp.ldn rfl) ?_
  refine C.impl_isPlain (hc.le le13) k1 (fun H4 le4 => ?_)
  replace hp := hp.le le4
  replace oq := oq.le le4
  replace os := os.le le4
  have leB := le13.trans le4
  have bad : ¬ groOk r c l b → HL.ob (vBuild [(0, 1), (1, 1), (2, 1)] (.agg #[(.int .i64 0), (.int .i64 0), (.slice none 0 0)]) []) fun v32 =>
      st 3 s v32 H4 fun H66 => HL.ob (vLoadN 3 s H66) fun u67 => K (.tuple #[u67, (.bool false)]) H66 := by
    intro hn
    refine ob_i (a := .agg #[.int .i64 0, .int .i64 0, .slice none 0 0]) rfl ?_
    refine os.stn (ws := [.int .i64 0, .int .i64 0, .slice none 0 0]) rfl rfl (by simp [oneCell]) (fun H5 os off5 => ?_)
    refine ob_i (os.ldn rfl) ?_
    have h1 := hk (.slice none 0 0) H5
    simp only [groL, groI, hn, if_false, decide_false] at h1
    exact h1 (Own.nil_of none) (fun b hb => by simp [bk] at hb) (off5.le leB ns0)
  rw [vUn_not, ob_some]
  by_cases c1 : fieldN 1 r c l
  · have q1 := c1.1.1
    have q2 := c1.1.2
    simp only [decide_eq_true c1, oq.ld0 (x := .int .i64 b) rfl, EV]
    refine C.impl_within ?_
    by_cases c2 : 0 ≤ b ∧ b ≤ 24
    · have m1 : vInt .mul (.int .i64 2) (.int .i64 b) = some (.int .i64 (2 * b)) := vInt_mul (by omega) (by omega)
      have m2 : vInt .add (.int .i64 r) (.int .i64 (2 * b)) = some (.int .i64 (r + 2 * b)) := vInt_add (by omega) (by omega)
      have m3 : vInt .add (.int .i64 c) (.int .i64 (2 * b)) = some (.int .i64 (c + 2 * b)) := vInt_add (by omega) (by omega)
      simp only [decide_eq_true c2, hp.fa, hp.ld 0 rfl, oq.ld0 (x := .int .i64 b) rfl, m1, m2, EV]
      refine C.impl_isSide ?_
      by_cases c3 : 1 ≤ r + 2 * b ∧ r + 2 * b ≤ 24
      · simp only [decide_eq_true c3, hp.fa, hp.ld 1 rfl, oq.ld0 (x := .int .i64 b) rfl, m1, m3, EV]
        refine C.impl_isSide ?_
        by_cases c4 : 1 ≤ c + 2 * b ∧ c + 2 * b ≤ 24
        · have hok : groOk r c l b := ⟨c1, c2, c3, c4⟩
          simp only [decide_eq_true c4, hp.fa, hp.ld 0 rfl, hp.ld 1 rfl, oq.ld0 (x := .int .i64 b) rfl, m1, m2, m3, EV]
          refine C.impl_madeField (g := groG r c l b) (by omega) (by omega) (by omega) (by omega) (fun H' i k Z le hi hk' hZ => ?_) (fun u H5 ou nu le5 => ?_)
          · refine ⟨by kernel_rfl, ?_⟩
            exact C.impl_GrowField_1 (hp.le le) (oq.le le) (hc.le (leB.trans le)) c1.1 c1.2.1 c2.1 c2.2 (by omega) (by omega) (by omega) (by omega) hZ
          · have asu : Apart s u := os.apart nu
            replace os := os.le le5
            refine os.stn (ws := [.int .i64 (r + 2 * b), .int .i64 (c + 2 * b), u]) rfl rfl (oc1 rfl (oc1 rfl (oc1 ou.one oc0))) (fun H6 os off6 => ?_)
            refine ob_i (os.ldn rfl) ?_
            have h1 := hk u H6
            simp only [groL, groI, hok, if_true, decide_true] at h1
            exact h1 (ou.off off6 asu.symm) (nu.le leB) (off6.le (leB.trans le5) ns0)
        · simp only [decide_eq_false c4, EV]; exact bad (fun h => c4 h.2.2.2)
      · simp only [decide_eq_false c3, EV]; exact bad (fun h => c3 h.2.2.1)
    · simp only [decide_eq_false c2, EV]; exact bad (fun h => c2 h.2.1)
  · simp only [decide_eq_false c1, EV]; exact bad (fun h => c1 h.1)
theorem C.spec_l04New {rr cc : Int} {H : Hp} {K : Value → Hp → Prop} (r0 : 0 ≤ rr) (r1 : rr ≤ 24) (c0 : 0 ≤ cc) (c1 : cc ≤ 24)
    (hk : ∀ u H', Own eI H' u (List.replicate (rr.toNat * cc.toNat) 0) → Nw H u → Le H H' → K (.agg #[.int .i64 rr, .int .i64 cc, u]) H') : HT prg I.spec_l04New [.int .i64 rr, .int .i64 cc].toArray H K := by
  refine R.spec_l04New ?_
  unfold F.spec_l04New
  have m := Int.mul_le_mul r1 c1 c0 (by omega)
  have m0 := Int.mul_nonneg r0 c0
  refine nw_i (fun q H1 oq nq le1 => ?_)
  rw [vInt_mul (by omega) (by omega), ob_some]
  refine Own.mk_ (z := (0 : Int)) (by omega) (by omega) (by omega) (by omega) (fun u H2 ou nu le2 => ?_)
  have aqu : Apart q u := oq.apart nu
  replace oq := oq.le le2
  refine ob_i (a := .agg #[.int .i64 rr, .int .i64 cc, u]) (by obtain ⟨_, _, _, rfl⟩ := ou.isSl; rfl) ?_
  refine oq.stn (ws := [.int .i64 rr, .int .i64 cc, u]) rfl rfl (oc1 rfl (oc1 rfl (oc1 ou.one oc0))) (fun H3 oq off3 => ?_)
  refine ob_i (oq.ldn rfl) ?_
  rw [Int.toNat_mul r0 c0] at ou
  exact hk u H3 (ou.off off3 aqu.symm) (nu.le le1) (off3.le (le1.trans le2) nq)
theorem C.spec_l05Sides {r c : Int} {H : Hp} {K : Value → Hp → Prop} (hk : K (.bool (decide ((1 ≤ r ∧ r ≤ 24) ∧ 1 ≤ c ∧ c ≤ 24))) H) : HT prg I.spec_l05Sides [.int .i64 r, .int .i64 c].toArray H K := by
  refine R.spec_l05Sides ?_
  unfold F.spec_l05Sides
  refine C.spec_l00In ?_
  by_cases h : 1 ≤ r ∧ r ≤ 24
  · simp only [decide_eq_true h, EV]
    refine C.spec_l00In ?_
    exact kQ (K := K) hk ⟨fun h2 => h2.2, fun h2 => ⟨h, h2⟩⟩
  · simp only [decide_eq_false h, EV]; exact kF (K := K) hk (fun h2 => h h2.1)
/-- A grown field's cells, the first t of the small one's placed. -/
def groP (r c : Int) (l : List Int) (b : Int) (t : Nat) (j : Nat) : Int :=
  if ((0 ≤ (j : Int) / (c + 2 * b) - b ∧ (j : Int) / (c + 2 * b) - b ≤ r - 1) ∧ 0 ≤ (j : Int) % (c + 2 * b) - b ∧ (j : Int) % (c + 2 * b) - b ≤ c - 1) ∧ ((j : Int) / (c + 2 * b) - b) * c + ((j : Int) % (c + 2 * b) - b) < t then
    at_ 0 l (((j : Int) / (c + 2 * b) - b) * c + ((j : Int) % (c + 2 * b) - b)) else 0
def groS (r c : Int) (l : List Int) (b : Int) (t : Nat) : List Int := (List.range ((r + 2 * b).toNat * (c + 2 * b).toNat)).map (groP r c l b t)
theorem groS_length (r c : Int) (l : List Int) (b : Int) (t : Nat) : (groS r c l b t).length = (r + 2 * b).toNat * (c + 2 * b).toNat := by simp [groS]
theorem groS_zero {r c : Int} {l : List Int} {b : Int} (h : groOk r c l b) : groS r c l b 0 = List.replicate ((r + 2 * b).toNat * (c + 2 * b).toNat) 0 := by
  rw [List.eq_replicate_iff]
  refine ⟨groS_length r c l b 0, fun x hx => ?_⟩
  simp only [groS, List.mem_map] at hx
  obtain ⟨j, _, rfl⟩ := hx
  unfold groP
  rw [if_neg]
  rintro ⟨⟨h1, h2⟩, h3⟩
  have := Int.mul_nonneg h1.1 (show (0 : Int) ≤ c by have := h.1.1.2; omega)
  omega
theorem groS_end {r c : Int} {l : List Int} {b : Int} (h : groOk r c l b) (t : Nat) (ht : (t : Int) = r * c) : groS r c l b t = groW r c l b := by
  unfold groS groW mkL
  apply List.map_congr_left
  intro j _
  unfold groP groG flatF
  by_cases h1 : (0 ≤ (j : Int) / (c + 2 * b) - b ∧ (j : Int) / (c + 2 * b) - b ≤ r - 1) ∧ 0 ≤ (j : Int) % (c + 2 * b) - b ∧ (j : Int) % (c + 2 * b) - b ≤ c - 1
  · rw [if_pos h1, if_pos]
    refine ⟨h1, ?_⟩
    have := Int.mul_le_mul (a := (j : Int) / (c + 2 * b) - b) (b := c) (c := r - 1) (d := c) (by omega) (by omega) (by have := h.1.1.2; omega) (by have := h.1.1.1; omega)
    rw [Int.sub_mul r 1 c] at this
    omega
  · rw [if_neg h1, if_neg (fun h2 => h1 h2.1)]
theorem groS_set {r c : Int} {l : List Int} {b : Int} (h : groOk r c l b) {i k : Int} (i0 : 0 ≤ i) (i1 : i < r) (k0 : 0 ≤ k) (k1 : k < c) (t : Nat) (ht : (t : Int) = i * c + k) :
    (groS r c l b t).set ((i + b) * (c + 2 * b) + k + b).toNat (at_ 0 l (i * c + k)) = groS r c l b (t + 1) := by
  have hb := h.2.1
  have hj0 : 0 ≤ (i + b) * (c + 2 * b) := Int.mul_nonneg (by omega) (by omega)
  have hd := divmod (c := c + 2 * b) (i := i + b) (k := k + b) (by omega) (by omega) (by omega)
  apply List.ext_getElem?
  intro j
  rw [List.getElem?_set]
  simp only [groS, List.getElem?_map, List.length_map, List.length_range]
  by_cases hj : j < (r + 2 * b).toNat * (c + 2 * b).toNat
  · rw [List.getElem?_range hj]
    simp only [Option.map_some]
    by_cases e : ((i + b) * (c + 2 * b) + k + b).toNat = j
    · rw [if_pos e, if_pos (by omega)]
      have ej : (j : Int) = (i + b) * (c + 2 * b) + (k + b) := by omega
      unfold groP
      rw [ej, hd.1, hd.2, show i + b - b = i by omega, show k + b - b = k by omega, if_pos ⟨⟨⟨i0, by omega⟩, k0, by omega⟩, by omega⟩]
    · rw [if_neg e]
      congr 1
      unfold groP
      by_cases h1 : (0 ≤ (j : Int) / (c + 2 * b) - b ∧ (j : Int) / (c + 2 * b) - b ≤ r - 1) ∧ 0 ≤ (j : Int) % (c + 2 * b) - b ∧ (j : Int) % (c + 2 * b) - b ≤ c - 1
      · have hne : ((j : Int) / (c + 2 * b) - b) * c + ((j : Int) % (c + 2 * b) - b) ≠ t := by
          intro hh
          rw [ht] at hh
          have d1 := divmod (c := c) (i := (j : Int) / (c + 2 * b) - b) (k := (j : Int) % (c + 2 * b) - b) (by omega) h1.2.1 (by omega)
          have d2 := divmod (c := c) (i := i) (k := k) (by omega) k0 k1
          rw [hh] at d1
          have e1 : (j : Int) / (c + 2 * b) = i + b := by omega
          have e2 : (j : Int) % (c + 2 * b) = k + b := by omega
          have e3 := Int.mul_ediv_add_emod (j : Int) (c + 2 * b)
          rw [e1, e2, Int.mul_comm] at e3
          omega
        by_cases h2 : ((j : Int) / (c + 2 * b) - b) * c + ((j : Int) % (c + 2 * b) - b) < t
        · rw [if_pos ⟨h1, h2⟩, if_pos ⟨h1, by omega⟩]
        · rw [if_neg (fun h3 => h2 h3.2), if_neg (fun h3 => by have := h3.2; omega)]
      · rw [if_neg (fun h3 => h1 h3.1), if_neg (fun h3 => h1 h3.1)]
  · rw [List.getElem?_eq_none (by simpa using hj)]
    simp only [Option.map_none]
    split
    · rw [if_neg (by omega)]
    · rfl
theorem C.spec_l05Grow {p vc : Value} {r c b : Int} {l : List Int} {H : Hp} {K : Value → Hp → Prop} (hp : Cel H p [.int .i64 r, .int .i64 c, vc]) (hc : Sl eI H vc l) (hok : groOk r c l b)
    (hk : ∀ u H', Own eI H' u (groW r c l b) → Nw H u → Le H H' → K (.agg #[.int .i64 (r + 2 * b), .int .i64 (c + 2 * b), u]) H') : HT prg I.spec_l05Grow [p, .int .i64 b].toArray H K := by
  refine R.spec_l05Grow ?_
  unfold F.spec_l05Grow
  have q1 := hok.1.1.1
  have q2 := hok.1.1.2
  have q3 := hok.2.1
  have q4 := hok.2.2.1
  have q5 := hok.2.2.2
  have hlen := hok.1.2.1
  have hlc := fieldN_len hok.1
  have hN : ((groS r c l b 0).length : Int) = (r + 2 * b) * (c + 2 * b) := by rw [groS_length, Int.natCast_mul, Int.toNat_of_nonneg (by omega), Int.toNat_of_nonneg (by omega)]
  have hNt : ∀ t, ((groS r c l b t).length : Int) = (r + 2 * b) * (c + 2 * b) := fun t => by rw [groS_length, Int.natCast_mul, Int.toNat_of_nonneg (by omega), Int.toNat_of_nonneg (by omega)]
  refine nw_i (fun q H1 oq nq le1 => ?_)
  replace oq : Cel H1 q [.int .i64 0, .int .i64 0, .slice none 0 0] := oq
  have apq : Apart p q := hp.apart nq
  replace hp := hp.le le1
  refine ob_i hp.nilC ?_
  refine ob_i (hp.fa 0) ?_
  refine ob_i (hp.ld 0 rfl) ?_
  refine ob_i (vInt_mul (a := 2) (by omega) (by omega)) ?_
  refine ob_i (vInt_add (by omega) (by omega)) ?_
  refine ob_i hp.nilC ?_
  refine ob_i (hp.fa 1) ?_
  refine ob_i (hp.ld 1 rfl) ?_
  refine ob_i (vInt_mul (a := 2) (by omega) (by omega)) ?_
  refine ob_i (vInt_add (by omega) (by omega)) ?_
  refine C.spec_l04New (by omega) (by omega) (by omega) (by omega) (fun u H2 ou nu le2 => ⟨le2, ?_⟩)
  have aqu : Apart q u := oq.apart nu
  have apu : Apart p u := hp.apart nu
  replace oq := oq.le le2
  replace hp := hp.le le2
  have nu0 : Nw H u := nu.le le1
  refine nw_i (fun s H3 os ns le3 => ?_)
  have aus : Apart u s := ou.apart ns
  have aqs : Apart q s := oq.apart ns
  have aps : Apart p s := hp.apart ns
  replace ou := ou.le le3
  replace oq := oq.le le3
  replace hp := hp.le le3
  have ns0 : Nw H s := ns.le (le1.trans le2)
  refine os.stn (ws := [.int .i64 (r + 2 * b), .int .i64 (c + 2 * b), u]) rfl rfl (oc1 rfl (oc1 rfl (oc1 ou.one oc0))) (fun H4 os off4 => ?_)
  replace ou := ou.off off4 aus
  replace oq := oq.off off4 aqs
  replace hp := hp.off off4 aps
  have leB : Le H H4 := off4.le ((le1.trans le2).trans le3) ns0
  refine jn_i (fun σ' H' => σ' 4 = q ∧ σ' 5 = s ∧ Cel H' q [.int .i64 0, .int .i64 0, .slice none 0 0] ∧ Cel H' s [.int .i64 (r + 2 * b), .int .i64 (c + 2 * b), u] ∧ Own eI H' u (groW r c l b) ∧ Le H H') (fun σ' H' hP => ?_) (fun J18 hJ18 => ?_)
  · obtain ⟨g4, g5, oq, os, ou, le⟩ := hP
    rw [g4, g5]
    refine ob_i (os.ldn rfl) ?_
    refine oq.stn (ws := [.int .i64 (r + 2 * b), .int .i64 (c + 2 * b), u]) rfl rfl (oc1 rfl (oc1 rfl (oc1 ou.one oc0))) (fun H5 oq off5 => ?_)
    refine ob_i (oq.ldn rfl) ?_
    exact hk u H5 (ou.off off5 aqu.symm) nu0 (off5.le le nq)
  refine ⟨fun n σ H5 => ∃ i : Nat, n = r.toNat - i ∧ (i : Int) ≤ r ∧ σ 0 = p ∧ σ 1 = .int .i64 b ∧ σ 4 = q ∧ σ 5 = s ∧ σ 6 = .int .i64 i ∧ Cel H5 p [.int .i64 r, .int .i64 c, vc] ∧ Cel H5 q [.int .i64 0, .int .i64 0, .slice none 0 0] ∧
      Cel H5 s [.int .i64 (r + 2 * b), .int .i64 (c + 2 * b), u] ∧ Own eI H5 u (groS r c l b (i * c.toNat)) ∧ Le H H5,
    ⟨_, 0, rfl, by omega, rfl, rfl, rfl, rfl, rfl, hp, oq, os, by rw [Nat.zero_mul, groS_zero hok]; exact ou, leB⟩, ?_⟩
  rintro n σ H5 ⟨i, rfl, hir, g0, g1, g4, g5, g6, hp, oq, os, ou, le5⟩
  simp only [g0, g6]
  refine ob_i hp.nilC ?_
  refine ob_i (hp.fa 0) ?_
  refine ob_i (hp.ld 0 rfl) ?_
  refine ob_i (vInt_lss _ _ _) ?_
  refine cnd_d (fun hlt => ?_) (fun hge => ?_)
  · refine jn_i (fun σ' H' => σ' 0 = p ∧ σ' 1 = .int .i64 b ∧ σ' 4 = q ∧ σ' 5 = s ∧ σ' 6 = .int .i64 i ∧ Cel H' p [.int .i64 r, .int .i64 c, vc] ∧ Cel H' q [.int .i64 0, .int .i64 0, .slice none 0 0] ∧
        Cel H' s [.int .i64 (r + 2 * b), .int .i64 (c + 2 * b), u] ∧ Own eI H' u (groS r c l b ((i + 1) * c.toNat)) ∧ Le H H') (fun σ' H' hP => ?_) (fun J27 hJ27 => ?_)
    · obtain ⟨z0, z1, z4, z5, z6, zp, zq, zs, zu, zle⟩ := hP
      rw [z6]
      refine ob_i (vInt_add (by omega) (by omega)) ?_
      exact nxt (r.toNat - (i + 1)) (by omega) ⟨i + 1, rfl, by omega, z0, z1, z4, z5, rfl, zp, zq, zs, zu, zle⟩
    refine ⟨fun n σ H6 => ∃ k : Nat, n = c.toNat - k ∧ (k : Int) ≤ c ∧ σ 0 = p ∧ σ 1 = .int .i64 b ∧ σ 4 = q ∧ σ 5 = s ∧ σ 6 = .int .i64 i ∧ σ 7 = .int .i64 k ∧ Cel H6 p [.int .i64 r, .int .i64 c, vc] ∧ Cel H6 q [.int .i64 0, .int .i64 0, .slice none 0 0] ∧
        Cel H6 s [.int .i64 (r + 2 * b), .int .i64 (c + 2 * b), u] ∧ Own eI H6 u (groS r c l b (i * c.toNat + k)) ∧ Le H H6,
      ⟨_, 0, rfl, by omega, g0, g1, g4, g5, g6, rfl, hp, oq, os, ou, le5⟩, ?_⟩
    rintro n σ H6 ⟨k, rfl, hkc, z0, z1, z4, z5, z6, z7, hp, oq, os, ou, le6⟩
    simp only [z0, z1, z5, z6, z7]
    refine ob_i hp.nilC ?_
    refine ob_i (hp.fa 1) ?_
    refine ob_i (hp.ld 1 rfl) ?_
    refine ob_i (vInt_lss _ _ _) ?_
    refine cnd_d (fun hkl => ?_) (fun hkg => ?_)
    · have ht : ((i * c.toNat + k : Nat) : Int) = i * c + k := cast_ix (by omega)
      have n0 : 0 ≤ ((i : Int) + b) * (c + 2 * b) := Int.mul_nonneg (by omega) (by omega)
      have n1 := Int.mul_le_mul (a := (i : Int) + b) (b := c + 2 * b) (c := r + 2 * b - b - 1) (d := c + 2 * b) (by omega) (by omega) (by omega) (by omega)
      rw [Int.sub_mul (r + 2 * b - b) 1, Int.sub_mul (r + 2 * b) b] at n1
      have n2 : 0 ≤ b * (c + 2 * b) := Int.mul_nonneg (by omega) (by omega)
      have n3 := Int.mul_le_mul (a := r + 2 * b) (b := c + 2 * b) (c := 24) (d := 24) (by omega) (by omega) (by omega) (by omega)
      have n4 : 0 ≤ (i : Int) * c := Int.mul_nonneg (by omega) (by omega)
      have n5 := Int.mul_le_mul (a := (i : Int)) (b := c) (c := r - 1) (d := c) (by omega) (by omega) (by omega) (by omega)
      rw [Int.sub_mul r 1 c] at n5
      have hm := sidesF_mul hok.1.1
      have hT := hNt (i * c.toNat + k)
      refine ob_i (os.fa 2) ?_
      refine ob_i (os.ld 2 rfl) ?_
      refine ob_i (vInt_add (by omega) (by omega)) ?_
      refine ob_i (os.fa 1) ?_
      refine ob_i (os.ld 1 rfl) ?_
      refine ob_i (vInt_mul (by omega) (by omega)) ?_
      refine ob_i (vInt_add (by omega) (by omega)) ?_
      refine ob_i (vInt_add (by omega) (by omega)) ?_
      refine ob_i hp.nilC ?_
      refine ob_i (hp.fa 2) ?_
      refine ob_i (hp.ld 2 rfl) ?_
      refine ob_i hp.nilC ?_
      refine ob_i (hp.fa 1) ?_
      refine ob_i (hp.ld 1 rfl) ?_
      refine ob_i (vInt_mul (by omega) (by omega)) ?_
      refine ob_i (vInt_add (by omega) (by omega)) ?_
      refine ob_i ((hc.le le6).ix (by omega) (by omega)) ?_
      refine ob_i ((hc.le le6).ld 0 (by omega) (by omega)) ?_
      refine ob_i (ou.sl.ix (by omega) (by omega)) ?_
      refine ou.st (x := at_ 0 l ((i : Int) * c + k)) (by omega) (by omega) rfl rfl (fun H7 ou7 off7 => ?_)
      refine ob_i (vInt_add (by omega) (by omega)) ?_
      rw [groS_set hok (by omega) hlt (by omega) hkl _ ht] at ou7
      exact nxt (c.toNat - (k + 1)) (by omega) ⟨k + 1, rfl, by omega, z0, z1, z4, z5, z6, rfl, hp.off off7 apu, oq.off off7 aqu, os.off off7 aus.symm, ou7, off7.le le6 nu0⟩
    · have e : k = c.toNat := by omega
      refine hJ27 _ _ ⟨z0, z1, z4, z5, z6, hp, oq, os, ?_, le6⟩
      rw [Nat.add_mul, Nat.one_mul, ← e]; rw [← e] at ou; exact ou
  · have e : (i : Int) = r := by omega
    have ht : ((i * c.toNat : Nat) : Int) = r * c := by rw [Int.natCast_mul, Int.toNat_of_nonneg (by omega), e]
    rw [groS_end hok _ ht] at ou
    exact hJ18 _ _ ⟨g4, g5, oq, os, ou, le5⟩
theorem C.spec_GrowField {vc : Value} {r c b : Int} {l : List Int} {H : Hp} {K : Value → Hp → Prop} (hc : Sl eI H vc l)
    (k1 : l.length ≤ 9223372036854775807)
    (hk : ∀ u H', Own eI H' u (groL r c l b) → Nw H u → Le H H' → K (.tuple #[.agg #[.int .i64 (groI (r + 2 * b) r c l b), .int .i64 (groI (c + 2 * b) r c l b), u], .bool (decide (groOk r c l b))]) H') :
    HT prg I.spec_GrowField [.agg #[.int .i64 r, .int .i64 c, vc], .int .i64 b].toArray H K := by
  refine R.spec_GrowField ?_
  unfold F.spec_GrowField
  refine nw_i (fun p H1 hp np le1 => ?_)
  replace hp : Cel H1 p [.int .i64 r, .int .i64 c, vc] := hp
  refine nw_i (fun s H2 os ns le2 => ?_)
  replace os : Cel H2 s [.int .i64 0, .int .i64 0, .slice none 0 0] := os
  replace hp := hp.le le2
  have leB := le1.trans le2
  have ns0 : Nw H s := ns.le le1
  have bad : ¬ groOk r c l b → HL.ob (vBuild [(0, 1), (1, 1), (2, 1)] (.agg #[(.int .i64 0), (.int .i64 0), (.slice none 0 0)]) []) fun v32 =>
      st 3 s v32 H2 fun H66 => HL.ob (vLoadN 3 s H66) fun u67 => K (.tuple #[u67, (.bool false)]) H66 := by
    intro hn
    refine ob_i (a := .agg #[.int .i64 0, .int .i64 0, .slice none 0 0]) rfl ?_
    refine os.stn (ws := [.int .i64 0, .int .i64 0, .slice none 0 0]) rfl rfl (by simp [oneCell]) (fun H5 os off5 => ?_)
    refine ob_i (os.ldn rfl) ?_
    have h1 := hk (.slice none 0 0) H5
    simp only [groL, groI, hn, if_false, decide_false] at h1
    exact h1 (Own.nil_of none) (fun b hb => by simp [bk] at hb) (off5.le leB ns0)
  refine C.spec_l04Plain hp (hc.le leB) k1 ?_
  rw [vUn_not, ob_some]
  by_cases c1 : fieldN 1 r c l
  · have q1 := c1.1.1
    have q2 := c1.1.2
    simp only [decide_eq_true c1, EV]
    refine C.spec_l00In ?_
    by_cases c2 : 0 ≤ b ∧ b ≤ 24
    · have m1 : vInt .mul (.int .i64 2) (.int .i64 b) = some (.int .i64 (2 * b)) := vInt_mul (by omega) (by omega)
      have m2 : vInt .add (.int .i64 r) (.int .i64 (2 * b)) = some (.int .i64 (r + 2 * b)) := vInt_add (by omega) (by omega)
      have m3 : vInt .add (.int .i64 c) (.int .i64 (2 * b)) = some (.int .i64 (c + 2 * b)) := vInt_add (by omega) (by omega)
      simp only [decide_eq_true c2, hp.fa, hp.ld 0 rfl, hp.ld 1 rfl, m1, m2, m3, EV]
      refine C.spec_l05Sides ?_
      by_cases c3 : (1 ≤ r + 2 * b ∧ r + 2 * b ≤ 24) ∧ 1 ≤ c + 2 * b ∧ c + 2 * b ≤ 24
      · have hok : groOk r c l b := ⟨c1, c2, c3.1, c3.2⟩
        simp only [decide_eq_true c3, EV]
        refine C.spec_l05Grow hp (hc.le leB) hok (fun u H5 ou nu le5 => ?_)
        have asu : Apart s u := os.apart nu
        replace os := os.le le5
        refine os.stn (ws := [.int .i64 (r + 2 * b), .int .i64 (c + 2 * b), u]) rfl rfl (oc1 rfl (oc1 rfl (oc1 ou.one oc0))) (fun H6 os off6 => ?_)
        refine ob_i (os.ldn rfl) ?_
        have h1 := hk u H6
        simp only [groL, groI, hok, if_true, decide_true] at h1
        exact h1 (ou.off off6 asu.symm) (nu.le leB) (off6.le (leB.trans le5) ns0)
      · simp only [decide_eq_false c3, EV]; exact bad (fun h => c3 ⟨h.2.2.1, h.2.2.2⟩)
    · simp only [decide_eq_false c2, EV]; exact bad (fun h => c2 h.2.1)
  · simp only [decide_eq_false c1, EV]; exact bad (fun h => c1 h.1)
end Go.Proofs.Ytnndhafldmkdeaa
