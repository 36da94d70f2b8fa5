/- Fields: which are valid, which are plain, and what lies where, round and round. -/
import Derived.Test.YtkehomlkgcfjnaaSG
namespace Go.Proofs.Ytkehomlkgcfjnaa
open HL
set_option maxRecDepth 100000
def sidesF (r c : Int) : Prop := (1 ≤ r ∧ r ≤ 24) ∧ (1 ≤ c ∧ c ≤ 24)
instance (r c : Int) : Decidable (sidesF r c) := by unfold sidesF; infer_instance
theorem sidesF_mul {r c : Int} (h : sidesF r c) : 1 ≤ r * c ∧ r * c ≤ 576 := by
  obtain ⟨⟨h1, h2⟩, h3, h4⟩ := h
  have a := Int.mul_le_mul h2 h4 (by omega) (by omega)
  have b := Int.mul_le_mul h1 h3 (by omega) (by omega)
  omega
/-- A field whose cells are from 0 to n. -/
def fieldN (n r c : Int) (l : List Int) : Prop := sidesF r c ∧ (l.length : Int) = r * c ∧ ∀ x ∈ l, 0 ≤ x ∧ x ≤ n
instance (n r c : Int) (l : List Int) : Decidable (fieldN n r c l) := by unfold fieldN; infer_instance
theorem vInt_mulF (a b : Int) : vInt .mul (.int .i64 a) (.int .i64 b) = some (.int .i64 (IntKind.i64.wrap (a * b))) := by simp only [vInt, if_true]
theorem fieldN_len {n r c : Int} {l : List Int} (h : fieldN n r c l) : l.length ≤ 576 := by
  have := sidesF_mul h.1
  have := h.2.1
  omega
theorem fieldN_at {n r c : Int} {l : List Int} (h : fieldN n r c l) {i : Int} (h0 : 0 ≤ i) (hi : i < r * c) : 0 ≤ at_ 0 l i ∧ at_ 0 l i ≤ n :=
  h.2.2 _ (at_mem 0 l h0 (by rw [h.2.1]; exact hi))
theorem C.impl_isSide {r : Int} {H : Hp} {K : Value → Hp → Prop} (hk : K (.bool (decide (1 ≤ r ∧ r ≤ 24))) H) : HT prg I.impl_isSide [.int .i64 r].toArray H K := R.impl_isSide (C.impl_within hk)
theorem C.impl_ValidField {vc : Value} {r c : Int} {l : List Int} {H : Hp} {K : Value → Hp → Prop} (hc : Sl eI H vc l)
    (k1 : l.length ≤ 9223372036854775807) (hk : ∀ H', Le H H' → K (.bool (decide (fieldN 9 r c l))) H') : HT prg I.impl_ValidField [.agg #[.int .i64 r, .int .i64 c, vc]].toArray H K := by
  refine R.impl_ValidField ?_
  unfold F.impl_ValidField
  refine nw_i (fun p H1 hp np le1 => ?_)
  replace hk := hk H1 le1
  replace hc := hc.le le1
  simp only [hp.fa, hp.ld 0 rfl, hp.ld 1 rfl, vInt_mulF, ob_some]
  refine C.impl_isSide ?_
  by_cases c1 : 1 ≤ r ∧ r ≤ 24
  · simp only [decide_eq_true c1, hp.fa, hp.ld 1 rfl, EV]
    refine C.impl_isSide ?_
    by_cases c2 : 1 ≤ c ∧ c ≤ 24
    · have hs : sidesF r c := ⟨c1, c2⟩
      have hm := sidesF_mul hs
      simp only [decide_eq_true c2, hp.fa, hp.ld 2 rfl, wrap64 (show -9223372036854775808 ≤ r * c by omega) (show r * c < 9223372036854775808 by omega), EV]
      refine C.impl_areMany hc k1 ?_
      exact kQ (K := K) hk ⟨fun h => ⟨⟨by have := h.2.1; omega, by have := h.2.1; omega⟩, h.2.2⟩, fun h => ⟨hs, by omega, h.2⟩⟩
    · simp only [decide_eq_false c2, EV]; exact kF (K := K) hk (fun h => c2 h.1.2)
  · simp only [decide_eq_false c1, EV]; exact kF (K := K) hk (fun h => c1 h.1.1)
theorem C.impl_isPlain {vc : Value} {r c : Int} {l : List Int} {H : Hp} {K : Value → Hp → Prop} (hc : Sl eI H vc l)
    (k1 : l.length ≤ 9223372036854775807) (hk : ∀ H', Le H H' → K (.bool (decide (fieldN 1 r c l))) H') : HT prg I.impl_isPlain [.agg #[.int .i64 r, .int .i64 c, vc]].toArray H K := by
  refine R.impl_isPlain ?_
  unfold F.impl_isPlain
  refine nw_i (fun p H1 hp np le1 => ?_)
  refine ob_i (hp.ldn rfl) ?_
  refine C.impl_ValidField (hc.le le1) k1 (fun H2 le2 => ?_)
  replace hk := hk H2 (le1.trans le2)
  replace hc := hc.le (le1.trans le2)
  replace hp := hp.le le2
  by_cases c1 : fieldN 9 r c l
  · simp only [decide_eq_true c1, hp.fa, hp.ld 2 rfl, EV]
    refine C.impl_areWithin hc k1 ?_
    exact kQ (K := K) hk ⟨fun h => h.2.2, fun h => ⟨c1.1, c1.2.1, h⟩⟩
  · simp only [decide_eq_false c1, EV]; exact kF (K := K) hk (fun h => c1 ⟨h.1, h.2.1, fun x hx => by have := h.2.2 x hx; omega⟩)
theorem fm_eq {a b : Int} (hb : 0 < b) : (a.tmod b + b).tmod b = a % b := by
  have h0 : 0 ≤ a.tmod b + b := by have := Int.lt_tmod_of_pos a hb; omega
  rw [Int.tmod_eq_emod_of_nonneg h0, Int.tmod_def, show a - b * a.tdiv b + b = a + b * (1 - a.tdiv b) by rw [Int.mul_sub, Int.mul_one]; omega, Int.add_mul_emod_self_left]
theorem tmod_bnd {a b : Int} (hb : 0 < b) : -b < a.tmod b ∧ a.tmod b < b := ⟨by have := Int.lt_tmod_of_pos a hb; omega, Int.tmod_lt_of_pos a hb⟩
/-- A place, round and round. -/
def roundF (r c i k : Int) : Int := i % r * c + k % c
theorem roundF_lt {r c i k : Int} (h : sidesF r c) : 0 ≤ i % r ∧ i % r < r ∧ 0 ≤ k % c ∧ k % c < c ∧ 0 ≤ i % r * c ∧ i % r * c ≤ 576 ∧ 0 ≤ roundF r c i k ∧ roundF r c i k < r * c := by
  obtain ⟨⟨h1, h2⟩, h3, h4⟩ := h
  have a1 := Int.emod_nonneg i (b := r) (by omega)
  have a2 := Int.emod_lt_of_pos i (b := r) (by omega)
  have a3 := Int.emod_nonneg k (b := c) (by omega)
  have a4 := Int.emod_lt_of_pos k (b := c) (by omega)
  have a5 := Int.mul_nonneg (a := i % r) (b := c) a1 (by omega)
  have a6 := Int.mul_le_mul (a := i % r) (b := c) (c := r - 1) (d := c) (by omega) (by omega) (by omega) (by omega)
  rw [Int.sub_mul] at a6
  have a7 := Int.mul_le_mul h2 h4 (by omega) (by omega)
  unfold roundF
  omega
theorem C.floorMod {a b : Int} {H : Hp} {K : Value → Hp → Prop} (h0 : -1000000 ≤ a) (h1 : a ≤ 1000000) (h2 : 0 < b) (h3 : b ≤ 1000000) (hk : K (.int .i64 (a % b)) H) : HT prg I.impl_floorMod [.int .i64 a, .int .i64 b].toArray H K := by
  refine R.impl_floorMod ?_
  unfold F.impl_floorMod
  have t1 := tmod_bnd (a := a) (b := b) h2
  rw [vInt_rem (by omega), ob_some, vInt_add (by omega) (by omega), ob_some, vInt_rem (by omega), ob_some, fm_eq h2]
  exact hk
theorem C.impl_Field_at {vc : Value} {r c i k : Int} {l : List Int} {H : Hp} {K : Value → Hp → Prop} (hc : Sl eI H vc l) (h0 : 0 ≤ i * c) (h1 : i * c ≤ 1000000) (h2 : 0 ≤ i * c + k) (h3 : i * c + k < l.length) (h4 : l.length ≤ 1000000)
    (hk : ∀ H', Le H H' → K (.int .i64 (at_ 0 l (i * c + k))) H') : HT prg I.impl_Field_at [.agg #[.int .i64 r, .int .i64 c, vc], .int .i64 i, .int .i64 k].toArray H K := by
  refine R.impl_Field_at ?_
  unfold F.impl_Field_at
  refine nw_i (fun p H1 hp np le1 => ?_)
  simp only [hp.fa, hp.ld 1 rfl, hp.ld 2 rfl, ob_some]
  rw [vInt_mul (by omega) (by omega), ob_some, vInt_add (by omega) (by omega), ob_some, (hc.le le1).ix h2 h3, ob_some, (hc.le le1).ld 0 h2 h3, ob_some]
  exact hk _ le1
theorem C.look_round {vc : Value} {r c i k : Int} {l : List Int} {H : Hp} {K : Value → Hp → Prop} (hc : Sl eI H vc l) (hs : sidesF r c) (hl : (l.length : Int) = r * c) (i0 : -1000 ≤ i) (i1 : i ≤ 1000) (k0 : -1000 ≤ k) (k1 : k ≤ 1000)
    (hk : ∀ H', Le H H' → K (.int .i64 (at_ 0 l (roundF r c i k))) H') : HT prg I.impl_Field_look [.agg #[.int .i64 r, .int .i64 c, vc], .int .i64 i, .int .i64 k, .bool true].toArray H K := by
  refine R.impl_Field_look ?_
  unfold F.impl_Field_look
  refine nw_i (fun p H1 hp np le1 => ?_)
  refine cnd_t1 ?_
  have b := roundF_lt (i := i) (k := k) hs
  have m := sidesF_mul hs
  have q1 := hs.1
  have q2 := hs.2
  refine ob_i (hp.ldn rfl) ?_
  simp only [hp.fa, hp.ld 0 rfl, hp.ld 1 rfl, ob_some]
  refine C.floorMod (by omega) (by omega) (by omega) (by omega) ⟨Le.refl _, ?_⟩
  refine C.floorMod (by omega) (by omega) (by omega) (by omega) ⟨Le.refl _, ?_⟩
  refine C.impl_Field_at (hc.le le1) (by omega) (by omega) (by unfold roundF at b; omega) (by rw [hl]; unfold roundF at b; omega) (by omega) (fun H2 le2 => ⟨le2, ?_⟩)
  exact hk _ (le1.trans le2)
end Go.Proofs.Ytkehomlkgcfjnaa
