/- Fields: which are valid, which are plain, and what lies where, round and round. -/
import Derived.Test.YtialllbbbpmkbaaDoorSG
namespace Go.Proofs.YtialllbbbpmkbaaDoor
open HL
set_option maxRecDepth 100000
def sidesF (r c : Int) : Prop := (1 ≤ r ∧ r ≤ 24) ∧ (1 ≤ c ∧ c ≤ 24)
instance (r c : Int) : Decidable (sidesF r c) := by unfold sidesF; infer_instance
theorem sidesF_mul {r c : Int} (h : sidesF r c) : 1 ≤ r * c ∧ r * c ≤ 576 := by
  obtain ⟨⟨h1, h2⟩, h3, h4⟩ := h
  have a := Int.mul_le_mul h2 h4 (by omega) (by omega)
  have b := Int.mul_le_mul h1 h3 (by omega) (by omega)
  omega
/-- A field whose cells are from 0 to n. -/
def fieldN (n r c : Int) (l : List Int) : Prop := sidesF r c ∧ (l.length : Int) = r * c ∧ ∀ x ∈ l, 0 ≤ x ∧ x ≤ n
instance (n r c : Int) (l : List Int) : Decidable (fieldN n r c l) := by unfold fieldN; infer_instance
theorem vInt_mulF (a b : Int) : vInt .mul (.int .i64 a) (.int .i64 b) = some (.int .i64 (IntKind.i64.wrap (a * b))) := by simp only [vInt, if_true]
theorem fieldN_len {n r c : Int} {l : List Int} (h : fieldN n r c l) : l.length ≤ 576 := by
  have := sidesF_mul h.1
  have := h.2.1
  omega
theorem fieldN_at {n r c : Int} {l : List Int} (h : fieldN n r c l) {i : Int} (h0 : 0 ≤ i) (hi : i < r * c) : 0 ≤ at_ 0 l i ∧ at_ 0 l i ≤ n :=
  h.2.2 _ (at_mem 0 l h0 (by rw [h.2.1]; exact hi))
theorem C.spec_l04Is {p vc : Value} {r c : Int} {l : List Int} {H : Hp} {K : Value → Hp → Prop} (hp : Cel H p [.int .i64 r, .int .i64 c, vc]) (hc : Sl eI H vc l)
    (k1 : l.length ≤ 9223372036854775807) (hk : K (.bool (decide (fieldN 9 r c l))) H) : HT prg I.spec_l04Is [p].toArray H K := by
  refine R.spec_l04Is ?_
  unfold F.spec_l04Is
  simp only [hp.nilC, hp.fa, hp.ld 0 rfl, ob_some]
  refine C.spec_l00In ⟨Le.refl _, ?_⟩
  by_cases c1 : 1 ≤ r ∧ r ≤ 24
  · simp only [decide_eq_true c1, hp.nilC, hp.fa, hp.ld 1 rfl, EV]
    refine C.spec_l00In ⟨Le.refl _, ?_⟩
    by_cases c2 : 1 ≤ c ∧ c ≤ 24
    · have hs : sidesF r c := ⟨c1, c2⟩
      have hm := sidesF_mul hs
      simp only [decide_eq_true c2, hp.nilC, hp.fa, hp.ld 2 rfl, hp.ld 0 rfl, hp.ld 1 rfl, hc.len, vInt_mulF, wrap64 (show -9223372036854775808 ≤ r * c by omega) (show r * c < 9223372036854775808 by omega), EV]
      by_cases c3 : (l.length : Int) = r * c
      · have f3 : decide ((l.length : Int) ≠ r * c) = false := decide_eq_false (fun h => h c3)
        simp only [f3, EV]
        unfold jn; dsimp only
        refine ⟨fun n σ H1 => ∃ i : Nat, n = l.length - i ∧ i ≤ l.length ∧ H1 = H ∧ σ 0 = p ∧ σ 3 = .int .i64 i ∧ ∀ x ∈ l.take i, 0 ≤ x ∧ x ≤ 9, ⟨_, 0, rfl, by omega, rfl, rfl, rfl, by simp⟩, ?_⟩
        rintro n σ H1 ⟨i, rfl, hi', rfl, h0, h3, hall⟩
        simp only [h0, h3, hp.nilC, hp.fa, hp.ld 2 rfl, hc.len, vInt_lss, ob_some]
        refine cnd_d (fun hlt => ?_) (fun hge => ?_)
        · have hlt' : i < l.length := by omega
          rw [hc.ix (by omega) hlt, ob_some, hc.ld 0 (by omega) hlt, ob_some]
          refine C.spec_l00In ?_
          rw [vUn_not, ob_some]
          refine cnd_i (fun hb => ?_) (fun hb => ?_)
          · refine retK (K := K) (v' := .bool false) rfl (kF (K := K) hk ?_)
            intro hh
            have := hh.2.2 _ (at_mem 0 l (i := i) (by omega) hlt)
            simp [this] at hb
          · rw [vInt_add (by omega) (by omega), ob_some]
            refine nxt (l.length - (i + 1)) (by omega) ⟨i + 1, rfl, by omega, rfl, h0, rfl, ?_⟩
            rw [take_at 0 l hlt']
            intro x hx
            rcases List.mem_append.mp hx with hx | hx
            · exact hall x hx
            · simp only [List.mem_singleton] at hx; subst hx; simpa using hb
        · rw [List.take_of_length_le (by omega)] at hall
          exact retK (K := K) (v' := .bool true) rfl (kT (K := K) hk ⟨hs, c3, hall⟩)
      · have f3 : decide ((l.length : Int) ≠ r * c) = true := decide_eq_true c3
        simp only [f3, EV]; exact kF (K := K) hk (fun h => c3 h.2.1)
    · simp only [decide_eq_false c2, EV]; exact kF (K := K) hk (fun h => c2 h.1.2)
  · simp only [decide_eq_false c1, EV]; exact kF (K := K) hk (fun h => c1 h.1.1)
theorem C.spec_l04Plain {p vc : Value} {r c : Int} {l : List Int} {H : Hp} {K : Value → Hp → Prop} (hp : Cel H p [.int .i64 r, .int .i64 c, vc]) (hc : Sl eI H vc l)
    (k1 : l.length ≤ 9223372036854775807) (hk : K (.bool (decide (fieldN 1 r c l))) H) : HT prg I.spec_l04Plain [p].toArray H K := by
  refine R.spec_l04Plain ?_
  unfold F.spec_l04Plain
  refine C.spec_l04Is hp hc k1 ?_
  by_cases c1 : fieldN 9 r c l
  · simp only [decide_eq_true c1, EV]
    unfold jn; dsimp only
    refine ⟨fun n σ H1 => ∃ i : Nat, n = l.length - i ∧ i ≤ l.length ∧ H1 = H ∧ σ 0 = p ∧ σ 3 = .int .i64 i ∧ ∀ x ∈ l.take i, x ≤ 1, ⟨_, 0, rfl, by omega, rfl, rfl, rfl, by simp⟩, ?_⟩
    rintro n σ H1 ⟨i, rfl, hi', rfl, h0, h3, hall⟩
    simp only [h0, h3, hp.nilC, hp.fa, hp.ld 2 rfl, hc.len, vInt_lss, ob_some]
    refine cnd_d (fun hlt => ?_) (fun hge => ?_)
    · have hlt' : i < l.length := by omega
      rw [hc.ix (by omega) hlt, ob_some, hc.ld 0 (by omega) hlt, ob_some, vInt_gtr, ob_some]
      refine cnd_d (fun hb => ?_) (fun hb => ?_)
      · refine retK (K := K) (v' := .bool false) rfl (kF (K := K) hk ?_)
        intro hh
        have := hh.2.2 _ (at_mem 0 l (i := i) (by omega) hlt)
        omega
      · rw [vInt_add (by omega) (by omega), ob_some]
        refine nxt (l.length - (i + 1)) (by omega) ⟨i + 1, rfl, by omega, rfl, h0, rfl, ?_⟩
        rw [take_at 0 l hlt']
        intro x hx
        rcases List.mem_append.mp hx with hx | hx
        · exact hall x hx
        · simp only [List.mem_singleton] at hx; subst hx; omega
    · rw [List.take_of_length_le (by omega)] at hall
      exact retK (K := K) (v' := .bool true) rfl (kT (K := K) hk ⟨c1.1, c1.2.1, fun x hx => ⟨(c1.2.2 x hx).1, hall x hx⟩⟩)
  · simp only [decide_eq_false c1, EV]; exact kF (K := K) hk (fun h => c1 ⟨h.1, h.2.1, fun x hx => by have := h.2.2 x hx; omega⟩)
theorem C.impl_isSide {r : Int} {H : Hp} {K : Value → Hp → Prop} (hk : K (.bool (decide (1 ≤ r ∧ r ≤ 24))) H) : HT prg I.impl_isSide [.int .i64 r].toArray H K := R.impl_isSide (C.impl_within hk)
theorem C.impl_ValidField {vc : Value} {r c : Int} {l : List Int} {H : Hp} {K : Value → Hp → Prop} (hc : Sl eI H vc l)
    (k1 : l.length ≤ 9223372036854775807) (hk : ∀ H', Le H H' → K (.bool (decide (fieldN 9 r c l))) H') : HT prg I.impl_ValidField [.agg #[.int .i64 r, .int .i64 c, vc]].toArray H K := by
  refine R.impl_ValidField ?_
  unfold F.impl_ValidField
  refine nw_i (fun p H1 hp np le1 => ?_)
  replace hk := hk H1 le1
  replace hc := hc.le le1
  simp only [hp.fa, hp.ld 0 rfl, hp.ld 1 rfl, vInt_mulF, ob_some]
  refine C.impl_isSide ?_
  by_cases c1 : 1 ≤ r ∧ r ≤ 24
  · simp only [decide_eq_true c1, hp.fa, hp.ld 1 rfl, EV]
    refine C.impl_isSide ?_
    by_cases c2 : 1 ≤ c ∧ c ≤ 24
    · have hs : sidesF r c := ⟨c1, c2⟩
      have hm := sidesF_mul hs
      simp only [decide_eq_true c2, hp.fa, hp.ld 2 rfl, wrap64 (show -9223372036854775808 ≤ r * c by omega) (show r * c < 9223372036854775808 by omega), EV]
      refine C.impl_areMany hc k1 ?_
      exact kQ (K := K) hk ⟨fun h => ⟨⟨by have := h.2.1; omega, by have := h.2.1; omega⟩, h.2.2⟩, fun h => ⟨hs, by omega, h.2⟩⟩
    · simp only [decide_eq_false c2, EV]; exact kF (K := K) hk (fun h => c2 h.1.2)
  · simp only [decide_eq_false c1, EV]; exact kF (K := K) hk (fun h => c1 h.1.1)
theorem C.impl_isPlain {vc : Value} {r c : Int} {l : List Int} {H : Hp} {K : Value → Hp → Prop} (hc : Sl eI H vc l)
    (k1 : l.length ≤ 9223372036854775807) (hk : ∀ H', Le H H' → K (.bool (decide (fieldN 1 r c l))) H') : HT prg I.impl_isPlain [.agg #[.int .i64 r, .int .i64 c, vc]].toArray H K := by
  refine R.impl_isPlain ?_
  unfold F.impl_isPlain
  refine nw_i (fun p H1 hp np le1 => ?_)
  refine ob_i (hp.ldn rfl) ?_
  refine C.impl_ValidField (hc.le le1) k1 (fun H2 le2 => ?_)
  replace hk := hk H2 (le1.trans le2)
  replace hc := hc.le (le1.trans le2)
  replace hp := hp.le le2
  by_cases c1 : fieldN 9 r c l
  · simp only [decide_eq_true c1, hp.fa, hp.ld 2 rfl, EV]
    refine C.impl_areWithin hc k1 ?_
    exact kQ (K := K) hk ⟨fun h => h.2.2, fun h => ⟨c1.1, c1.2.1, h⟩⟩
  · simp only [decide_eq_false c1, EV]; exact kF (K := K) hk (fun h => c1 ⟨h.1, h.2.1, fun x hx => by have := h.2.2 x hx; omega⟩)
theorem fm_eq {a b : Int} (hb : 0 < b) : (a.tmod b + b).tmod b = a % b := by
  have h0 : 0 ≤ a.tmod b + b := by have := Int.lt_tmod_of_pos a hb; omega
  rw [Int.tmod_eq_emod_of_nonneg h0, Int.tmod_def, show a - b * a.tdiv b + b = a + b * (1 - a.tdiv b) by rw [Int.mul_sub, Int.mul_one]; omega, Int.add_mul_emod_self_left]
theorem tmod_bnd {a b : Int} (hb : 0 < b) : -b < a.tmod b ∧ a.tmod b < b := ⟨by have := Int.lt_tmod_of_pos a hb; omega, Int.tmod_lt_of_pos a hb⟩
/-- A place, round and round. -/
def roundF (r c i k : Int) : Int := i % r * c + k % c
theorem roundF_lt {r c i k : Int} (h : sidesF r c) : 0 ≤ i % r ∧ i % r < r ∧ 0 ≤ k % c ∧ k % c < c ∧ 0 ≤ i % r * c ∧ i % r * c ≤ 576 ∧ 0 ≤ roundF r c i k ∧ roundF r c i k < r * c := by
  obtain ⟨⟨h1, h2⟩, h3, h4⟩ := h
  have a1 := Int.emod_nonneg i (b := r) (by omega)
  have a2 := Int.emod_lt_of_pos i (b := r) (by omega)
  have a3 := Int.emod_nonneg k (b := c) (by omega)
  have a4 := Int.emod_lt_of_pos k (b := c) (by omega)
  have a5 := Int.mul_nonneg (a := i % r) (b := c) a1 (by omega)
  have a6 := Int.mul_le_mul (a := i % r) (b := c) (c := r - 1) (d := c) (by omega) (by omega) (by omega) (by omega)
  rw [Int.sub_mul] at a6
  have a7 := Int.mul_le_mul h2 h4 (by omega) (by omega)
  unfold roundF
  omega
theorem C.impl_Field_at {vc : Value} {r c i k : Int} {l : List Int} {H : Hp} {K : Value → Hp → Prop} (hc : Sl eI H vc l) (h0 : 0 ≤ i * c) (h1 : i * c ≤ 1000000) (h2 : 0 ≤ i * c + k) (h3 : i * c + k < l.length) (h4 : l.length ≤ 1000000)
    (hk : ∀ H', Le H H' → K (.int .i64 (at_ 0 l (i * c + k))) H') : HT prg I.impl_Field_at [.agg #[.int .i64 r, .int .i64 c, vc], .int .i64 i, .int .i64 k].toArray H K := by
  refine R.impl_Field_at ?_
  unfold F.impl_Field_at
  refine nw_i (fun p H1 hp np le1 => ?_)
  simp only [hp.fa, hp.ld 1 rfl, hp.ld 2 rfl, ob_some]
  rw [vInt_mul (by omega) (by omega), ob_some, vInt_add (by omega) (by omega), ob_some, (hc.le le1).ix h2 h3, ob_some, (hc.le le1).ld 0 h2 h3, ob_some]
  exact hk _ le1
end Go.Proofs.YtialllbbbpmkbaaDoor
