/- The energy of spins: the program's and the reference's sums. -/
import Derived.Test.YtkehomlkgcfjnaaTA
namespace Go.Proofs.Ytkehomlkgcfjnaa
open HL
set_option maxRecDepth 100000
def spinF (r c : Int) (l : List Int) (i k : Int) : Int := 2 * at_ 0 l (roundF r c i k) - 1
theorem spinF_le {r c : Int} {l : List Int} (h : fieldN 1 r c l) (i k : Int) : -1 ≤ spinF r c l i k ∧ spinF r c l i k ≤ 1 := by
  have b := roundF_lt (i := i) (k := k) h.1
  have := fieldN_at h b.2.2.2.2.2.2.1 b.2.2.2.2.2.2.2
  unfold spinF; omega
theorem C.impl_Field_spin {vc : Value} {r c i k : Int} {l : List Int} {H : Hp} {K : Value → Hp → Prop} (hc : Sl eI H vc l) (hv : fieldN 1 r c l) (i0 : -1000 ≤ i) (i1 : i ≤ 1000) (k0 : -1000 ≤ k) (k1 : k ≤ 1000)
    (hk : ∀ H', Le H H' → K (.int .i64 (spinF r c l i k)) H') : HT prg I.impl_Field_spin [.agg #[.int .i64 r, .int .i64 c, vc], .int .i64 i, .int .i64 k].toArray H K := by
  refine R.impl_Field_spin ?_
  unfold F.impl_Field_spin
  refine nw_i (fun p H1 hp np le1 => ?_)
  refine ob_i (hp.ldn rfl) ?_
  have b := roundF_lt (i := i) (k := k) hv.1
  have v := fieldN_at hv b.2.2.2.2.2.2.1 b.2.2.2.2.2.2.2
  refine C.look_round (hc.le le1) hv.1 hv.2.1 i0 i1 k0 k1 (fun H2 le2 => ?_)
  rw [vInt_mul (by omega) (by omega), ob_some, vInt_sub (by omega) (by omega), ob_some]
  exact hk _ (le1.trans le2)
def enI (r c : Int) (l : List Int) (i k : Int) : Int := spinF r c l i k * (spinF r c l i (k + 1) + spinF r c l (i + 1) k)
theorem mul_bnd {x y : Int} (h1 : -1 ≤ x) (h2 : x ≤ 1) (h3 : -2 ≤ y) (h4 : y ≤ 2) : -2 ≤ x * y ∧ x * y ≤ 2 := by
  have : x = -1 ∨ x = 0 ∨ x = 1 := by omega
  rcases this with rfl | rfl | rfl <;> omega
theorem enI_le {r c : Int} {l : List Int} (h : fieldN 1 r c l) (i k : Int) : -2 ≤ enI r c l i k ∧ enI r c l i k ≤ 2 := by
  have a := spinF_le h i k
  have b := spinF_le h i (k + 1)
  have d := spinF_le h (i + 1) k
  exact mul_bnd a.1 a.2 (by omega) (by omega)
def enRow (r c : Int) (l : List Int) (i : Int) : Nat → Int
  | 0 => 0
  | k + 1 => enRow r c l i k - enI r c l i k
def enAll (r c : Int) (l : List Int) : Nat → Int
  | 0 => 0
  | i + 1 => enAll r c l i + enRow r c l i c.toNat
theorem enRow_le {r c : Int} {l : List Int} (h : fieldN 1 r c l) (i : Int) : ∀ k : Nat, -(2 * k) ≤ enRow r c l i k ∧ enRow r c l i k ≤ 2 * k
  | 0 => by simp [enRow]
  | k + 1 => by
    have a := enRow_le h i k
    have b := enI_le h i k
    simp only [enRow]; omega
theorem enAll_le {r c : Int} {l : List Int} (h : fieldN 1 r c l) : ∀ i : Nat, -(48 * i) ≤ enAll r c l i ∧ enAll r c l i ≤ 48 * i
  | 0 => by simp [enAll]
  | i + 1 => by
    have a := enAll_le h i
    have b := enRow_le h i c.toNat
    have := h.1.2
    simp only [enAll]; omega
def energy (r c : Int) (l : List Int) : Int := if fieldN 1 r c l then enAll r c l r.toNat else 0
theorem C.impl_EnergyOf {vc : Value} {r c : Int} {l : List Int} {H : Hp} {K : Value → Hp → Prop} (hc : Sl eI H vc l)
    (k1 : l.length ≤ 9223372036854775807) (hk : ∀ H', Le H H' → K (.tuple #[.int .i64 (energy r c l), .bool (decide (fieldN 1 r c l))]) H') :
    HT prg I.impl_EnergyOf [.agg #[.int .i64 r, .int .i64 c, vc]].toArray H K := by
  refine R.impl_EnergyOf ?_
  unfold F.impl_EnergyOf
  refine nw_i (fun p H0 hp np le0 => ?_)
  replace hp : Cel H0 p [.int .i64 r, .int .i64 c, vc] := hp
  refine ob_i (hp.ldn rfl) ?_
  refine C.impl_isPlain (hc.le le0) k1 (fun H1 le01 => ?_)
  replace hp := hp.le le01
  have le1 := le0.trans le01
  replace hc := hc.le le1
  rw [vUn_not, ob_some]
  by_cases hv : fieldN 1 r c l
  · simp only [energy, hv, if_true, decide_true] at hk
    simp only [hv, decide_true, EV]
    have q1 := hv.1.1
    have q2 := hv.1.2
    refine jn_i (fun σ' H' => σ' 4 = .int .i64 (enAll r c l r.toNat) ∧ Le H1 H') (fun σ' H' hP => ?_) (fun J7 hJ7 => ?_)
    · obtain ⟨g4, gle⟩ := hP
      rw [g4]; exact hk H' (le1.trans gle)
    simp only [hp.fa, hp.ld 0 rfl, ob_some]
    refine ⟨fun n σ H2 => ∃ i : Nat, n = r.toNat - i ∧ (i : Int) ≤ r ∧ Le H1 H2 ∧ σ 1 = p ∧ σ 4 = .int .i64 (enAll r c l i) ∧ σ 11 = .int .i64 r ∧ σ 12 = .int .i64 i, ⟨_, 0, rfl, by omega, Le.refl _, rfl, rfl, rfl, rfl⟩, ?_⟩
    rintro n σ H2 ⟨i, rfl, hir, le2, g1, g4, g11, g12⟩
    simp only [g1, g11, g12, vInt_lss, ob_some]
    refine cnd_d (fun hlt => ?_) (fun hge => ?_)
    · have a1 := enAll_le hv i
      refine jn_i (fun σ' H' => Le H1 H' ∧ σ' 1 = p ∧ σ' 4 = .int .i64 (enAll r c l (i + 1)) ∧ σ' 11 = .int .i64 r ∧ σ' 12 = .int .i64 i) (fun σ' H' hP => ?_) (fun J12 hJ12 => ?_)
      · obtain ⟨gle, z1, z4, z11, z12⟩ := hP
        rw [z12, vInt_add (by omega) (by omega), ob_some]
        exact nxt (r.toNat - (i + 1)) (by omega) ⟨i + 1, rfl, by omega, gle, z1, z4, z11, rfl⟩
      simp only [(hp.le le2).fa, (hp.le le2).ld 1 rfl, ob_some]
      refine ⟨fun n σ H3 => ∃ k : Nat, n = c.toNat - k ∧ (k : Int) ≤ c ∧ Le H1 H3 ∧ σ 1 = p ∧ σ 4 = .int .i64 (enAll r c l i + enRow r c l i k) ∧ σ 5 = .int .i64 i ∧ σ 11 = .int .i64 r ∧ σ 12 = .int .i64 i ∧ σ 16 = .int .i64 c ∧ σ 17 = .int .i64 k,
        ⟨_, 0, rfl, by omega, le2, g1, by show σ 4 = _; rw [g4]; simp [enRow], rfl, g11, g12, rfl, rfl⟩, ?_⟩
      rintro n σ H3 ⟨k, rfl, hkc, le3, z1, z4, z5, z11, z12, z16, z17⟩
      simp only [z1, z4, z5, z16, z17, vInt_lss, ob_some]
      refine cnd_d (fun hkl => ?_) (fun hkg => ?_)
      · have a2 := enRow_le hv i k
        have a3 := enI_le hv i k
        have b1 := spinF_le hv i k
        have b2 := spinF_le hv i ((k : Int) + 1)
        have b3 := spinF_le hv ((i : Int) + 1) k
        refine ob_i ((hp.le le3).ldn rfl) ?_
        refine ob_i ((hp.le le3).ldn rfl) ?_
        refine ob_i (vInt_add (by omega) (by omega)) ?_
        refine ob_i ((hp.le le3).ldn rfl) ?_
        refine ob_i (vInt_add (by omega) (by omega)) ?_
        refine C.impl_Field_spin (hc.le le3) hv (by omega) (by omega) (by omega) (by omega) (fun H4 le4 => ⟨le4, ?_⟩)
        refine C.impl_Field_spin (hc.le (le3.trans le4)) hv (by omega) (by omega) (by omega) (by omega) (fun H5 le5 => ⟨le5, ?_⟩)
        refine C.impl_Field_spin (hc.le ((le3.trans le4).trans le5)) hv (by omega) (by omega) (by omega) (by omega) (fun H6 le6 => ⟨le6, ?_⟩)
        have e : spinF r c l i k * (spinF r c l i ((k : Int) + 1) + spinF r c l ((i : Int) + 1) k) = enI r c l i k := rfl
        rw [vInt_add (by omega) (by omega), ob_some, vInt_mul (by rw [e]; omega) (by rw [e]; omega), ob_some, e, vInt_sub (by omega) (by omega), ob_some, vInt_add (by omega) (by omega), ob_some]
        refine nxt (c.toNat - (k + 1)) (by omega) ⟨k + 1, rfl, by omega, ((le3.trans le4).trans le5).trans le6, z1, ?_, z5, z11, z12, z16, rfl⟩
        show Value.int .i64 _ = _
        simp only [enRow]; congr 1; omega
      · have e : k = c.toNat := by omega
        refine hJ12 _ _ ⟨le3, z1, ?_, z11, z12⟩
        show σ 4 = _
        rw [z4, e]; rfl
    · have e : i = r.toNat := by omega
      refine hJ7 _ _ ⟨?_, le2⟩
      show σ 4 = _
      rw [g4, e]
  · simp only [energy, hv, if_false, decide_false] at hk
    simp only [hv, decide_false, EV]; exact hk _ le1
end Go.Proofs.Ytkehomlkgcfjnaa
