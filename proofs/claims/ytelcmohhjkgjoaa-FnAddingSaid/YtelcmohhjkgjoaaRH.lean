/- Rings: lists of one ring that are searched. -/
import Derived.Test.YtelcmohhjkgjoaaRN
import Derived.Test.YtelcmohhjkgjoaaTC
import Derived.Test.YtelcmohhjkgjoaaSE
import Derived.Test.YtelcmohhjkgjoaaSI
namespace Go.Proofs.Ytelcmohhjkgjoaa
open HL
set_option maxRecDepth 100000
theorem C.IndexFunc_ring1 {v fv x : Value} {q : Bool} {H : Hp} {K : Value → Hp → Prop} (hv : Sl id H v [x])
    (hcl : ∀ H' (Z : Value → Hp → Prop), Le H H' → (∀ H'', Le H' H'' → Z (.bool q) H'') → callV prg fv [x] H' Z) (hk : ∀ H', Le H H' → K (.int .i64 (if q then 0 else -1)) H') :
    HT prg I.slices_IndexFunc_int64Zint64 [v, fv].toArray H K := by
  refine R.slices_IndexFunc_int64Zint64 ?_
  unfold F.slices_IndexFunc_int64Zint64
  refine jn_i (fun σ' H' => q = false ∧ Le H H') (fun σ1 H1 hP => ?_) (fun J1 hJ1 => ?_)
  · obtain ⟨hq, le⟩ := hP
    have := hk H1 le
    rw [hq] at this
    exact this
  refine ob_i hv.len ?_
  refine ⟨fun n σ H1 => ∃ i : Nat, n = 1 - i ∧ i ≤ 1 ∧ σ 0 = v ∧ σ 1 = fv ∧ σ 7 = .int .i64 1 ∧ σ 8 = .int .i64 i ∧ Le H H1 ∧ (i = 1 → q = false), ⟨_, 0, rfl, by omega, rfl, rfl, rfl, rfl, Le.refl H, by omega⟩, ?_⟩
  rintro n σ H1 ⟨i, rfl, hi, g0, g1, g7, g8, le, hq⟩
  simp only [g0, g1, g7, g8]
  refine ob_i (vInt_lss _ _ _) ?_
  refine cnd_d (fun hlt => ?_) (fun hge => ?_)
  · obtain rfl : i = 0 := by omega
    refine ob_i ((hv.le le).ix (by omega) (by simp)) ?_
    refine ob_i ((hv.le le).ld undef (by omega) (by simp)) ?_
    refine hcl H1 _ le (fun H2 le2 => ?_)
    refine cnd_i (fun h => ?_) (fun h => ?_)
    · refine retK (K := K) (v' := .int .i64 0) rfl ?_
      have := hk H2 (le.trans le2)
      rw [h] at this
      exact this
    · refine ob_i (vInt_add (by omega) (by omega)) ?_
      exact nxt (1 - (0 + 1)) (by omega) ⟨0 + 1, rfl, by omega, g0, g1, g7, rfl, le.trans le2, fun _ => h⟩
  · exact hJ1 _ _ ⟨hq (by omega), le⟩
theorem C.ContainsFunc_ring1 {v fv x : Value} {q : Bool} {H : Hp} {K : Value → Hp → Prop} (hv : Sl id H v [x])
    (hcl : ∀ H' (Z : Value → Hp → Prop), Le H H' → (∀ H'', Le H' H'' → Z (.bool q) H'') → callV prg fv [x] H' Z) (hk : ∀ H', Le H H' → K (.bool q) H') :
    HT prg I.slices_ContainsFunc_int64Zint64 [v, fv].toArray H K := by
  refine R.slices_ContainsFunc_int64Zint64 ?_
  unfold F.slices_ContainsFunc_int64Zint64
  refine C.IndexFunc_ring1 hv hcl (fun H1 le => ?_)
  refine ob_i (vInt_geq _ _ _) ?_
  have := hk H1 le
  cases q <;> exact this
end Go.Proofs.Ytelcmohhjkgjoaa
