/- Fields in slices: one of them. -/
import Derived.Test.YtaflemogkogkkaaKS
import Derived.Test.YtaflemogkogkkaaTA
import Derived.Test.YtaflemogkogkkaaSY
namespace Go.Proofs.Ytaflemogkogkkaa
open HL
/-- A field as it lies in cells. -/
structure Fv where
  r : Int
  c : Int
  v : Value
def fv0 : Fv := ⟨0, 0, .slice none 0 0⟩
def encFv (x : Fv) : List Value := [.int .i64 x.r, .int .i64 x.c, x.v]
theorem encFv_n (x : Fv) : (encFv x).length = 3 := rfl
theorem C.IndexFunc_Field1 {v fv : Value} {x : Fv} {q : Bool} {H : Hp} {K : Value → Hp → Prop} (hv : SlE 3 encFv H v [x])
    (hcl : ∀ H' (Z : Value → Hp → Prop), Le H H' → (∀ H'', Le H' H'' → Z (.bool q) H'') → callV prg fv [.agg (encFv x).toArray] H' Z) (hk : ∀ H', Le H H' → K (.int .i64 (if q then 0 else -1)) H') :
    HT prg I.slices_IndexFunc_impl_Field_impl_Field [v, fv].toArray H K := by
  refine R.slices_IndexFunc_impl_Field_impl_Field ?_
  unfold F.slices_IndexFunc_impl_Field_impl_Field
  refine jn_i (fun σ' H' => q = false ∧ Le H H') (fun σ1 H1 hP => ?_) (fun J1 hJ1 => ?_)
  · obtain ⟨hq, le⟩ := hP
    have := hk H1 le
    rw [hq] at this
    exact this
  refine ob_i hv.len ?_
  refine ⟨fun n σ H1 => ∃ i : Nat, n = 1 - i ∧ i ≤ 1 ∧ σ 0 = v ∧ σ 1 = fv ∧ σ 7 = .int .i64 1 ∧ σ 8 = .int .i64 i ∧ Le H H1 ∧ (i = 1 → q = false), ⟨_, 0, rfl, by omega, rfl, rfl, rfl, rfl, Le.refl H, by omega⟩, ?_⟩
  rintro n σ H1 ⟨i, rfl, hi, g0, g1, g7, g8, le, hq⟩
  simp only [g0, g1, g7, g8]
  refine ob_i (vInt_lss _ _ _) ?_
  refine cnd_d (fun hlt => ?_) (fun hge => ?_)
  · obtain rfl : i = 0 := by omega
    refine ob_i ((hv.le le).ix encFv_n (by omega) (by omega) (by simp)) ?_
    refine ob_i ((hv.le le).ldn encFv_n (by omega) fv0 (by omega) (by simp)) ?_
    refine hcl H1 _ le (fun H2 le2 => ?_)
    refine cnd_i (fun h => ?_) (fun h => ?_)
    · refine retK (K := K) (v' := .int .i64 0) rfl ?_
      have := hk H2 (le.trans le2)
      rw [h] at this
      exact this
    · refine ob_i (vInt_add (by omega) (by omega)) ?_
      exact nxt (1 - (0 + 1)) (by omega) ⟨0 + 1, rfl, by omega, g0, g1, g7, rfl, le.trans le2, fun _ => h⟩
  · exact hJ1 _ _ ⟨hq (by omega), le⟩
theorem C.ContainsFunc_Field1 {v fv : Value} {x : Fv} {q : Bool} {H : Hp} {K : Value → Hp → Prop} (hv : SlE 3 encFv H v [x])
    (hcl : ∀ H' (Z : Value → Hp → Prop), Le H H' → (∀ H'', Le H' H'' → Z (.bool q) H'') → callV prg fv [.agg (encFv x).toArray] H' Z) (hk : ∀ H', Le H H' → K (.bool q) H') :
    HT prg I.slices_ContainsFunc_impl_Field_impl_Field [v, fv].toArray H K := by
  refine R.slices_ContainsFunc_impl_Field_impl_Field ?_
  unfold F.slices_ContainsFunc_impl_Field_impl_Field
  refine C.IndexFunc_Field1 hv hcl (fun H1 le => ?_)
  refine ob_i (vInt_geq _ _ _) ?_
  have := hk H1 le
  cases q <;> exact this
theorem C.impl_lives_1 {vc : Value} {r c : Int} {l : List Int} {H : Hp} {K : Value → Hp → Prop} (hvc : Sl eI H vc l) (k1 : l.length ≤ 9223372036854775807) (hk : ∀ H', Le H H' → K (.bool (!decide (fieldN 1 r c l))) H') :
    HT prg I.impl_lives_1 [.agg #[.int .i64 r, .int .i64 c, vc]].toArray H K := by
  refine R.impl_lives_1 ?_
  unfold F.impl_lives_1
  refine nw_i (fun p H1 hp np le1 => ?_)
  refine ob_i (hp.ldn rfl) ?_
  refine C.impl_isPlain (hvc.le le1) k1 (fun H2 le2 => ?_)
  refine ob_i (vUn_not _) ?_
  exact hk _ (le1.trans le2)
end Go.Proofs.Ytaflemogkogkkaa
