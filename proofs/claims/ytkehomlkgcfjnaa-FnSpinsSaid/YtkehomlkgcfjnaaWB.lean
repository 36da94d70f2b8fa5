/- What e to a power comes to at the powers that sweeps ask for. -/
import Derived.Test.YtkehomlkgcfjnaaWA
import Derived.Test.YtkehomlkgcfjnaaFC
namespace Go.Proofs.Ytkehomlkgcfjnaa
open HL Ieee
set_option maxRecDepth 100000
theorem fC_same {x y : Nat} {d k : FloatKind} {H : Hp} {K : Value → Hp → Prop} (g : Bool) (m : Nat) (e : Int) (hne : (d == k) = false) (h : d.decode x = .number g m e) (hi : (k.decode (k.encode (.number g m e))).isInfinity = false) (hw : k.encode (.number g m e) = y) (hk : K (.float k y) H) : fC k (.float d x) H K := by
  have hne' : ¬ d = k := by simpa using hne
  unfold fC
  dsimp only
  rw [if_neg hne', h]
  dsimp only
  rw [if_neg (by rw [hi]; simp), hw]
  exact hk
/-- 12 - i, in double precision. -/
def kN (i : Nat) : Nat := FloatKind.f64.nearest (12 - (i : Int))
theorem kN_at : ∀ i : Fin 12, (FloatKind.f64.format.order (kN i) 4607182418800017408 == some .gt || FloatKind.f64.format.order (kN i) 4607182418800017408 == some .eq) = true ∧ FloatKind.f64.format.div 0 (kN i) = some 0 ∧ FloatKind.f64.format.sub (kN i) 4607182418800017408 = some (kN (i + 1)) := by decide +kernel
theorem kN_end : (FloatKind.f64.format.order (kN 12) 4607182418800017408 == some .gt || FloatKind.f64.format.order (kN 12) 4607182418800017408 == some .eq) = false := by decide +kernel
theorem vF64_geq (x y : Nat) : vFcmp .geq (.float .f64 x) (.float .f64 y) = some (.bool (FloatKind.f64.format.order x y == some .gt || FloatKind.f64.format.order x y == some .eq)) := by simp [vFcmp]
theorem fA64 {op : BinOp} {x y r : Nat} {H : Hp} {K : Value → Hp → Prop} (h : fRes op .f64 x y = some (some r)) (hk : K (.float .f64 r) H) : fA op (.float .f64 x) (.float .f64 y) H K :=
  fA_i h (fun t => nan_bits64 _ _ t) (fun z hz => by have e : z = r := hz; subst e; exact hk)
theorem f64_0 : FloatKind.f64.format.mul 0 4607182418800017408 = some 0 ∧ FloatKind.f64.format.add 4607182418800017408 0 = some 4607182418800017408 ∧ FloatKind.f64.format.div 0 4643211215818981376 = some 0 ∧ FloatKind.f64.format.mul 4607182418800017408 4607182418800017408 = some 4607182418800017408 := by decide +kernel
theorem C.exp_zero {z : Nat} {H : Hp} {K : Value → Hp → Prop} (hz : z = 0) (hk : K (.float .f32 1065353216) H) : HT prg I.impl_ExpNumber [.float .f32 z].toArray H K := by
  subst hz
  refine R.impl_ExpNumber ?_
  unfold F.impl_ExpNumber
  refine ob_i (vF_gtr _ _) ?_
  rw [show fGt 0 1128792064 = false by decide +kernel]
  refine cnd_f1 ?_
  refine ob_i (vF_lss _ _) ?_
  rw [show fLt 0 3276275712 = false by decide +kernel]
  refine cnd_f1 ?_
  refine fC_same (y := 0) false 0 (-149) rfl (by decide +kernel) (by decide +kernel) (by decide +kernel) ?_
  refine fA64 (r := 0) (congrArg some f64_0.2.2.1) ?_
  refine jn_i (fun σ' H' => H' = H ∧ σ' 4 = .float .f64 4607182418800017408) (fun σ' H' hP => ?_) (fun J11 hJ11 => ?_)
  · obtain ⟨rfl, g4⟩ := hP
    refine jn_i (fun σ2 H2 => H2 = H' ∧ σ2 4 = .float .f64 4607182418800017408) (fun σ2 H2 hP => ?_) (fun J12 hJ12 => ?_)
    · obtain ⟨rfl, g4⟩ := hP
      rw [g4]
      exact fC_same (y := 1065353216) false 4503599627370496 (-52) rfl (by decide +kernel) (by decide +kernel) (by decide +kernel) hk
    refine ⟨fun n σ H1 => ∃ i : Nat, n = 8 - i ∧ i ≤ 8 ∧ H1 = H' ∧ σ 4 = .float .f64 4607182418800017408 ∧ σ 27 = .int .i64 i, ⟨_, 0, rfl, by omega, rfl, g4, rfl⟩, ?_⟩
    rintro n σ H1 ⟨i, rfl, hi', rfl, g4, g27⟩
    simp only [g4, g27]
    refine ob_i (vInt_lss _ _ _) ?_
    refine cnd_d (fun hlt => ?_) (fun hge => ?_)
    · refine fA64 (r := 4607182418800017408) (congrArg some f64_0.2.2.2) ?_
      refine ob_i (vInt_add (by omega) (by omega)) ?_
      exact nxt (8 - (i + 1)) (by omega) ⟨i + 1, rfl, by omega, rfl, rfl, rfl⟩
    · exact hJ12 _ _ ⟨rfl, g4⟩
  refine ⟨fun n σ H1 => ∃ i : Nat, n = 12 - i ∧ i ≤ 12 ∧ H1 = H ∧ σ 3 = .float .f64 0 ∧ σ 4 = .float .f64 4607182418800017408 ∧ σ 5 = .float .f64 (kN i), ⟨_, 0, rfl, by omega, rfl, rfl, rfl, ?_⟩, ?_⟩
  · show Value.float .f64 4622945017495814144 = _
    congr 1
  rintro n σ H1 ⟨i, rfl, hi', rfl, g3, g4, g5⟩
  simp only [g3, g4, g5]
  refine ob_i (vF64_geq _ _) ?_
  by_cases hlt : i < 12
  · obtain ⟨e1, e2, e3⟩ := kN_at ⟨i, hlt⟩
    dsimp only at e1 e2 e3
    rw [e1]
    refine cnd_t1 ?_
    refine fA64 (r := 0) (congrArg some f64_0.1) ?_
    refine fA64 (r := 0) (congrArg some e2) ?_
    refine fA64 (r := 4607182418800017408) (congrArg some f64_0.2.1) ?_
    refine fA64 (congrArg some e3) ?_
    exact nxt (12 - (i + 1)) (by omega) ⟨i + 1, rfl, by omega, rfl, g3, rfl, rfl⟩
  · obtain rfl : i = 12 := by omega
    rw [kN_end]
    refine cnd_f1 ?_
    exact hJ11 _ _ ⟨rfl, g4⟩
theorem C.exp_low {z : Nat} {H : Hp} {K : Value → Hp → Prop} (hz : fGt z 1128792064 = false ∧ fLt z 3276275712 = true) (hk : K (.float .f32 0) H) : HT prg I.impl_ExpNumber [.float .f32 z].toArray H K := by
  refine R.impl_ExpNumber ?_
  unfold F.impl_ExpNumber
  refine ob_i (vF_gtr _ _) ?_
  rw [hz.1]
  refine cnd_f1 ?_
  refine ob_i (vF_lss _ _) ?_
  rw [hz.2]
  exact cnd_t1 hk
theorem fin_100 : finB 1120403456 = true := by decide +kernel
theorem fin_0 : finB 0 = true := by decide +kernel
theorem ge_100 : fGe 1120403456 0 = true := by decide +kernel
theorem ge_0 : fGe 0 0 = true := by decide +kernel
theorem cold_low {d : Int} {z1 z2 : Nat} (hd : d = 4 ∨ d = 8) (h1 : FR .f32 (FloatKind.f32.format.mul 1120403456 (FloatKind.nearest .f32 d)) z1) (h2 : FR .f32 (FloatKind.f32.format.sub 0 z1) z2) : fGt z2 1128792064 = false ∧ fLt z2 3276275712 = true := by
  rcases hd with rfl | rfl
  · rw [show FloatKind.f32.format.mul 1120403456 (FloatKind.nearest .f32 4) = some 1137180672 by decide +kernel] at h1
    have e1 : z1 = 1137180672 := h1
    subst e1
    rw [show FloatKind.f32.format.sub 0 1137180672 = some 3284664320 by decide +kernel] at h2
    have e2 : z2 = 3284664320 := h2
    subst e2; decide +kernel
  · rw [show FloatKind.f32.format.mul 1120403456 (FloatKind.nearest .f32 8) = some 1145569280 by decide +kernel] at h1
    have e1 : z1 = 1145569280 := h1
    subst e1
    rw [show FloatKind.f32.format.sub 0 1145569280 = some 3293052928 by decide +kernel] at h2
    have e2 : z2 = 3293052928 := h2
    subst e2; decide +kernel
theorem hot_zero {d : Int} {z1 z2 : Nat} (hd : d = 4 ∨ d = 8) (h1 : FR .f32 (FloatKind.f32.format.mul 0 (FloatKind.nearest .f32 d)) z1) (h2 : FR .f32 (FloatKind.f32.format.sub 0 z1) z2) : z2 = 0 := by
  have e1 : z1 = 0 := by
    rcases hd with rfl | rfl
    · rw [show FloatKind.f32.format.mul 0 (FloatKind.nearest .f32 4) = some 0 by decide +kernel] at h1; exact h1
    · rw [show FloatKind.f32.format.mul 0 (FloatKind.nearest .f32 8) = some 0 by decide +kernel] at h1; exact h1
  subst e1
  rw [show FloatKind.f32.format.sub 0 0 = some 0 by decide +kernel] at h2; exact h2
end Go.Proofs.Ytkehomlkgcfjnaa
