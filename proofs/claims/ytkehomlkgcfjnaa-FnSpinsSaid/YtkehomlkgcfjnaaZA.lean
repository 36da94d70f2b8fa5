/- Choices that are read from bytes. -/
import Derived.Test.YtkehomlkgcfjnaaKU
import Derived.Test.YtkehomlkgcfjnaaSE
import Derived.Test.YtkehomlkgcfjnaaSN
namespace Go.Proofs.Ytkehomlkgcfjnaa
open HL
set_option maxRecDepth 100000
namespace HL
theorem vMulW (a b : Int) : vInt .mul (.int .u64 a) (.int .u64 b) = some (.int .u64 (IntKind.u64.wrap (a * b))) := by simp only [vInt, if_true]
theorem vAddW (a b : Int) : vInt .add (.int .u64 a) (.int .u64 b) = some (.int .u64 (IntKind.u64.wrap (a + b))) := by simp only [vInt, if_true]
theorem vCIW (k : IntKind) (a : Int) : vCI .u64 (.int k a) = some (.int .u64 (IntKind.u64.wrap a)) := rfl
theorem vShrW (a : Int) {b : Int} (h : 0 ≤ b) : ∃ x, vInt .shr (.int .u64 a) (.int .u64 b) = some (.int .u64 x) := by
  simp only [vInt]; rw [if_pos h]; exact ⟨_, rfl⟩
theorem vAnd255 (a : Int) : ∃ x, vInt .and (.int .u64 a) (.int .u64 255) = some (.int .u64 x) ∧ 0 ≤ x ∧ x ≤ 255 := by
  refine ⟨_, by simp only [vInt, if_true]; rfl, ?_⟩
  show 0 ≤ IntKind.u64.wrap ((BitVec.ofInt 64 a &&& BitVec.ofInt 64 255).toNat : Int) ∧ IntKind.u64.wrap ((BitVec.ofInt 64 a &&& BitVec.ofInt 64 255).toNat : Int) ≤ 255
  have h : (BitVec.ofInt 64 a &&& BitVec.ofInt 64 255).toNat ≤ 255 := by
    rw [BitVec.toNat_and]
    have e : (BitVec.ofInt 64 255).toNat = 255 := by decide
    rw [e]
    exact Nat.and_le_right
  generalize (BitVec.ofInt 64 a &&& BitVec.ofInt 64 255).toNat = n at h
  have e : IntKind.u64.wrap (n : Int) = (n : Int) := by
    unfold IntKind.wrap; simp [IntKind.signed, IntKind.bits]; omega
  rw [e]; omega
end HL
variable {H0 H : Hp} {K : Value → Hp → Prop} {p code : Value} {l : List Int} {a s : Int}
theorem C.spec_l00From (h0 : Sl eU H code l) (hk : ∀ p H', Cel H' p [code, .int .i64 0, .int .u64 0] → Nw H p → Le H H' → K p H') : HT prg I.spec_l00From [code].toArray H K := by
  refine R.spec_l00From ?_
  unfold F.spec_l00From
  refine ob_i (a := .agg #[code, .int .i64 0, .int .u64 0]) (by obtain ⟨_, _, _, rfl⟩ := h0.isSl; rfl) ?_
  exact nw_i (fun p H' op nn le => hk p H' op nn le)
theorem C.pspec_l00Src_next (h0 : Sl eU H0 code l) (hb : bytP l) (hl : l.length ≤ 9223372036854775807) (le : Le H0 H) (np : Nw H0 p) (hp : Cel H p [code, .int .i64 a, .int .u64 s]) (a0 : 0 ≤ a) (a1 : a ≤ 4611686018427387904)
    (hk : ∀ x s' H', 0 ≤ x → x ≤ 255 → Cel H' p [code, .int .i64 (a + 1), .int .u64 s'] → Off p H H' → K (.int .i64 x) H') : HT prg I.pspec_l00Src_next [p].toArray H K := by
  have hc := h0.le le
  have ho : oneCell code = true := h0.one
  refine R.pspec_l00Src_next ?_
  unfold F.pspec_l00Src_next
  refine jn_i (fun σ' H' => ∃ x, 0 ≤ x ∧ x ≤ 255 ∧ σ' 0 = p ∧ σ' 3 = .int .i64 x ∧ H' = H) (fun σ1 H1 hP => ?_) (fun J1 hJ1 => ?_)
  · obtain ⟨x, x0, x1, g0, g3, rfl⟩ := hP
    rw [g0, g3]
    refine ob_i hp.nilC (ob_i (hp.fa 1) (ob_i (hp.ld 1 rfl) (ob_i (vInt_add (by omega) (by omega)) (ob_i hp.nilC (ob_i (hp.fa 1) ?_)))))
    refine hp.st (by simp) rfl rfl (fun H2 hp2 off2 => ?_)
    refine ob_i hp2.nilC (ob_i (hp2.fa 2) (ob_i (hp2.ld 2 rfl) (ob_i (vMulW _ _) (ob_i (vCIW _ _) (ob_i (vAddW _ _) (ob_i (vAddW _ _) (ob_i hp2.nilC (ob_i (hp2.fa 2) ?_))))))))
    refine hp2.st (by simp) rfl rfl (fun H3 hp3 off3 => ?_)
    refine ob_i hp3.nilC (ob_i (hp3.fa 1) (ob_i (hp3.ld 1 rfl) (ob_i hp3.nilC (ob_i (hp3.fa 0) (ob_i (hp3.ld 0 rfl) (ob_i h0.len (ob_i (vInt_leq _ _ _) ?_)))))))
    have off := off2.trans off3
    refine cnd_d (fun _ => hk x _ H3 x0 x1 hp3 off) (fun _ => ?_)
    refine ob_i hp3.nilC (ob_i (hp3.fa 2) (ob_i (hp3.ld 2 rfl) ?_))
    obtain ⟨y, hy⟩ := vShrW (IntKind.u64.wrap (IntKind.u64.wrap (IntKind.u64.wrap (s * 6364136223846793005) + IntKind.u64.wrap x) + 1442695040888963407)) (b := 40) (by omega)
    obtain ⟨z, hz, z0, z1⟩ := vAnd255 y
    refine ob_i hy (ob_i hz (ob_i (vCI_64 _ (by omega) (by omega)) ?_))
    exact hk z _ H3 z0 z1 hp3 off
  · refine ob_i hp.nilC (ob_i (hp.fa 1) (ob_i (hp.ld 1 rfl) (ob_i hp.nilC (ob_i (hp.fa 0) (ob_i (hp.ld 0 rfl) (ob_i h0.len (ob_i (vInt_lss _ _ _) ?_)))))))
    refine cnd_d (fun hlt => ?_) (fun _ => hJ1 _ _ ⟨0, by omega, by omega, rfl, rfl, rfl⟩)
    have hm := hb _ (at_mem 0 l a0 hlt)
    refine ob_i hp.nilC (ob_i (hp.fa 0) (ob_i (hp.ld 0 rfl) (ob_i hp.nilC (ob_i (hp.fa 1) (ob_i (hp.ld 1 rfl) (ob_i (hc.ix a0 hlt) (ob_i (hc.ld 0 a0 hlt) (ob_i (vCI_64 _ (by omega) (by omega)) ?_))))))))
    exact hJ1 _ _ ⟨_, hm.1, hm.2, rfl, rfl, rfl⟩
theorem C.pspec_l00Src_pick {n : Int} (h0 : Sl eU H0 code l) (hb : bytP l) (hl : l.length ≤ 9223372036854775807) (le : Le H0 H) (np : Nw H0 p) (hp : Cel H p [code, .int .i64 a, .int .u64 s]) (a0 : 0 ≤ a) (a1 : a ≤ 4611686018427387000)
    (hk : ∀ x a' s' H', 0 ≤ x → (1 ≤ n → x < n) → a ≤ a' → a' ≤ a + 2 → Cel H' p [code, .int .i64 a', .int .u64 s'] → Off p H H' → K (.int .i64 x) H') : HT prg I.pspec_l00Src_pick [p, .int .i64 n].toArray H K := by
  refine R.pspec_l00Src_pick ?_
  unfold F.pspec_l00Src_pick
  refine ob_i (vInt_leq _ _ _) (cnd_d (fun h1 => hk 0 a s H (by omega) (by omega) (by omega) (by omega) hp (Off.of_le (Le.refl H))) (fun h1 => ?_))
  refine C.pspec_l00Src_next h0 hb hl le np hp a0 (by omega) (fun x s1 H1 x0 x1 hp1 off1 => ?_)
  refine ob_i (vInt_gtr _ _ _) (cnd_d (fun h2 => ?_) (fun h2 => ?_))
  · refine ob_i (vInt_mul (by omega) (by omega)) ?_
    refine C.pspec_l00Src_next h0 hb hl (off1.le le np) np hp1 (by omega) (by omega) (fun y s2 H2 y0 y1 hp2 off2 => ?_)
    refine ob_i (vInt_add (by omega) (by omega)) (ob_i (vInt_remN (by omega) (by omega)) ?_)
    have r0 := Int.emod_nonneg (x * 256 + y) (b := n) (by omega)
    have r1 := Int.emod_lt_of_pos (x * 256 + y) (b := n) (by omega)
    refine hk _ _ _ H2 r0 (fun _ => r1) (by omega) (by omega) hp2 (off1.trans off2)
  · refine ob_i (vInt_remN (by omega) (by omega)) ?_
    have r0 := Int.emod_nonneg x (b := n) (by omega)
    have r1 := Int.emod_lt_of_pos x (b := n) (by omega)
    exact hk _ _ _ H1 r0 (fun _ => r1) (by omega) (by omega) hp1 off1
theorem C.laws_r8At {k n : Int} (hc : Sl eU H code l) (hb : bytP l) (hl : l.length ≤ 9223372036854775807) (k0 : 0 ≤ k) (hk : ∀ x, 0 ≤ x → (1 ≤ n → x < n) → K (.int .i64 x) H) : HT prg I.laws_r8At [code, .int .i64 k, .int .i64 n].toArray H K := by
  refine R.laws_r8At ?_
  unfold F.laws_r8At
  refine ob_i (vInt_leq _ _ _) ?_
  by_cases h1 : n ≤ 1
  · rw [decide_eq_true h1]
    refine gop_st (gop_st (gop_st (gop_st (ob_i (vPick_t _ _) (cnd_t1 (hk 0 (by omega) (by omega)))))))
  · rw [decide_eq_false h1]
    refine gop_rf (gop_rf (gop_rf (ob_i hc.len (gop_rf (ob_i (vInt_geq _ _ _) (ob_i (vPick_f _ _) ?_))))))
    refine cnd_d (fun _ => hk 0 (by omega) (by omega)) (fun h2 => ?_)
    have hm := hb _ (at_mem 0 l k0 (by omega))
    refine ob_i (hc.ix k0 (by omega)) (ob_i (hc.ld 0 k0 (by omega)) (ob_i (vCI_64 _ (by omega) (by omega)) (ob_i (vInt_remN (by omega) (by omega)) ?_)))
    exact hk _ (Int.emod_nonneg _ (by omega)) (fun _ => Int.emod_lt_of_pos _ (by omega))
end Go.Proofs.Ytkehomlkgcfjnaa
