/- Parts of slices; slices that are put together. -/
import Derived.Test.YtkehomlkgcfjnaaKB
import Derived.Test.YtkehomlkgcfjnaaSY
namespace Go.Proofs.Ytkehomlkgcfjnaa
open HL
set_option maxRecDepth 100000
namespace HL
theorem Sl.cut {α : Type} {enc : α → Value} {H : Hp} {v : Value} {l : List α} (h : Sl enc H v l) {lo hi : Int} (h0 : 0 ≤ lo) (h1 : lo ≤ hi) (h2 : hi ≤ l.length) :
    ∃ x, vSl3 1 v (some (.int .i64 lo)) (some (.int .i64 hi)) none = some x ∧ (hi = l.length → vSl3 1 v (some (.int .i64 lo)) none none = some x) ∧ (lo = 0 → vSl3 1 v none (some (.int .i64 hi)) none = some x) ∧ (lo = 0 → hi = l.length → vSl3 1 v none none none = some x) ∧
      Sl enc H x ((l.drop lo.toNat).take (hi.toNat - lo.toNat)) ∧ (∀ b, bk x = some b → bk v = some b) := by
  obtain ⟨a, c, rfl, hc, hr⟩ := h
  have e1 : bnd (some (.int .i64 hi)) c l.length = some hi.toNat := by simp only [bnd]; rw [if_pos ⟨by omega, by omega⟩]
  have e2 : bnd (some (.int .i64 lo)) hi.toNat 0 = some lo.toNat := by simp only [bnd]; rw [if_pos ⟨by omega, by omega⟩]
  have e3 : bnd none c l.length = some l.length := rfl
  refine ⟨.slice (if c = lo.toNat then a else a.map (·.add (lo.toNat * 1))) (hi.toNat - lo.toNat) (c - lo.toNat), ?_, ?_, ?_, ?_, ?_, ?_⟩
  · simp only [vSl3, vSl, e1, e2]
  · intro e
    subst e
    have e2' : bnd (some (.int .i64 lo)) l.length 0 = some lo.toNat := by simpa using e2
    simp only [vSl3, vSl, e3, e2', Int.toNat_natCast]
  · intro e
    subst e
    simp only [vSl3, vSl, e1]; rfl
  · intro e e'
    subst e e'
    simp only [vSl3, vSl, e3, Int.toNat_natCast]; rfl
  · have hl : ((l.drop lo.toNat).take (hi.toNat - lo.toNat)).length = hi.toNat - lo.toNat := by simp; omega
    refine ⟨_, _, by rw [hl], by rw [hl]; omega, fun i hi' => ?_⟩
    rw [hl] at hi'
    obtain ⟨ad, rfl, hh⟩ := hr (lo.toNat + i) (by omega)
    rw [if_neg (by omega)]
    refine ⟨ad.add (lo.toNat * 1), rfl, ?_⟩
    have e4 : (ad.add (lo.toNat * 1)).add i = ad.add (lo.toNat + i) := by
      rw [Nat.mul_one]
      unfold Addr.add
      by_cases hx : lo.toNat = 0
      · rw [if_pos hx, hx, Nat.zero_add]
      · by_cases hy : i = 0
        · subst hy; simp
        · rw [if_neg hx, if_neg hy, if_neg (by omega)]; simp [Nat.add_assoc]
    rw [e4, hh]
    simp
  · intro b hb
    by_cases hcl : c = lo.toNat
    · rw [if_pos hcl] at hb
      cases a with
      | none => simp [bk] at hb
      | some ad => simp only [bk] at hb; rw [if_pos (by omega)] at hb; simp at hb
    · rw [if_neg hcl] at hb
      cases a with
      | none => simp [bk] at hb
      | some ad =>
        have hbl : ∀ k, (ad.add k).block = ad.block := fun k => by unfold Addr.add; split <;> rfl
        simp only [Option.map_some, bk] at hb ⊢
        split at hb
        · simp at hb
        · rw [if_neg (by omega)]; rw [hbl] at hb; exact hb
end HL
end Go.Proofs.Ytkehomlkgcfjnaa
