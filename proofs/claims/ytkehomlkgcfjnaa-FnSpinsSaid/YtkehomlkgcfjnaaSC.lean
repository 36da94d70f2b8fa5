/- What the small functions of lanes come to. -/
import Derived.Test.YtkehomlkgcfjnaaSB
import Derived.Test.YtkehomlkgcfjnaaGA
namespace Go.Proofs.Ytkehomlkgcfjnaa
open HL
theorem C.impl_within {x lo hi : Int} {H : Hp} {K : Value → Hp → Prop} (hk : K (.bool (decide (lo ≤ x ∧ x ≤ hi))) H) : HT prg I.impl_within [.int .i64 x, .int .i64 lo, .int .i64 hi].toArray H K := by
  refine R.impl_within ?_
  unfold F.impl_within
  by_cases h : lo ≤ x
  · simp only [vInt_geq, vInt_leq, ob_some, h, decide_true, gop_tt, vPick_t, true_and] at hk ⊢; exact hk
  · simp only [vInt_geq, ob_some, h, decide_false, gop_ft, vPick_f, false_and] at hk ⊢; exact hk
theorem C.impl_areWithin {a : Value} {l : List Int} {lo hi : Int} {H : Hp} {K : Value → Hp → Prop} (ha : Sl eI H a l) (hl : l.length ≤ 9223372036854775807) (hk : K (.bool (decide (∀ x ∈ l, lo ≤ x ∧ x ≤ hi))) H) :
    HT prg I.impl_areWithin [a, .int .i64 lo, .int .i64 hi].toArray H K := by
  refine R.impl_areWithin ?_
  unfold F.impl_areWithin jn; dsimp only
  rw [ha.len, ob_some]
  refine ⟨fun n σ H1 => ∃ i : Nat, n = l.length - i ∧ i ≤ l.length ∧ H1 = H ∧ σ 1 = .int .i64 lo ∧ σ 2 = .int .i64 hi ∧ σ 9 = a ∧ σ 10 = .int .i64 l.length ∧ σ 11 = .int .i64 i ∧ ∀ x ∈ l.take i, lo ≤ x ∧ x ≤ hi,
    ⟨_, 0, rfl, by omega, rfl, rfl, rfl, rfl, rfl, rfl, by simp⟩, ?_⟩
  rintro n σ H1 ⟨i, rfl, hi', rfl, h1, h2, h9, h10, h11, hall⟩
  simp only [h1, h2, h9, h10, h11, vInt_lss, ob_some]
  refine cnd_d (fun hlt => ?_) (fun hge => ?_)
  · have hlt' : i < l.length := by omega
    rw [ha.ix (by omega) hlt, ob_some, ha.ld 0 (by omega) hlt, ob_some]
    refine C.impl_within ?_
    rw [vUn_not, ob_some]
    refine cnd_i (fun hb => ?_) (fun hb => ?_)
    · refine retK (K := K) (v' := .bool false) rfl ?_
      rw [decide_eq_false] at hk
      · exact hk
      · intro hh
        have := hh _ (at_mem 0 l (i := i) (by omega) hlt)
        simp [this] at hb
    · rw [vInt_add (by omega) (by omega), ob_some]
      refine nxt (l.length - (i + 1)) (by omega) ⟨i + 1, rfl, by omega, rfl, h1, h2, h9, h10, rfl, ?_⟩
      rw [take_at 0 l hlt']
      intro x hx
      rcases List.mem_append.mp hx with hx | hx
      · exact hall x hx
      · simp only [List.mem_singleton] at hx; subst hx; simpa using hb
  · refine retK (K := K) (v' := .bool true) rfl ?_
    rw [decide_eq_true] at hk
    · exact hk
    · intro x hx
      rw [List.take_of_length_le (by omega)] at hall
      exact hall x hx
theorem C.impl_areMany {a : Value} {l : List Int} {n m lo hi : Int} {H : Hp} {K : Value → Hp → Prop} (ha : Sl eI H a l) (hl : l.length ≤ 9223372036854775807)
    (hk : K (.bool (decide ((n ≤ l.length ∧ l.length ≤ m) ∧ ∀ x ∈ l, lo ≤ x ∧ x ≤ hi))) H) :
    HT prg I.impl_areMany [a, .int .i64 n, .int .i64 m, .int .i64 lo, .int .i64 hi].toArray H K := by
  refine R.impl_areMany ?_
  unfold F.impl_areMany
  rw [ha.len, ob_some]
  refine C.impl_within ?_
  by_cases h : n ≤ l.length ∧ l.length ≤ m
  · simp only [h, and_self, decide_true, gop_tt, true_and] at hk ⊢
    refine C.impl_areWithin ha hl ?_
    rw [vPick_t, ob_some]
    exact hk
  · simp only [h, decide_false, gop_ft, vPick_f, ob_some, false_and] at hk ⊢
    exact hk
def isLane (l : List Int) : Prop := (1 ≤ (l.length : Int) ∧ (l.length : Int) ≤ 64) ∧ ∀ x ∈ l, -1 ≤ x ∧ x ≤ 5
instance (l : List Int) : Decidable (isLane l) := by unfold isLane; infer_instance
end Go.Proofs.Ytkehomlkgcfjnaa
