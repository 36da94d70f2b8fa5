/- What says whether lists are equal, and whether gases are. -/
import Derived.Test.YtelcmohhjkgjoaaSH
namespace Go.Proofs.Ytelcmohhjkgjoaa
open HL
set_option maxRecDepth 100000
theorem C.slices_Equal_int64Zint64 {a b : Value} {l m : List Int} {H : Hp} {K : Value → Hp → Prop} (ha : Sl eI H a l) (hb : Sl eI H b m) (hl : l.length ≤ 9223372036854775807) (hk : K (.bool (decide (l = m))) H) :
    HT prg I.slices_Equal_int64Zint64 [a, b].toArray H K := by
  refine R.slices_Equal_int64Zint64 ?_
  unfold F.slices_Equal_int64Zint64 jn; dsimp only
  rw [ha.len, hb.len, ob_some, ob_some, vInt_neq, ob_some]
  refine cnd_d (fun hne => ?_) (fun heq => ?_)
  · rw [decide_eq_false] at hk
    · exact hk
    · rintro rfl; exact hne rfl
  · have hlen : l.length = m.length := by omega
    rw [ob_some]
    refine ⟨fun n σ H1 => ∃ i : Nat, n = l.length - i ∧ i ≤ l.length ∧ H1 = H ∧ σ 0 = a ∧ σ 1 = b ∧ σ 13 = .int .i64 i ∧ σ 12 = .int .i64 l.length ∧ l.take i = m.take i,
      ⟨_, 0, rfl, by omega, rfl, rfl, rfl, rfl, rfl, by simp⟩, ?_⟩
    rintro n σ H1 ⟨i, rfl, hi', rfl, h0, h1, h5, h12, hall⟩
    simp only [h0, h1, h5, h12, vInt_lss, ob_some]
    refine cnd_d (fun hlt => ?_) (fun hge => ?_)
    · have hlt' : i < l.length := by omega
      rw [ha.ix (by omega) hlt, ob_some, ha.ld 0 (by omega) hlt, ob_some, hb.ix (by omega) (by omega), ob_some, hb.ld 0 (by omega) (by omega), ob_some, vInt_neq, ob_some]
      refine cnd_d (fun hne => ?_) (fun heq => ?_)
      · refine retK (K := K) (v' := .bool false) rfl ?_
        rw [decide_eq_false] at hk
        · exact hk
        · rintro rfl; exact hne rfl
      · rw [vInt_add (by omega) (by omega), ob_some]
        refine nxt (l.length - (i + 1)) (by omega) ⟨i + 1, rfl, by omega, rfl, h0, h1, rfl, h12, ?_⟩
        rw [take_at 0 l hlt', take_at 0 m (by omega), hall, Decidable.not_not.mp heq]
    · refine retK (K := K) (v' := .bool true) rfl ?_
      rw [List.take_of_length_le (by omega), List.take_of_length_le (by omega)] at hall
      rw [decide_eq_true hall] at hk
      exact hk
end Go.Proofs.Ytelcmohhjkgjoaa
