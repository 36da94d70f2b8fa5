/- What the small functions of lanes come to. -/
import Derived.Test.YtialllbbbpmkbaaDoorSB
import Derived.Test.YtialllbbbpmkbaaDoorGA
namespace Go.Proofs.YtialllbbbpmkbaaDoor
open HL
theorem C.spec_l00In {x lo hi : Int} {H : Hp} {K : Value → Hp → Prop} (hk : K (.bool (decide (lo ≤ x ∧ x ≤ hi))) H) : HT prg I.spec_l00In [.int .i64 x, .int .i64 lo, .int .i64 hi].toArray H K := by
  refine R.spec_l00In ?_
  unfold F.spec_l00In
  by_cases h : lo ≤ x
  · simp only [vInt_geq, vInt_leq, ob_some, h, decide_true, gop_tt, vPick_t, true_and] at hk ⊢; exact hk
  · simp only [vInt_geq, ob_some, h, decide_false, gop_ft, vPick_f, false_and] at hk ⊢; exact hk
theorem C.impl_within {x lo hi : Int} {H : Hp} {K : Value → Hp → Prop} (hk : K (.bool (decide (lo ≤ x ∧ x ≤ hi))) H) : HT prg I.impl_within [.int .i64 x, .int .i64 lo, .int .i64 hi].toArray H K := by
  refine R.impl_within ?_
  unfold F.impl_within
  by_cases h : lo ≤ x
  · simp only [vInt_geq, vInt_leq, ob_some, h, decide_true, gop_tt, vPick_t, true_and] at hk ⊢; exact hk
  · simp only [vInt_geq, ob_some, h, decide_false, gop_ft, vPick_f, false_and] at hk ⊢; exact hk
theorem C.impl_areWithin {a : Value} {l : List Int} {lo hi : Int} {H : Hp} {K : Value → Hp → Prop} (ha : Sl eI H a l) (hl : l.length ≤ 9223372036854775807) (hk : K (.bool (decide (∀ x ∈ l, lo ≤ x ∧ x ≤ hi))) H) :
    HT prg I.impl_areWithin [a, .int .i64 lo, .int .i64 hi].toArray H K := by
  refine R.impl_areWithin ?_
  unfold F.impl_areWithin jn; dsimp only
  rw [ha.len, ob_some]
  refine ⟨fun n σ H1 => ∃ i : Nat, n = l.length - i ∧ i ≤ l.length ∧ H1 = H ∧ σ 1 = .int .i64 lo ∧ σ 2 = .int .i64 hi ∧ σ 9 = a ∧ σ 10 = .int .i64 l.length ∧ σ 11 = .int .i64 i ∧ ∀ x ∈ l.take i, lo ≤ x ∧ x ≤ hi,
    ⟨_, 0, rfl, by omega, rfl, rfl, rfl, rfl, rfl, rfl, by simp⟩, ?_⟩
  rintro n σ H1 ⟨i, rfl, hi', rfl, h1, h2, h9, h10, h11, hall⟩
  simp only [h1, h2, h9, h10, h11, vInt_lss, ob_some]
  refine cnd_d (fun hlt => ?_) (fun hge => ?_)
  · have hlt' : i < l.length := by omega
    rw [ha.ix (by omega) hlt, ob_some, ha.ld 0 (by omega) hlt, ob_some]
    refine C.impl_within ?_
    rw [vUn_not, ob_some]
    refine cnd_i (fun hb => ?_) (fun hb => ?_)
    · refine retK (K := K) (v' := .bool false) rfl ?_
      rw [decide_eq_false] at hk
      · exact hk
      · intro hh
        have := hh _ (at_mem 0 l (i := i) (by omega) hlt)
        simp [this] at hb
    · rw [vInt_add (by omega) (by omega), ob_some]
      refine nxt (l.length - (i + 1)) (by omega) ⟨i + 1, rfl, by omega, rfl, h1, h2, h9, h10, rfl, ?_⟩
      rw [take_at 0 l hlt']
      intro x hx
      rcases List.mem_append.mp hx with hx | hx
      · exact hall x hx
      · simp only [List.mem_singleton] at hx; subst hx; simpa using hb
  · refine retK (K := K) (v' := .bool true) rfl ?_
    rw [decide_eq_true] at hk
    · exact hk
    · intro x hx
      rw [List.take_of_length_le (by omega)] at hall
      exact hall x hx
theorem C.impl_areMany {a : Value} {l : List Int} {n m lo hi : Int} {H : Hp} {K : Value → Hp → Prop} (ha : Sl eI H a l) (hl : l.length ≤ 9223372036854775807)
    (hk : K (.bool (decide ((n ≤ l.length ∧ l.length ≤ m) ∧ ∀ x ∈ l, lo ≤ x ∧ x ≤ hi))) H) :
    HT prg I.impl_areMany [a, .int .i64 n, .int .i64 m, .int .i64 lo, .int .i64 hi].toArray H K := by
  refine R.impl_areMany ?_
  unfold F.impl_areMany
  rw [ha.len, ob_some]
  refine C.impl_within ?_
  by_cases h : n ≤ l.length ∧ l.length ≤ m
  · simp only [h, and_self, decide_true, gop_tt, true_and] at hk ⊢
    refine C.impl_areWithin ha hl ?_
    rw [vPick_t, ob_some]
    exact hk
  · simp only [h, decide_false, gop_ft, vPick_f, ob_some, false_and] at hk ⊢
    exact hk
def isLane (l : List Int) : Prop := (1 ≤ (l.length : Int) ∧ (l.length : Int) ≤ 64) ∧ ∀ x ∈ l, -1 ≤ x ∧ x ≤ 5
instance (l : List Int) : Decidable (isLane l) := by unfold isLane; infer_instance
theorem C.laws_toInt64S {a : Value} {l : List Int} {H : Hp} {K : Value → Hp → Prop} (ha : Sl eI H a l) (hl : l.length ≤ 17592186044416) (hk : ∀ v H', Own eI H' v l → Nw H v → Le H H' → K v H') :
    HT prg I.laws_toInt64S [a].toArray H K := by
  refine R.laws_toInt64S ?_
  unfold F.laws_toInt64S jn; dsimp only
  rw [ha.len, ob_some]
  refine Own.mk_ (by omega) (by omega) (by omega) (by omega) (fun v H0 ho hn hle => ?_)
  refine ⟨fun n σ H1 => ∃ i : Nat, n = l.length - i ∧ i ≤ l.length ∧ σ 0 = a ∧ σ 3 = v ∧ σ 4 = .int .i64 i ∧ Own eI H1 v (l.take i ++ List.replicate (l.length - i) 0) ∧ Off v H0 H1,
    ⟨_, 0, rfl, by omega, rfl, rfl, rfl, by simpa using ho, fun b o hb _ => hb⟩, ?_⟩
  rintro n σ H1 ⟨i, rfl, hi', h0, h3, h4, ho1, hoff⟩
  have hle1 : Le H H1 := hoff.le hle hn
  have ha1 := ha.le hle1
  simp only [h0, h3, h4, ha.len, vInt_lss, ob_some]
  refine cnd_d (fun hlt => ?_) (fun hge => ?_)
  · have hlt' : i < l.length := by omega
    rw [ha1.ix (by omega) hlt, ob_some, ha1.ld 0 (by omega) hlt, ob_some, ho1.sl.ix (by omega) (by simp; omega), ob_some]
    refine ho1.st (x := at_ 0 l (i : Int)) (by omega) (by simp; omega) rfl rfl (fun H2 ho2 hoff2 => ?_)
    rw [vInt_add (by omega) (by omega), ob_some]
    refine nxt (l.length - (i + 1)) (by omega) ⟨i + 1, rfl, by omega, h0, h3, rfl, ?_, hoff.trans hoff2⟩
    have e : (l.take i ++ List.replicate (l.length - i) 0).set (i : Int).toNat (at_ 0 l (i : Int)) = l.take (i + 1) ++ List.replicate (l.length - (i + 1)) 0 := by
      rw [take_at 0 l hlt', Int.toNat_natCast, List.set_append_right _ _ (by simp; omega), show l.length - i = (l.length - (i + 1)) + 1 by omega, List.replicate_succ]
      simp [Nat.min_eq_left (Nat.le_of_lt hlt')]
    rw [← e]; exact ho2
  · refine retK (K := K) (v' := v) h3 (hk v H1 ?_ hn hle1)
    rw [List.take_of_length_le (by omega), show l.length - i = 0 by omega] at ho1
    simpa using ho1
theorem C.laws_eqInt64S {a b : Value} {l m : List Int} {H : Hp} {K : Value → Hp → Prop} (ha : Sl eI H a l) (hb : Sl eI H b m) (hl : l.length ≤ 9223372036854775807) (hk : K (.bool (decide (l = m))) H) :
    HT prg I.laws_eqInt64S [a, b].toArray H K := by
  refine R.laws_eqInt64S ?_
  unfold F.laws_eqInt64S jn; dsimp only
  rw [ha.len, hb.len, ob_some, ob_some, vInt_neq, ob_some]
  refine cnd_d (fun hne => ?_) (fun heq => ?_)
  · rw [decide_eq_false] at hk
    · exact hk
    · rintro rfl; exact hne rfl
  · have hlen : l.length = m.length := by omega
    refine ⟨fun n σ H1 => ∃ i : Nat, n = l.length - i ∧ i ≤ l.length ∧ H1 = H ∧ σ 0 = a ∧ σ 1 = b ∧ σ 5 = .int .i64 i ∧ l.take i = m.take i,
      ⟨_, 0, rfl, by omega, rfl, rfl, rfl, rfl, by simp⟩, ?_⟩
    rintro n σ H1 ⟨i, rfl, hi', rfl, h0, h1, h5, hall⟩
    simp only [h0, h1, h5, ha.len, vInt_lss, ob_some]
    refine cnd_d (fun hlt => ?_) (fun hge => ?_)
    · have hlt' : i < l.length := by omega
      rw [ha.ix (by omega) hlt, ob_some, ha.ld 0 (by omega) hlt, ob_some, hb.ix (by omega) (by omega), ob_some, hb.ld 0 (by omega) (by omega), ob_some, vInt_neq, ob_some]
      refine cnd_d (fun hne => ?_) (fun heq => ?_)
      · refine retK (K := K) (v' := .bool false) rfl ?_
        rw [decide_eq_false] at hk
        · exact hk
        · rintro rfl; exact hne rfl
      · rw [vInt_add (by omega) (by omega), ob_some]
        refine nxt (l.length - (i + 1)) (by omega) ⟨i + 1, rfl, by omega, rfl, h0, h1, rfl, ?_⟩
        rw [take_at 0 l hlt', take_at 0 m (by omega), hall, Decidable.not_not.mp heq]
    · refine retK (K := K) (v' := .bool true) rfl ?_
      rw [List.take_of_length_le (by omega), List.take_of_length_le (by omega)] at hall
      rw [decide_eq_true hall] at hk
      exact hk
end Go.Proofs.YtialllbbbpmkbaaDoor
