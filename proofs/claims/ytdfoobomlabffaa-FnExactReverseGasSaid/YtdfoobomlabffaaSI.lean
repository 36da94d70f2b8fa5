/- What says whether lists are equal, and whether gases are. -/
import Derived.Test.YtdfoobomlabffaaSH
namespace Go.Proofs.Ytdfoobomlabffaa
open HL
set_option maxRecDepth 100000
--@ C.spec_l02Equal needs spec_l02Equal
theorem C.spec_l02Equal {a b : Value} {l m : List Int} {H : Hp} {K : Value → Hp → Prop} (ha : Sl eI H a l) (hb : Sl eI H b m) (hl : l.length ≤ 9223372036854775807) (hk : K (.bool (decide (l = m))) H) :
    HT prg I.spec_l02Equal [a, b].toArray H K := by
  refine R.spec_l02Equal ?_
  unfold F.spec_l02Equal jn; dsimp only
  rw [ha.len, hb.len, ob_some, ob_some, vInt_neq, ob_some]
  refine cnd_d (fun hne => ?_) (fun heq => ?_)
  · rw [decide_eq_false] at hk
    · exact hk
    · rintro rfl; exact hne rfl
  · have hlen : l.length = m.length := by omega
    refine ⟨fun n σ H1 => ∃ i : Nat, n = l.length - i ∧ i ≤ l.length ∧ H1 = H ∧ σ 0 = a ∧ σ 1 = b ∧ σ 5 = .int .i64 i ∧ l.take i = m.take i,
      ⟨_, 0, rfl, by omega, rfl, rfl, rfl, rfl, by simp⟩, ?_⟩
    rintro n σ H1 ⟨i, rfl, hi', rfl, h0, h1, h5, hall⟩
    simp only [h0, h1, h5, ha.len, vInt_lss, ob_some]
    refine cnd_d (fun hlt => ?_) (fun hge => ?_)
    · have hlt' : i < l.length := by omega
      rw [ha.ix (by omega) hlt, ob_some, ha.ld 0 (by omega) hlt, ob_some, hb.ix (by omega) (by omega), ob_some, hb.ld 0 (by omega) (by omega), ob_some, vInt_neq, ob_some]
      refine cnd_d (fun hne => ?_) (fun heq => ?_)
      · refine retK (K := K) (v' := .bool false) rfl ?_
        rw [decide_eq_false] at hk
        · exact hk
        · rintro rfl; exact hne rfl
      · rw [vInt_add (by omega) (by omega), ob_some]
        refine nxt (l.length - (i + 1)) (by omega) ⟨i + 1, rfl, by omega, rfl, h0, h1, rfl, ?_⟩
        rw [take_at 0 l hlt', take_at 0 m (by omega), hall, Decidable.not_not.mp heq]
    · refine retK (K := K) (v' := .bool true) rfl ?_
      rw [List.take_of_length_le (by omega), List.take_of_length_le (by omega)] at hall
      rw [decide_eq_true hall] at hk
      exact hk
--@ C.spec_l06Walls needs spec_l06Walls
theorem C.spec_l06Walls {a b : Value} {l m : List Bool} {H : Hp} {K : Value → Hp → Prop} (ha : Sl eB H a l) (hb : Sl eB H b m) (hl : l.length ≤ 9223372036854775807) (hk : K (.bool (decide (l = m))) H) :
    HT prg I.spec_l06Walls [a, b].toArray H K := by
  refine R.spec_l06Walls ?_
  unfold F.spec_l06Walls jn; dsimp only
  rw [ha.len, hb.len, ob_some, ob_some, vInt_neq, ob_some]
  refine cnd_d (fun hne => ?_) (fun heq => ?_)
  · rw [decide_eq_false] at hk
    · exact hk
    · rintro rfl; exact hne rfl
  · have hlen : l.length = m.length := by omega
    refine ⟨fun n σ H1 => ∃ i : Nat, n = l.length - i ∧ i ≤ l.length ∧ H1 = H ∧ σ 0 = a ∧ σ 1 = b ∧ σ 5 = .int .i64 i ∧ l.take i = m.take i,
      ⟨_, 0, rfl, by omega, rfl, rfl, rfl, rfl, by simp⟩, ?_⟩
    rintro n σ H1 ⟨i, rfl, hi', rfl, h0, h1, h5, hall⟩
    simp only [h0, h1, h5, ha.len, vInt_lss, ob_some]
    refine cnd_d (fun hlt => ?_) (fun hge => ?_)
    · have hlt' : i < l.length := by omega
      rw [ha.ix (by omega) hlt, ob_some, ha.ld false (by omega) hlt, ob_some, hb.ix (by omega) (by omega), ob_some, hb.ld false (by omega) (by omega), ob_some, vBool_neq, ob_some]
      refine cnd_i (fun hne => ?_) (fun heq => ?_)
      · refine retK (K := K) (v' := .bool false) rfl ?_
        rw [decide_eq_false] at hk
        · exact hk
        · rintro rfl; simp at hne
      · rw [vInt_add (by omega) (by omega), ob_some]
        refine nxt (l.length - (i + 1)) (by omega) ⟨i + 1, rfl, by omega, rfl, h0, h1, rfl, ?_⟩
        rw [take_at false l hlt', take_at false m (by omega), hall, show at_ false l (i : Int) = at_ false m (i : Int) by simpa using heq]
    · refine retK (K := K) (v' := .bool true) rfl ?_
      rw [List.take_of_length_le (by omega), List.take_of_length_le (by omega)] at hall
      rw [decide_eq_true hall] at hk
      exact hk
--@ C.slices_Equal_int64Zint64 needs slices_Equal_int64Zint64
theorem C.slices_Equal_int64Zint64 {a b : Value} {l m : List Int} {H : Hp} {K : Value → Hp → Prop} (ha : Sl eI H a l) (hb : Sl eI H b m) (hl : l.length ≤ 9223372036854775807) (hk : K (.bool (decide (l = m))) H) :
    HT prg I.slices_Equal_int64Zint64 [a, b].toArray H K := by
  refine R.slices_Equal_int64Zint64 ?_
  unfold F.slices_Equal_int64Zint64 jn; dsimp only
  rw [ha.len, hb.len, ob_some, ob_some, vInt_neq, ob_some]
  refine cnd_d (fun hne => ?_) (fun heq => ?_)
  · rw [decide_eq_false] at hk
    · exact hk
    · rintro rfl; exact hne rfl
  · have hlen : l.length = m.length := by omega
    rw [ob_some]
    refine ⟨fun n σ H1 => ∃ i : Nat, n = l.length - i ∧ i ≤ l.length ∧ H1 = H ∧ σ 0 = a ∧ σ 1 = b ∧ σ 13 = .int .i64 i ∧ σ 12 = .int .i64 l.length ∧ l.take i = m.take i,
      ⟨_, 0, rfl, by omega, rfl, rfl, rfl, rfl, rfl, by simp⟩, ?_⟩
    rintro n σ H1 ⟨i, rfl, hi', rfl, h0, h1, h5, h12, hall⟩
    simp only [h0, h1, h5, h12, vInt_lss, ob_some]
    refine cnd_d (fun hlt => ?_) (fun hge => ?_)
    · have hlt' : i < l.length := by omega
      rw [ha.ix (by omega) hlt, ob_some, ha.ld 0 (by omega) hlt, ob_some, hb.ix (by omega) (by omega), ob_some, hb.ld 0 (by omega) (by omega), ob_some, vInt_neq, ob_some]
      refine cnd_d (fun hne => ?_) (fun heq => ?_)
      · refine retK (K := K) (v' := .bool false) rfl ?_
        rw [decide_eq_false] at hk
        · exact hk
        · rintro rfl; exact hne rfl
      · rw [vInt_add (by omega) (by omega), ob_some]
        refine nxt (l.length - (i + 1)) (by omega) ⟨i + 1, rfl, by omega, rfl, h0, h1, rfl, h12, ?_⟩
        rw [take_at 0 l hlt', take_at 0 m (by omega), hall, Decidable.not_not.mp heq]
    · refine retK (K := K) (v' := .bool true) rfl ?_
      rw [List.take_of_length_le (by omega), List.take_of_length_le (by omega)] at hall
      rw [decide_eq_true hall] at hk
      exact hk
--@ C.slices_Equal_bool_bool needs slices_Equal_bool_bool
theorem C.slices_Equal_bool_bool {a b : Value} {l m : List Bool} {H : Hp} {K : Value → Hp → Prop} (ha : Sl eB H a l) (hb : Sl eB H b m) (hl : l.length ≤ 9223372036854775807) (hk : K (.bool (decide (l = m))) H) :
    HT prg I.slices_Equal_bool_bool [a, b].toArray H K := by
  refine R.slices_Equal_bool_bool ?_
  unfold F.slices_Equal_bool_bool jn; dsimp only
  rw [ha.len, hb.len, ob_some, ob_some, vInt_neq, ob_some]
  refine cnd_d (fun hne => ?_) (fun heq => ?_)
  · rw [decide_eq_false] at hk
    · exact hk
    · rintro rfl; exact hne rfl
  · have hlen : l.length = m.length := by omega
    rw [ob_some]
    refine ⟨fun n σ H1 => ∃ i : Nat, n = l.length - i ∧ i ≤ l.length ∧ H1 = H ∧ σ 0 = a ∧ σ 1 = b ∧ σ 13 = .int .i64 i ∧ σ 12 = .int .i64 l.length ∧ l.take i = m.take i,
      ⟨_, 0, rfl, by omega, rfl, rfl, rfl, rfl, rfl, by simp⟩, ?_⟩
    rintro n σ H1 ⟨i, rfl, hi', rfl, h0, h1, h5, h12, hall⟩
    simp only [h0, h1, h5, h12, vInt_lss, ob_some]
    refine cnd_d (fun hlt => ?_) (fun hge => ?_)
    · have hlt' : i < l.length := by omega
      rw [ha.ix (by omega) hlt, ob_some, ha.ld false (by omega) hlt, ob_some, hb.ix (by omega) (by omega), ob_some, hb.ld false (by omega) (by omega), ob_some, vBool_neq, ob_some]
      refine cnd_i (fun hne => ?_) (fun heq => ?_)
      · refine retK (K := K) (v' := .bool false) rfl ?_
        rw [decide_eq_false] at hk
        · exact hk
        · rintro rfl; simp at hne
      · rw [vInt_add (by omega) (by omega), ob_some]
        refine nxt (l.length - (i + 1)) (by omega) ⟨i + 1, rfl, by omega, rfl, h0, h1, rfl, h12, ?_⟩
        rw [take_at false l hlt', take_at false m (by omega), hall, show at_ false l (i : Int) = at_ false m (i : Int) by simpa using heq]
    · refine retK (K := K) (v' := .bool true) rfl ?_
      rw [List.take_of_length_le (by omega), List.take_of_length_le (by omega)] at hall
      rw [decide_eq_true hall] at hk
      exact hk
--@ C.spec_SameGas needs spec_SameGas C.spec_l02Equal C.spec_l06Walls
theorem C.spec_SameGas {w1 r1 c1 w2 r2 c2 : Int} {a1 b1 a2 b2 : Value} {l1 l2 : List Int} {m1 m2 : List Bool} {H : Hp} {K : Value → Hp → Prop} (ha1 : Sl eI H a1 l1) (hb1 : Sl eB H b1 m1) (ha2 : Sl eI H a2 l2) (hb2 : Sl eB H b2 m2)
    (k1 : l1.length ≤ 9223372036854775807) (k2 : m1.length ≤ 9223372036854775807) (_ : l2.length ≤ 9223372036854775807) (_ : m2.length ≤ 9223372036854775807)
    (hk : ∀ H', Le H H' → K (.bool (decide (w1 = w2 ∧ r1 = r2 ∧ c1 = c2 ∧ l1 = l2 ∧ m1 = m2))) H') :
    HT prg I.spec_SameGas [.agg #[.int .i64 w1, .int .i64 r1, .int .i64 c1, a1, b1], .agg #[.int .i64 w2, .int .i64 r2, .int .i64 c2, a2, b2]].toArray H K := by
  refine R.spec_SameGas ?_
  unfold F.spec_SameGas
  refine nw_i (fun p H1 op np le1 => ?_)
  refine nw_i (fun q H2 oq nq le2 => ?_)
  replace op := op.le le2
  have le := le1.trans le2
  replace hk := hk H2 le
  replace ha1 := ha1.le le
  replace hb1 := hb1.le le
  replace ha2 := ha2.le le
  replace hb2 := hb2.le le
  simp only [op.fa, oq.fa, op.ld 0 rfl, oq.ld 0 rfl, EV]
  by_cases e1 : w1 = w2
  · simp only [e1, true_and, op.fa, oq.fa, op.ld 1 rfl, oq.ld 1 rfl, EV] at hk ⊢
    by_cases e2 : r1 = r2
    · simp only [e2, true_and, op.fa, oq.fa, op.ld 2 rfl, oq.ld 2 rfl, EV] at hk ⊢
      by_cases e3 : c1 = c2
      · simp only [e3, true_and, op.fa, oq.fa, op.ld 3 rfl, oq.ld 3 rfl, EV] at hk ⊢
        refine C.spec_l02Equal ha1 ha2 k1 ?_
        by_cases e4 : l1 = l2
        · simp only [e4, true_and, op.fa, oq.fa, op.ld 4 rfl, oq.ld 4 rfl, EV] at hk ⊢
          refine C.spec_l06Walls hb1 hb2 k2 ?_
          exact hk
        · simp only [e4, false_and, decide_false, EV] at hk ⊢; exact hk
      · simp only [e3, false_and, decide_false, EV] at hk ⊢; exact hk
    · simp only [e2, false_and, decide_false, EV] at hk ⊢; exact hk
  · simp only [e1, false_and, decide_false, EV] at hk ⊢; exact hk
--@ C.impl_SameGas needs impl_SameGas C.slices_Equal_int64Zint64 C.slices_Equal_bool_bool
theorem C.impl_SameGas {w1 r1 c1 w2 r2 c2 : Int} {a1 b1 a2 b2 : Value} {l1 l2 : List Int} {m1 m2 : List Bool} {H : Hp} {K : Value → Hp → Prop} (ha1 : Sl eI H a1 l1) (hb1 : Sl eB H b1 m1) (ha2 : Sl eI H a2 l2) (hb2 : Sl eB H b2 m2)
    (k1 : l1.length ≤ 9223372036854775807) (k2 : m1.length ≤ 9223372036854775807) (_ : l2.length ≤ 9223372036854775807) (_ : m2.length ≤ 9223372036854775807)
    (hk : ∀ H', Le H H' → K (.bool (decide (w1 = w2 ∧ r1 = r2 ∧ c1 = c2 ∧ l1 = l2 ∧ m1 = m2))) H') :
    HT prg I.impl_SameGas [.agg #[.int .i64 w1, .int .i64 r1, .int .i64 c1, a1, b1], .agg #[.int .i64 w2, .int .i64 r2, .int .i64 c2, a2, b2]].toArray H K := by
  refine R.impl_SameGas ?_
  unfold F.impl_SameGas
  refine nw_i (fun p H1 op np le1 => ?_)
  refine nw_i (fun q H2 oq nq le2 => ?_)
  replace op := op.le le2
  have le := le1.trans le2
  replace hk := hk H2 le
  replace ha1 := ha1.le le
  replace hb1 := hb1.le le
  replace ha2 := ha2.le le
  replace hb2 := hb2.le le
  simp only [op.fa, oq.fa, op.ld 0 rfl, oq.ld 0 rfl, EV]
  by_cases e1 : w1 = w2
  · simp only [e1, true_and, op.fa, oq.fa, op.ld 1 rfl, oq.ld 1 rfl, EV] at hk ⊢
    by_cases e2 : r1 = r2
    · simp only [e2, true_and, op.fa, oq.fa, op.ld 2 rfl, oq.ld 2 rfl, EV] at hk ⊢
      by_cases e3 : c1 = c2
      · simp only [e3, true_and, op.fa, oq.fa, op.ld 3 rfl, oq.ld 3 rfl, EV] at hk ⊢
        refine C.slices_Equal_int64Zint64 ha1 ha2 k1 ?_
        by_cases e4 : l1 = l2
        · simp only [e4, true_and, op.fa, oq.fa, op.ld 4 rfl, oq.ld 4 rfl, EV] at hk ⊢
          refine C.slices_Equal_bool_bool hb1 hb2 k2 ?_
          exact hk
        · simp only [e4, false_and, decide_false, EV] at hk ⊢; exact hk
      · simp only [e3, false_and, decide_false, EV] at hk ⊢; exact hk
    · simp only [e2, false_and, decide_false, EV] at hk ⊢; exact hk
  · simp only [e1, false_and, decide_false, EV] at hk ⊢; exact hk
end Go.Proofs.Ytdfoobomlabffaa
