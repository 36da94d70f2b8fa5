/- Lists of truths: copies, and what is alike; lengths that are paid for. -/
import Derived.Test.YtcjamajenfgddaaSC
import Derived.Test.YtcjamajenfgddaaSS
namespace Go.Proofs.Ytcjamajenfgddaa
open HL
set_option maxRecDepth 100000
theorem C.laws_toBoolS {a : Value} {l : List Bool} {H : Hp} {K : Value → Hp → Prop} (ha : Sl eB H a l) (hl : l.length ≤ 17592186044416) (hk : ∀ v H', Own eB H' v l → Nw H v → Le H H' → K v H') :
    HT prg I.laws_toBoolS [a].toArray H K := by
  refine R.laws_toBoolS ?_
  unfold F.laws_toBoolS jn; dsimp only
  rw [ha.len, ob_some]
  refine Own.mk_ (by omega) (by omega) (by omega) (by omega) (fun v H0 ho hn hle => ?_)
  refine ⟨fun n σ H1 => ∃ i : Nat, n = l.length - i ∧ i ≤ l.length ∧ σ 0 = a ∧ σ 3 = v ∧ σ 4 = .int .i64 i ∧ Own eB H1 v (l.take i ++ List.replicate (l.length - i) false) ∧ Off v H0 H1,
    ⟨_, 0, rfl, by omega, rfl, rfl, rfl, by simpa using ho, fun b o hb _ => hb⟩, ?_⟩
  rintro n σ H1 ⟨i, rfl, hi', h0, h3, h4, ho1, hoff⟩
  have hle1 : Le H H1 := hoff.le hle hn
  have ha1 := ha.le hle1
  simp only [h0, h3, h4, ha.len, vInt_lss, ob_some]
  refine cnd_d (fun hlt => ?_) (fun hge => ?_)
  · have hlt' : i < l.length := by omega
    rw [ha1.ix (by omega) hlt, ob_some, ha1.ld false (by omega) hlt, ob_some, ho1.sl.ix (by omega) (by simp; omega), ob_some]
    refine ho1.st (x := at_ false l (i : Int)) (by omega) (by simp; omega) rfl rfl (fun H2 ho2 hoff2 => ?_)
    rw [vInt_add (by omega) (by omega), ob_some]
    refine nxt (l.length - (i + 1)) (by omega) ⟨i + 1, rfl, by omega, h0, h3, rfl, ?_, hoff.trans hoff2⟩
    have e : (l.take i ++ List.replicate (l.length - i) false).set (i : Int).toNat (at_ false l (i : Int)) = l.take (i + 1) ++ List.replicate (l.length - (i + 1)) false := by
      rw [take_at false l hlt', Int.toNat_natCast, List.set_append_right _ _ (by simp; omega), show l.length - i = (l.length - (i + 1)) + 1 by omega, List.replicate_succ]
      simp [Nat.min_eq_left (Nat.le_of_lt hlt')]
    rw [← e]; exact ho2
  · refine retK (K := K) (v' := v) h3 (hk v H1 ?_ hn hle1)
    rw [List.take_of_length_le (by omega), show l.length - i = 0 by omega] at ho1
    simpa using ho1
theorem C.laws_eqBoolS {a b : Value} {l m : List Bool} {H : Hp} {K : Value → Hp → Prop} (ha : Sl eB H a l) (hb : Sl eB H b m) (hl : l.length ≤ 9223372036854775807) (hk : K (.bool (decide (l = m))) H) :
    HT prg I.laws_eqBoolS [a, b].toArray H K := by
  refine R.laws_eqBoolS ?_
  unfold F.laws_eqBoolS jn; dsimp only
  rw [ha.len, hb.len, ob_some, ob_some, vInt_neq, ob_some]
  refine cnd_d (fun hne => ?_) (fun heq => ?_)
  · rw [decide_eq_false] at hk
    · exact hk
    · rintro rfl; exact hne rfl
  · have hlen : l.length = m.length := by omega
    refine ⟨fun n σ H1 => ∃ i : Nat, n = l.length - i ∧ i ≤ l.length ∧ H1 = H ∧ σ 0 = a ∧ σ 1 = b ∧ σ 5 = .int .i64 i ∧ l.take i = m.take i,
      ⟨_, 0, rfl, by omega, rfl, rfl, rfl, rfl, by simp⟩, ?_⟩
    rintro n σ H1 ⟨i, rfl, hi', rfl, h0, h1, h5, hall⟩
    simp only [h0, h1, h5, ha.len, vInt_lss, ob_some]
    refine cnd_d (fun hlt => ?_) (fun hge => ?_)
    · have hlt' : i < l.length := by omega
      rw [ha.ix (by omega) hlt, ob_some, ha.ld false (by omega) hlt, ob_some, hb.ix (by omega) (by omega), ob_some, hb.ld false (by omega) (by omega), ob_some, vBool_neq, ob_some]
      refine cnd_i (fun hne => ?_) (fun heq => ?_)
      · refine retK (K := K) (v' := .bool false) rfl ?_
        rw [decide_eq_false] at hk
        · exact hk
        · rintro rfl; simp at hne
      · rw [vInt_add (by omega) (by omega), ob_some]
        refine nxt (l.length - (i + 1)) (by omega) ⟨i + 1, rfl, by omega, rfl, h0, h1, rfl, ?_⟩
        rw [take_at false l hlt', take_at false m (by omega), hall, show at_ false l (i : Int) = at_ false m (i : Int) by simpa using heq]
    · refine retK (K := K) (v' := .bool true) rfl ?_
      rw [List.take_of_length_le (by omega), List.take_of_length_le (by omega)] at hall
      rw [decide_eq_true hall] at hk
      exact hk
theorem C.laws_szBoolS {a : Value} {n : Nat} {k : Int} {H : Hp} {K : Value → Hp → Prop} (ha : vLenSl a = some (.int .i64 n)) (h0 : 0 ≤ k) (hn : (n : Int) ≤ 9223372036854775807)  (h1 : k - n < 0 → K (.int .i64 (-1)) H) (h2 : 0 ≤ k - n → K (.int .i64 (k - n)) H) (hk : k < 9223372036854775808 := by omega) :
    HT prg I.laws_szBoolS [a, .int .i64 k].toArray H K := by
  refine R.laws_szBoolS ?_
  unfold F.laws_szBoolS
  rw [ha, ob_some, vInt_sub (by omega) (by omega), ob_some, vInt_lss, ob_some]
  exact cnd_d (fun h => h1 h) (fun h => h2 (by omega))
end Go.Proofs.Ytcjamajenfgddaa
