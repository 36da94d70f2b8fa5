/- Lists of truths that are marked, and held. -/
import Derived.Test.YtcjamajenfgddaaSG
import Derived.Test.YtcjamajenfgddaaSE
namespace Go.Proofs.Ytcjamajenfgddaa
open HL
set_option maxRecDepth 100000
/-- Numbers from k on. -/
def rampB (k : Int) (n : Nat) : List Bool := (List.range n).map fun (i : Nat) => decide ((k + i).tmod 3 = 0)
theorem rampB_length (k : Int) (n : Nat) : (rampB k n).length = n := by simp [rampB]
theorem rampB_succ (k : Int) (n : Nat) : rampB k (n + 1) = rampB k n ++ [decide ((k + n).tmod 3 = 0)] := by simp [rampB, List.range_succ]
theorem C.laws_markBoolS {a : Value} {l : List Bool} {k : Int} {H : Hp} {K : Value → Hp → Prop} (ha : Own eB H a l) (hl : l.length ≤ 4611686018427387904) (hk0 : 0 ≤ k) (hk1 : k ≤ 4611686018427387903)
    (hk : ∀ H', Own eB H' a (rampB k l.length) → Off a H H' → K (.int .i64 (k + l.length)) H') : HT prg I.laws_markBoolS [a, .int .i64 k].toArray H K := by
  refine R.laws_markBoolS ?_
  unfold F.laws_markBoolS jn; dsimp only
  refine ⟨fun n σ H1 => ∃ i : Nat, n = l.length - i ∧ i ≤ l.length ∧ σ 0 = a ∧ σ 1 = .int .i64 (k + i) ∧ σ 5 = .int .i64 i ∧ Own eB H1 a (rampB k i ++ l.drop i) ∧ Off a H H1,
    ⟨_, 0, rfl, by omega, rfl, by show Value.int .i64 k = _; simp, rfl, by simpa [rampB] using ha, fun b o hb _ => hb⟩, ?_⟩
  rintro n σ H1 ⟨i, rfl, hi', h0, h1, h5, ho, hoff⟩
  have hlen : (rampB k i ++ l.drop i).length = l.length := by simp [rampB_length]; omega
  have hlen2 := ho.len
  rw [hlen] at hlen2
  simp only [h0, h1, h5, hlen2, vInt_lss, ob_some]
  refine cnd_d (fun hlt => ?_) (fun hge => ?_)
  · have hlt' : i < l.length := by omega
    rw [vInt_rem (by omega), ob_some, vInt_eql, ob_some, ho.sl.ix (by omega) (by rw [hlen]; omega), ob_some]
    refine ho.st (x := decide ((k + i).tmod 3 = 0)) (by omega) (by rw [hlen]; omega) rfl rfl (fun H2 ho2 hoff2 => ?_)
    rw [vInt_add (by omega) (by omega), ob_some, vInt_add (by omega) (by omega), ob_some]
    refine nxt (l.length - (i + 1)) (by omega) ⟨i + 1, rfl, by omega, h0, ?_, rfl, ?_, hoff.trans hoff2⟩
    · show Value.int .i64 (k + i + 1) = _
      congr 1; omega
    · have e : (rampB k i ++ l.drop i).set (i : Int).toNat (decide ((k + i).tmod 3 = 0)) = rampB k (i + 1) ++ l.drop (i + 1) := by
        rw [rampB_succ, Int.toNat_natCast, List.set_append_right _ _ (by rw [rampB_length]; exact Nat.le_refl _), rampB_length, Nat.sub_self, List.drop_eq_getElem_cons hlt']
        simp only [List.set_cons_zero, List.append_assoc, List.singleton_append]
      rw [← e]; exact ho2
  · have : i = l.length := by omega
    subst this
    refine retK (K := K) h1 (hk H1 ?_ hoff)
    simpa using ho
theorem rampB_take (k : Int) (n i : Nat) (h : i ≤ n) : (rampB k n).take i = rampB k i := by
  simp only [rampB, ← List.map_take, List.take_range, Nat.min_eq_left h]
theorem at_rampB (k : Int) (n i : Nat) (h : i < n) : at_ false (rampB k n) (i : Int) = decide ((k + i).tmod 3 = 0) := by
  rw [at_eq false _ (by rw [rampB_length]; exact h)]; simp [rampB]
theorem C.laws_heldBoolS {a : Value} {k : Int} {m : Nat} {H : Hp} {K : Value → Hp → Prop} (ha : Sl eB H a (rampB k m)) (hl : m ≤ 4611686018427387904) (hk0 : 0 ≤ k) (hk1 : k ≤ 4611686018427387903)
    (hk : K (.int .i64 (k + m)) H) : HT prg I.laws_heldBoolS [a, .int .i64 k].toArray H K := by
  refine R.laws_heldBoolS ?_
  unfold F.laws_heldBoolS jn; dsimp only
  have hlen := ha.len
  rw [rampB_length] at hlen
  refine ⟨fun n σ H1 => ∃ i : Nat, n = m - i ∧ i ≤ m ∧ H1 = H ∧ σ 0 = a ∧ σ 1 = .int .i64 (k + i) ∧ σ 5 = .int .i64 i,
    ⟨_, 0, rfl, by omega, rfl, rfl, by show Value.int .i64 k = _; simp, rfl⟩, ?_⟩
  rintro n σ H1 ⟨i, rfl, hi', rfl, h0, h1, h5⟩
  simp only [h0, h1, h5, hlen, vInt_lss, ob_some]
  refine cnd_d (fun hlt => ?_) (fun hge => ?_)
  · have hlt' : i < m := by omega
    rw [ha.ix (by omega) (by rw [rampB_length]; omega), ob_some, ha.ld false (by omega) (by rw [rampB_length]; omega), ob_some, at_rampB k m i hlt', vInt_rem (by omega), ob_some, vInt_eql, ob_some, vBool_neq_same, ob_some]
    refine cnd_f1 ?_
    rw [vInt_add (by omega) (by omega), ob_some, vInt_add (by omega) (by omega), ob_some]
    refine nxt (m - (i + 1)) (by omega) ⟨i + 1, rfl, by omega, rfl, h0, ?_, rfl⟩
    show Value.int .i64 (k + i + 1) = _
    congr 1; omega
  · have : i = m := by omega
    subst this
    exact retK (K := K) h1 hk
end Go.Proofs.Ytcjamajenfgddaa
