/- Lists of numbers with a point that are marked, and held. -/
import Derived.Test.YtcjamajenfgddaaFA
import Derived.Test.YtcjamajenfgddaaSE
namespace Go.Proofs.Ytcjamajenfgddaa
open HL Ieee
set_option maxRecDepth 100000
theorem nearest_word1 (g : Bool) (m : Nat) (e : Int) : ∃ r, r ≤ single.infRung ∧ single.nearest g m e = single.word g r := by
  unfold Format.nearest
  simp only
  split
  · exact ⟨0, by omega, rfl⟩
  · exact ⟨_, Nat.min_le_right _ _, rfl⟩
theorem near_nn (x : Int) : nanB .f32 (FloatKind.nearest .f32 x) = false := by
  obtain ⟨r, hr, e⟩ := nearest_word1 (x < 0) x.natAbs 0
  have e1 : FloatKind.nearest .f32 x = single.word (x < 0) r := e
  rw [e1]
  show (single.read _).isNaN = false
  have hw : single.word (x < 0) r % single.signWeight = r := by
    rw [single_inf] at hr
    unfold Format.word
    rw [single_sw]
    by_cases h : decide (x < 0) = true
    · rw [if_pos h]; omega
    · rw [if_neg h]; omega
  unfold Format.read
  simp only [hw]
  split
  · rfl
  · split
    · rfl
    · rw [if_pos (by omega)]; rfl
/-- Numbers from k on. -/
def rampF (k : Int) (n : Nat) : List Nat := (List.range n).map fun (i : Nat) => FloatKind.nearest .f32 (k + i)
theorem rampF_length (k : Int) (n : Nat) : (rampF k n).length = n := by simp [rampF]
theorem rampF_succ (k : Int) (n : Nat) : rampF k (n + 1) = rampF k n ++ [FloatKind.nearest .f32 (k + n)] := by simp [rampF, List.range_succ]
theorem C.laws_markFloat32S {a : Value} {l : List Nat} {k : Int} {H : Hp} {K : Value → Hp → Prop} (ha : Own eF H a l) (hl : l.length ≤ 4611686018427387904) (hk0 : 0 ≤ k) (hk1 : k ≤ 4611686018427387903)
    (hk : ∀ H', Own eF H' a (rampF k l.length) → Off a H H' → K (.int .i64 (k + l.length)) H') : HT prg I.laws_markFloat32S [a, .int .i64 k].toArray H K := by
  refine R.laws_markFloat32S ?_
  unfold F.laws_markFloat32S jn; dsimp only
  refine ⟨fun n σ H1 => ∃ i : Nat, n = l.length - i ∧ i ≤ l.length ∧ σ 0 = a ∧ σ 1 = .int .i64 (k + i) ∧ σ 5 = .int .i64 i ∧ Own eF H1 a (rampF k i ++ l.drop i) ∧ Off a H H1,
    ⟨_, 0, rfl, by omega, rfl, by show Value.int .i64 k = _; simp, rfl, by simpa [rampF] using ha, fun b o hb _ => hb⟩, ?_⟩
  rintro n σ H1 ⟨i, rfl, hi', h0, h1, h5, ho, hoff⟩
  have hlen : (rampF k i ++ l.drop i).length = l.length := by simp [rampF_length]; omega
  have hlen2 := ho.len
  rw [hlen] at hlen2
  simp only [h0, h1, h5, hlen2, vInt_lss, ob_some]
  refine cnd_d (fun hlt => ?_) (fun hge => ?_)
  · have hlt' : i < l.length := by omega
    refine ob_i (a := .float .f32 (FloatKind.nearest .f32 (k + i))) rfl ?_
    rw [ho.sl.ix (by omega) (by rw [hlen]; omega), ob_some]
    refine ho.st (x := FloatKind.nearest .f32 (k + i)) (by omega) (by rw [hlen]; omega) rfl rfl (fun H2 ho2 hoff2 => ?_)
    rw [vInt_add (by omega) (by omega), ob_some, vInt_add (by omega) (by omega), ob_some]
    refine nxt (l.length - (i + 1)) (by omega) ⟨i + 1, rfl, by omega, h0, ?_, rfl, ?_, hoff.trans hoff2⟩
    · show Value.int .i64 (k + i + 1) = _
      congr 1; omega
    · have e : (rampF k i ++ l.drop i).set (i : Int).toNat (FloatKind.nearest .f32 (k + i)) = rampF k (i + 1) ++ l.drop (i + 1) := by
        rw [rampF_succ, Int.toNat_natCast, List.set_append_right _ _ (by rw [rampF_length]; exact Nat.le_refl _), rampF_length, Nat.sub_self, List.drop_eq_getElem_cons hlt']
        simp only [List.set_cons_zero, List.append_assoc, List.singleton_append]
      rw [← e]; exact ho2
  · have : i = l.length := by omega
    subst this
    refine retK (K := K) h1 (hk H1 ?_ hoff)
    simpa using ho
theorem at_rampF (k : Int) (n i : Nat) (h : i < n) : at_ 0 (rampF k n) (i : Int) = FloatKind.nearest .f32 (k + i) := by
  rw [at_eq 0 _ (by rw [rampF_length]; exact h)]; simp [rampF]
theorem C.laws_heldFloat32S {a : Value} {k : Int} {m : Nat} {H : Hp} {K : Value → Hp → Prop} (ha : Sl eF H a (rampF k m)) (hl : m ≤ 4611686018427387904) (hk0 : 0 ≤ k) (hk1 : k ≤ 4611686018427387903)
    (hk : K (.int .i64 (k + m)) H) : HT prg I.laws_heldFloat32S [a, .int .i64 k].toArray H K := by
  refine R.laws_heldFloat32S ?_
  unfold F.laws_heldFloat32S jn; dsimp only
  have hlen := ha.len
  rw [rampF_length] at hlen
  refine ⟨fun n σ H1 => ∃ i : Nat, n = m - i ∧ i ≤ m ∧ H1 = H ∧ σ 0 = a ∧ σ 1 = .int .i64 (k + i) ∧ σ 5 = .int .i64 i,
    ⟨_, 0, rfl, by omega, rfl, rfl, by show Value.int .i64 k = _; simp, rfl⟩, ?_⟩
  rintro n σ H1 ⟨i, rfl, hi', rfl, h0, h1, h5⟩
  simp only [h0, h1, h5, hlen, vInt_lss, ob_some]
  refine cnd_d (fun hlt => ?_) (fun hge => ?_)
  · have hlt' : i < m := by omega
    rw [ha.ix (by omega) (by rw [rampF_length]; omega), ob_some, ha.ld 0 (by omega) (by rw [rampF_length]; omega), ob_some, at_rampF k m i hlt']
    refine ob_i (a := .float .f32 (FloatKind.nearest .f32 (k + i))) rfl ?_
    rw [vFcmp_neq, order_self (near_nn _), ob_some]
    refine cnd_f1 ?_
    rw [vInt_add (by omega) (by omega), ob_some, vInt_add (by omega) (by omega), ob_some]
    refine nxt (m - (i + 1)) (by omega) ⟨i + 1, rfl, by omega, rfl, h0, ?_, rfl⟩
    show Value.int .i64 (k + i + 1) = _
    congr 1; omega
  · have : i = m := by omega
    subst this
    exact retK (K := K) h1 hk
end Go.Proofs.Ytcjamajenfgddaa
