/- Lanes that are switched: what the program's and the reference's functions come to. -/
import Derived.Test.YtejbicikffhggaaSC
namespace Go.Proofs.Ytejbicikffhggaa
open HL
set_option maxRecDepth 100000
/-- May the car at i leave lane a for lane b? -/
def chg (a b : List Int) (i : Int) : Prop :=
  0 ≤ at_ 0 a i ∧ 0 ≤ at_ 0 a ((i + 1).tmod a.length) ∧ at_ 0 b i < 0 ∧ at_ 0 b ((i + 1).tmod a.length) < 0 ∧ at_ 0 b ((i + a.length - 1).tmod a.length) < 0
instance (a b : List Int) (i : Int) : Decidable (chg a b i) := by unfold chg; infer_instance
theorem tmod_lt {i n : Int} (h : 0 ≤ i) (hn : 0 < n) : 0 ≤ i.tmod n ∧ i.tmod n < n := ⟨Int.tmod_nonneg _ h, Int.tmod_lt_of_pos _ hn⟩
/-- Numbers from k on. -/
def ramp (k : Int) (n : Nat) : List Int := (List.range n).map fun (i : Nat) => k + i
theorem ramp_length (k : Int) (n : Nat) : (ramp k n).length = n := by simp [ramp]
theorem ramp_succ (k : Int) (n : Nat) : ramp k (n + 1) = ramp k n ++ [k + n] := by simp [ramp, List.range_succ]
theorem C.laws_markInt64S {a : Value} {l : List Int} {k : Int} {H : Hp} {K : Value → Hp → Prop} (ha : Own eI H a l) (hl : l.length ≤ 4611686018427387904) (hk0 : 0 ≤ k) (hk1 : k ≤ 4611686018427387903)
    (hk : ∀ H', Own eI H' a (ramp k l.length) → Off a H H' → K (.int .i64 (k + l.length)) H') : HT prg I.laws_markInt64S [a, .int .i64 k].toArray H K := by
  refine R.laws_markInt64S ?_
  unfold F.laws_markInt64S jn; dsimp only
  refine ⟨fun n σ H1 => ∃ i : Nat, n = l.length - i ∧ i ≤ l.length ∧ σ 0 = a ∧ σ 1 = .int .i64 (k + i) ∧ σ 5 = .int .i64 i ∧ Own eI H1 a (ramp k i ++ l.drop i) ∧ Off a H H1,
    ⟨_, 0, rfl, by omega, rfl, by show Value.int .i64 k = _; simp, rfl, by simpa [ramp] using ha, fun b o hb _ => hb⟩, ?_⟩
  rintro n σ H1 ⟨i, rfl, hi', h0, h1, h5, ho, hoff⟩
  have hlen : (ramp k i ++ l.drop i).length = l.length := by simp [ramp_length]; omega
  have hlen2 := ho.len
  rw [hlen] at hlen2
  simp only [h0, h1, h5, hlen2, vInt_lss, ob_some]
  refine cnd_d (fun hlt => ?_) (fun hge => ?_)
  · have hlt' : i < l.length := by omega
    rw [ho.sl.ix (by omega) (by rw [hlen]; omega), ob_some]
    refine ho.st (x := k + i) (by omega) (by rw [hlen]; omega) rfl rfl (fun H2 ho2 hoff2 => ?_)
    rw [vInt_add (by omega) (by omega), ob_some, vInt_add (by omega) (by omega), ob_some]
    refine nxt (l.length - (i + 1)) (by omega) ⟨i + 1, rfl, by omega, h0, ?_, rfl, ?_, hoff.trans hoff2⟩
    · show Value.int .i64 (k + i + 1) = _
      congr 1; omega
    · have e : (ramp k i ++ l.drop i).set (i : Int).toNat (k + i) = ramp k (i + 1) ++ l.drop (i + 1) := by
        rw [ramp_succ, Int.toNat_natCast, List.set_append_right _ _ (by rw [ramp_length]; exact Nat.le_refl _), ramp_length, Nat.sub_self, List.drop_eq_getElem_cons hlt']
        simp only [List.set_cons_zero, List.append_assoc, List.singleton_append]
      rw [← e]; exact ho2
  · have : i = l.length := by omega
    subst this
    refine retK (K := K) h1 (hk H1 ?_ hoff)
    simpa using ho
theorem ramp_take (k : Int) (n i : Nat) (h : i ≤ n) : (ramp k n).take i = ramp k i := by
  simp only [ramp, ← List.map_take, List.take_range, Nat.min_eq_left h]
theorem at_ramp (k : Int) (n i : Nat) (h : i < n) : at_ 0 (ramp k n) (i : Int) = k + i := by
  rw [at_eq 0 _ (by rw [ramp_length]; exact h)]; simp [ramp]
theorem C.laws_heldInt64S {a : Value} {k : Int} {m : Nat} {H : Hp} {K : Value → Hp → Prop} (ha : Sl eI H a (ramp k m)) (hl : m ≤ 4611686018427387904) (hk0 : 0 ≤ k) (hk1 : k ≤ 4611686018427387903)
    (hk : K (.int .i64 (k + m)) H) : HT prg I.laws_heldInt64S [a, .int .i64 k].toArray H K := by
  refine R.laws_heldInt64S ?_
  unfold F.laws_heldInt64S jn; dsimp only
  have hlen := ha.len
  rw [ramp_length] at hlen
  refine ⟨fun n σ H1 => ∃ i : Nat, n = m - i ∧ i ≤ m ∧ H1 = H ∧ σ 0 = a ∧ σ 1 = .int .i64 (k + i) ∧ σ 5 = .int .i64 i,
    ⟨_, 0, rfl, by omega, rfl, rfl, by show Value.int .i64 k = _; simp, rfl⟩, ?_⟩
  rintro n σ H1 ⟨i, rfl, hi', rfl, h0, h1, h5⟩
  simp only [h0, h1, h5, hlen, vInt_lss, ob_some]
  refine cnd_d (fun hlt => ?_) (fun hge => ?_)
  · have hlt' : i < m := by omega
    rw [ha.ix (by omega) (by rw [ramp_length]; omega), ob_some, ha.ld 0 (by omega) (by rw [ramp_length]; omega), ob_some, at_ramp k m i hlt', vInt_neq, ob_some]
    refine cnd_d (fun hne => absurd rfl hne) (fun _ => ?_)
    rw [vInt_add (by omega) (by omega), ob_some, vInt_add (by omega) (by omega), ob_some]
    refine nxt (m - (i + 1)) (by omega) ⟨i + 1, rfl, by omega, rfl, h0, ?_, rfl⟩
    show Value.int .i64 (k + i + 1) = _
    congr 1; omega
  · have : i = m := by omega
    subst this
    exact retK (K := K) h1 hk
def swp (a b : List Int) (i : Nat) : Int := if chg a b i ∨ chg b a i then at_ 0 b i else at_ 0 a i
def swL (a b : List Int) (k : Nat) : List Int := (List.range k).map (swp a b) ++ a.drop k
theorem swL_length {a b : List Int} {k : Nat} (h : k ≤ a.length) : (swL a b k).length = a.length := by simp [swL]; omega
theorem swL_set {a b : List Int} {k : Nat} (h : k < a.length) (x : Int) (hx : x = swp a b k) : (swL a b k).set (k : Int).toNat x = swL a b (k + 1) := by
  subst hx
  unfold swL
  rw [Int.toNat_natCast, List.set_append_right _ _ (by simp), List.length_map, List.length_range, Nat.sub_self, List.drop_eq_getElem_cons h, List.range_succ]
  simp only [List.set_cons_zero, List.map_append, List.map_cons, List.map_nil, List.append_assoc, List.singleton_append]
theorem swL_keep {a b : List Int} {k : Nat} (h : k < a.length) (hx : ¬ (chg a b k ∨ chg b a k)) : swL a b (k + 1) = swL a b k := by
  have : swp a b k = a[k] := by unfold swp; rw [if_neg hx, at_eq 0 a h]
  unfold swL
  rw [List.range_succ, List.drop_eq_getElem_cons h]
  simp only [List.map_append, List.map_cons, List.map_nil, List.append_assoc, List.singleton_append, this]
def okSw (l m : List Int) : Prop := isLane l ∧ isLane m ∧ l.length = m.length
instance (l m : List Int) : Decidable (okSw l m) := by unfold okSw; infer_instance
def sw1 (l m : List Int) : List Int := if okSw l m then swL l m l.length else []
def sw2 (l m : List Int) : List Int := if okSw l m then swL m l m.length else []
theorem swOneLen {l m : List Int} {n : Nat} (h : l.length ≤ n) : (sw1 l m).length ≤ n := by
  unfold sw1; split
  · rw [swL_length (Nat.le_refl _)]; exact h
  · simp
theorem swTwoLen {l m : List Int} {n : Nat} (h : m.length ≤ n) : (sw2 l m).length ≤ n := by
  unfold sw2; split
  · rw [swL_length (Nat.le_refl _)]; exact h
  · simp
theorem st_new {x y : Value} {e : TypeId} {H : Hp} {r : Nat} {K : Hp → Prop} (ho : oneCell y = true) (hz : y.cells = #[y])
    (hk : ∀ H', (∀ b, b ≠ r → H' b = H b) → vLoad (.pointer (some ⟨r, 0, none⟩)) H' = some y → (∃ o, H' r = some o) → K H') : st 1 (.pointer (some ⟨r, 0, none⟩)) y (H.put r (.cells #[x] e)) K := by
  simp only [HL.st, hz, List.toList_toArray, List.size_toArray, List.length_singleton, true_and, stC, add_none, Nat.add_zero]
  refine ⟨ho, by simp [Hp.cell?, Hp.put_same], by simp [Hp.frozen?, Hp.put_same], ?_⟩
  have e1 : (H.put r (.cells #[x] e)).setCell ⟨r, 0, none⟩ y = H.put r (.cells #[y] e) := by
    unfold Hp.setCell
    simp only [Hp.put_same, Hp.put_put]
    rfl
  rw [e1]
  refine hk _ (fun b hb => Hp.put_ne _ _ hb) ?_ ⟨_, Hp.put_same _ _ _⟩
  simp [vLoad, Hp.cell?, Hp.put_same]
theorem vLoad_le {p v : Value} {H H' : Hp} (h : vLoad p H = some v) (hl : Le H H') : vLoad p H' = some v := by
  cases p <;> simp only [vLoad] at h ⊢ <;> try (simp at h; done)
  rename_i a
  cases a <;> simp only at h ⊢ <;> try (simp at h; done)
  exact hl.cell h
/-- All but two slices' blocks stay: so a cell elsewhere does. -/
theorem vLoad_off {r : Nat} {v x : Value} {H H' : Hp} (h : vLoad (.pointer (some ⟨r, 0, none⟩)) H = some v) (ho : Off x H H') (hx : bk x ≠ some r) : vLoad (.pointer (some ⟨r, 0, none⟩)) H' = some v := by
  simp only [vLoad, Hp.cell?] at h ⊢
  cases hr : H r with
  | none => simp [hr] at h
  | some o => rw [ho r o hr hx]; rw [hr] at h; exact h
end Go.Proofs.Ytejbicikffhggaa
