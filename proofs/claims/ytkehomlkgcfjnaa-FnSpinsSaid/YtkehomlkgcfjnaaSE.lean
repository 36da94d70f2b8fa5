/- Lanes that are switched: what the program's and the reference's functions come to. -/
import Derived.Test.YtkehomlkgcfjnaaSC
namespace Go.Proofs.Ytkehomlkgcfjnaa
open HL
set_option maxRecDepth 100000
/-- May the car at i leave lane a for lane b? -/
def chg (a b : List Int) (i : Int) : Prop :=
  0 ≤ at_ 0 a i ∧ 0 ≤ at_ 0 a ((i + 1).tmod a.length) ∧ at_ 0 b i < 0 ∧ at_ 0 b ((i + 1).tmod a.length) < 0 ∧ at_ 0 b ((i + a.length - 1).tmod a.length) < 0
instance (a b : List Int) (i : Int) : Decidable (chg a b i) := by unfold chg; infer_instance
theorem tmod_lt {i n : Int} (h : 0 ≤ i) (hn : 0 < n) : 0 ≤ i.tmod n ∧ i.tmod n < n := ⟨Int.tmod_nonneg _ h, Int.tmod_lt_of_pos _ hn⟩
/-- Numbers from k on. -/
def ramp (k : Int) (n : Nat) : List Int := (List.range n).map fun (i : Nat) => k + i
theorem ramp_length (k : Int) (n : Nat) : (ramp k n).length = n := by simp [ramp]
theorem ramp_succ (k : Int) (n : Nat) : ramp k (n + 1) = ramp k n ++ [k + n] := by simp [ramp, List.range_succ]
theorem ramp_take (k : Int) (n i : Nat) (h : i ≤ n) : (ramp k n).take i = ramp k i := by
  simp only [ramp, ← List.map_take, List.take_range, Nat.min_eq_left h]
theorem at_ramp (k : Int) (n i : Nat) (h : i < n) : at_ 0 (ramp k n) (i : Int) = k + i := by
  rw [at_eq 0 _ (by rw [ramp_length]; exact h)]; simp [ramp]
theorem C.slices_Clone_int64Zint64 {a : Value} {l : List Int} {H : Hp} {K : Value → Hp → Prop} (ha : Sl eI H a l) (hl : l.length ≤ 68719476736) (hk : ∀ v H', Own eI H' v l → Nw H v → Le H H' → K v H') :
    HT prg I.slices_Clone_int64Zint64 [a].toArray H K := by
  refine R.slices_Clone_int64Zint64 ?_
  unfold F.slices_Clone_int64Zint64
  obtain ⟨p, c, rfl, hc, hr⟩ := id ha
  show cnd (.bool p.isNone) _ _
  cases p with
  | none =>
    have : l = [] := by
      cases l with
      | nil => rfl
      | cons x r => obtain ⟨ad, h, _⟩ := hr 0 (by simp); cases h
    subst this
    exact hk _ H ⟨none, 0, rfl, by simp, fun h => absurd h (by simp)⟩ (fun b hb => by simp [bk] at hb) (Le.refl H)
  | some p => exact clone_i (b := 8) ha (fun _ => rfl) (by omega) hl (fun _ => hk)
def swp (a b : List Int) (i : Nat) : Int := if chg a b i ∨ chg b a i then at_ 0 b i else at_ 0 a i
def swL (a b : List Int) (k : Nat) : List Int := (List.range k).map (swp a b) ++ a.drop k
theorem swL_length {a b : List Int} {k : Nat} (h : k ≤ a.length) : (swL a b k).length = a.length := by simp [swL]; omega
theorem swL_set {a b : List Int} {k : Nat} (h : k < a.length) (x : Int) (hx : x = swp a b k) : (swL a b k).set (k : Int).toNat x = swL a b (k + 1) := by
  subst hx
  unfold swL
  rw [Int.toNat_natCast, List.set_append_right _ _ (by simp), List.length_map, List.length_range, Nat.sub_self, List.drop_eq_getElem_cons h, List.range_succ]
  simp only [List.set_cons_zero, List.map_append, List.map_cons, List.map_nil, List.append_assoc, List.singleton_append]
theorem swL_keep {a b : List Int} {k : Nat} (h : k < a.length) (hx : ¬ (chg a b k ∨ chg b a k)) : swL a b (k + 1) = swL a b k := by
  have : swp a b k = a[k] := by unfold swp; rw [if_neg hx, at_eq 0 a h]
  unfold swL
  rw [List.range_succ, List.drop_eq_getElem_cons h]
  simp only [List.map_append, List.map_cons, List.map_nil, List.append_assoc, List.singleton_append, this]
def okSw (l m : List Int) : Prop := isLane l ∧ isLane m ∧ l.length = m.length
instance (l m : List Int) : Decidable (okSw l m) := by unfold okSw; infer_instance
def sw1 (l m : List Int) : List Int := if okSw l m then swL l m l.length else []
def sw2 (l m : List Int) : List Int := if okSw l m then swL m l m.length else []
theorem swOneLen {l m : List Int} {n : Nat} (h : l.length ≤ n) : (sw1 l m).length ≤ n := by
  unfold sw1; split
  · rw [swL_length (Nat.le_refl _)]; exact h
  · simp
theorem swTwoLen {l m : List Int} {n : Nat} (h : m.length ≤ n) : (sw2 l m).length ≤ n := by
  unfold sw2; split
  · rw [swL_length (Nat.le_refl _)]; exact h
  · simp
theorem st_new {x y : Value} {e : TypeId} {H : Hp} {r : Nat} {K : Hp → Prop} (ho : oneCell y = true) (hz : y.cells = #[y])
    (hk : ∀ H', (∀ b, b ≠ r → H' b = H b) → vLoad (.pointer (some ⟨r, 0, none⟩)) H' = some y → (∃ o, H' r = some o) → K H') : st 1 (.pointer (some ⟨r, 0, none⟩)) y (H.put r (.cells #[x] e)) K := by
  simp only [HL.st, hz, List.toList_toArray, List.size_toArray, List.length_singleton, true_and, stC, add_none, Nat.add_zero]
  refine ⟨ho, by simp [Hp.cell?, Hp.put_same], by simp [Hp.frozen?, Hp.put_same], ?_⟩
  have e1 : (H.put r (.cells #[x] e)).setCell ⟨r, 0, none⟩ y = H.put r (.cells #[y] e) := by
    unfold Hp.setCell
    simp only [Hp.put_same, Hp.put_put]
    rfl
  rw [e1]
  refine hk _ (fun b hb => Hp.put_ne _ _ hb) ?_ ⟨_, Hp.put_same _ _ _⟩
  simp [vLoad, Hp.cell?, Hp.put_same]
theorem vLoad_le {p v : Value} {H H' : Hp} (h : vLoad p H = some v) (hl : Le H H') : vLoad p H' = some v := by
  cases p <;> simp only [vLoad] at h ⊢ <;> try (simp at h; done)
  rename_i a
  cases a <;> simp only at h ⊢ <;> try (simp at h; done)
  exact hl.cell h
/-- All but two slices' blocks stay: so a cell elsewhere does. -/
theorem vLoad_off {r : Nat} {v x : Value} {H H' : Hp} (h : vLoad (.pointer (some ⟨r, 0, none⟩)) H = some v) (ho : Off x H H') (hx : bk x ≠ some r) : vLoad (.pointer (some ⟨r, 0, none⟩)) H' = some v := by
  simp only [vLoad, Hp.cell?] at h ⊢
  cases hr : H r with
  | none => simp [hr] at h
  | some o => rw [ho r o hr hx]; rw [hr] at h; exact h
end Go.Proofs.Ytkehomlkgcfjnaa
