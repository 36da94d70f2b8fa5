/- Lanes that are switched: what the program's and the reference's functions come to. -/
import Derived.Test.YtdfoobomlabffaaSC
namespace Go.Proofs.Ytdfoobomlabffaa
open HL
set_option maxRecDepth 100000
/-- May the car at i leave lane a for lane b? -/
def chg (a b : List Int) (i : Int) : Prop :=
  0 ≤ at_ 0 a i ∧ 0 ≤ at_ 0 a ((i + 1).tmod a.length) ∧ at_ 0 b i < 0 ∧ at_ 0 b ((i + 1).tmod a.length) < 0 ∧ at_ 0 b ((i + a.length - 1).tmod a.length) < 0
instance (a b : List Int) (i : Int) : Decidable (chg a b i) := by unfold chg; infer_instance
theorem tmod_lt {i n : Int} (h : 0 ≤ i) (hn : 0 < n) : 0 ≤ i.tmod n ∧ i.tmod n < n := ⟨Int.tmod_nonneg _ h, Int.tmod_lt_of_pos _ hn⟩
theorem C.spec_l06Changes {a b : Value} {l m : List Int} {i : Int} {H : Hp} {K : Value → Hp → Prop} (ha : Sl eI H a l) (hb : Sl eI H b m) (h0 : 0 ≤ i) (h1 : i < l.length) (hlm : l.length = m.length) (hl : l.length ≤ 1048576)
    (hk : K (.bool (decide (chg l m i))) H) : HT prg I.spec_l06Changes [a, b, .int .i64 i].toArray H K := by
  refine R.spec_l06Changes ?_
  unfold F.spec_l06Changes
  unfold chg at hk
  have hn : (0 : Int) < l.length := by omega
  have q1 := tmod_lt (i := i + 1) (by omega) hn
  have q2 := tmod_lt (i := i + l.length - 1) (by omega) hn
  have hlm' : (l.length : Int) = m.length := by omega
  have e1 : vInt .add (.int .i64 i) (.int .i64 1) = some (.int .i64 (i + 1)) := vInt_add (by omega) (by omega)
  have e2 : vInt .rem (.int .i64 (i + 1)) (.int .i64 l.length) = some (.int .i64 ((i + 1).tmod l.length)) := vInt_rem (by omega)
  have e3 : vInt .add (.int .i64 i) (.int .i64 l.length) = some (.int .i64 (i + l.length)) := vInt_add (by omega) (by omega)
  have e4 : vInt .sub (.int .i64 (i + l.length)) (.int .i64 1) = some (.int .i64 (i + l.length - 1)) := vInt_sub (by omega) (by omega)
  have e5 : vInt .rem (.int .i64 (i + l.length - 1)) (.int .i64 l.length) = some (.int .i64 ((i + l.length - 1).tmod l.length)) := vInt_rem (by omega)
  rw [ha.len, ob_some, ha.ix h0 h1, ob_some, ha.ld 0 h0 h1, ob_some, vInt_geq, ob_some]
  by_cases c1 : 0 ≤ at_ 0 l i
  · simp only [c1, decide_true, gop_tt, ob_some, e1, e2, ha.ix (k := .i64) q1.1 q1.2, ha.ld 0 q1.1 q1.2, vInt_geq, vPick_t, true_and] at hk ⊢
    by_cases c2 : 0 ≤ at_ 0 l ((i + 1).tmod l.length)
    · simp only [c2, decide_true, gop_tt, ob_some, hb.ix (k := .i64) h0 (hlm' ▸ h1), hb.ld 0 h0 (hlm' ▸ h1), vInt_lss, vPick_t, true_and] at hk ⊢
      by_cases c3 : at_ 0 m i < 0
      · simp only [c3, decide_true, gop_tt, ob_some, e1, e2, hb.ix (k := .i64) q1.1 (hlm' ▸ q1.2), hb.ld 0 q1.1 (hlm' ▸ q1.2), vInt_lss, vPick_t, true_and] at hk ⊢
        by_cases c4 : at_ 0 m ((i + 1).tmod l.length) < 0
        · simp only [c4, decide_true, gop_tt, ob_some, e3, e4, e5, hb.ix (k := .i64) q2.1 (hlm' ▸ q2.2), hb.ld 0 q2.1 (hlm' ▸ q2.2), vInt_lss, vPick_t, true_and] at hk ⊢
          exact hk
        · simp only [c4, decide_false, gop_ft, vPick_f, ob_some, false_and] at hk ⊢; exact hk
      · simp only [c3, decide_false, gop_ft, vPick_f, ob_some, false_and] at hk ⊢; exact hk
    · simp only [c2, decide_false, gop_ft, vPick_f, ob_some, false_and] at hk ⊢; exact hk
  · simp only [c1, decide_false, gop_ft, vPick_f, ob_some, false_and] at hk ⊢; exact hk
theorem C.impl_SwitchLanes_1 {a b p : Value} {l m : List Int} {i : Int} {H : Hp} {K : Value → Hp → Prop} (ha : Sl eI H a l) (hb : Sl eI H b m) (h0 : 0 ≤ i) (h1 : i < l.length) (hlm : l.length = m.length) (hl : l.length ≤ 1048576)
    (hp : vLoad p H = some (.int .i64 l.length)) (hk : K (.bool (decide (chg l m i))) H) : HT prg I.impl_SwitchLanes_1 [a, b, .int .i64 i, p].toArray H K := by
  refine R.impl_SwitchLanes_1 ?_
  unfold F.impl_SwitchLanes_1
  unfold chg at hk
  have hn : (0 : Int) < l.length := by omega
  have q1 := tmod_lt (i := i + 1) (by omega) hn
  have q2 := tmod_lt (i := i + l.length - 1) (by omega) hn
  have hlm' : (l.length : Int) = m.length := by omega
  have e1 : vInt .add (.int .i64 i) (.int .i64 1) = some (.int .i64 (i + 1)) := vInt_add (by omega) (by omega)
  have e2 : vInt .rem (.int .i64 (i + 1)) (.int .i64 l.length) = some (.int .i64 ((i + 1).tmod l.length)) := vInt_rem (by omega)
  have e3 : vInt .add (.int .i64 i) (.int .i64 l.length) = some (.int .i64 (i + l.length)) := vInt_add (by omega) (by omega)
  have e4 : vInt .sub (.int .i64 (i + l.length)) (.int .i64 1) = some (.int .i64 (i + l.length - 1)) := vInt_sub (by omega) (by omega)
  have e5 : vInt .rem (.int .i64 (i + l.length - 1)) (.int .i64 l.length) = some (.int .i64 ((i + l.length - 1).tmod l.length)) := vInt_rem (by omega)
  rw [ha.ix h0 h1, ob_some, ha.ld 0 h0 h1, ob_some, vInt_geq, ob_some]
  by_cases c1 : 0 ≤ at_ 0 l i
  · simp only [c1, decide_true, gop_tt, ob_some, hp, e1, e2, ha.ix (k := .i64) q1.1 q1.2, ha.ld 0 q1.1 q1.2, vInt_geq, vPick_t, true_and] at hk ⊢
    by_cases c2 : 0 ≤ at_ 0 l ((i + 1).tmod l.length)
    · simp only [c2, decide_true, gop_tt, ob_some, hb.ix (k := .i64) h0 (hlm' ▸ h1), hb.ld 0 h0 (hlm' ▸ h1), vInt_lss, vPick_t, true_and] at hk ⊢
      by_cases c3 : at_ 0 m i < 0
      · simp only [c3, decide_true, gop_tt, ob_some, hp, e3, e4, e5, hb.ix (k := .i64) q2.1 (hlm' ▸ q2.2), hb.ld 0 q2.1 (hlm' ▸ q2.2), vInt_lss, vPick_t, true_and] at hk ⊢
        by_cases c4 : at_ 0 m ((i + l.length - 1).tmod l.length) < 0
        · simp only [c4, decide_true, gop_tt, ob_some, hp, e1, e2, hb.ix (k := .i64) q1.1 (hlm' ▸ q1.2), hb.ld 0 q1.1 (hlm' ▸ q1.2), vInt_lss, vPick_t, and_true] at hk ⊢
          exact hk
        · simp only [c4, decide_false, gop_ft, vPick_f, ob_some, and_false] at hk ⊢; exact hk
      · simp only [c3, decide_false, gop_ft, vPick_f, ob_some, false_and] at hk ⊢; exact hk
    · simp only [c2, decide_false, gop_ft, vPick_f, ob_some, false_and] at hk ⊢; exact hk
  · simp only [c1, decide_false, gop_ft, vPick_f, ob_some, false_and] at hk ⊢; exact hk
/-- Numbers from k on. -/
def ramp (k : Int) (n : Nat) : List Int := (List.range n).map fun (i : Nat) => k + i
theorem ramp_length (k : Int) (n : Nat) : (ramp k n).length = n := by simp [ramp]
theorem ramp_succ (k : Int) (n : Nat) : ramp k (n + 1) = ramp k n ++ [k + n] := by simp [ramp, List.range_succ]
theorem C.laws_markInt64S {a : Value} {l : List Int} {k : Int} {H : Hp} {K : Value → Hp → Prop} (ha : Own eI H a l) (hl : l.length ≤ 4611686018427387904) (hk0 : 0 ≤ k) (hk1 : k ≤ 4611686018427387903)
    (hk : ∀ H', Own eI H' a (ramp k l.length) → Off a H H' → K (.int .i64 (k + l.length)) H') : HT prg I.laws_markInt64S [a, .int .i64 k].toArray H K := by
  refine R.laws_markInt64S ?_
  unfold F.laws_markInt64S jn; dsimp only
  refine ⟨fun n σ H1 => ∃ i : Nat, n = l.length - i ∧ i ≤ l.length ∧ σ 0 = a ∧ σ 1 = .int .i64 (k + i) ∧ σ 5 = .int .i64 i ∧ Own eI H1 a (ramp k i ++ l.drop i) ∧ Off a H H1,
    ⟨_, 0, rfl, by omega, rfl, by show Value.int .i64 k = _; simp, rfl, by simpa [ramp] using ha, fun b o hb _ => hb⟩, ?_⟩
  rintro n σ H1 ⟨i, rfl, hi', h0, h1, h5, ho, hoff⟩
  have hlen : (ramp k i ++ l.drop i).length = l.length := by simp [ramp_length]; omega
  have hlen2 := ho.len
  rw [hlen] at hlen2
  simp only [h0, h1, h5, hlen2, vInt_lss, ob_some]
  refine cnd_d (fun hlt => ?_) (fun hge => ?_)
  · have hlt' : i < l.length := by omega
    rw [ho.sl.ix (by omega) (by rw [hlen]; omega), ob_some]
    refine ho.st (x := k + i) (by omega) (by rw [hlen]; omega) rfl rfl (fun H2 ho2 hoff2 => ?_)
    rw [vInt_add (by omega) (by omega), ob_some, vInt_add (by omega) (by omega), ob_some]
    refine nxt (l.length - (i + 1)) (by omega) ⟨i + 1, rfl, by omega, h0, ?_, rfl, ?_, hoff.trans hoff2⟩
    · show Value.int .i64 (k + i + 1) = _
      congr 1; omega
    · have e : (ramp k i ++ l.drop i).set (i : Int).toNat (k + i) = ramp k (i + 1) ++ l.drop (i + 1) := by
        rw [ramp_succ, Int.toNat_natCast, List.set_append_right _ _ (by rw [ramp_length]; exact Nat.le_refl _), ramp_length, Nat.sub_self, List.drop_eq_getElem_cons hlt']
        simp only [List.set_cons_zero, List.append_assoc, List.singleton_append]
      rw [← e]; exact ho2
  · have : i = l.length := by omega
    subst this
    refine retK (K := K) h1 (hk H1 ?_ hoff)
    simpa using ho
theorem ramp_take (k : Int) (n i : Nat) (h : i ≤ n) : (ramp k n).take i = ramp k i := by
  simp only [ramp, ← List.map_take, List.take_range, Nat.min_eq_left h]
theorem at_ramp (k : Int) (n i : Nat) (h : i < n) : at_ 0 (ramp k n) (i : Int) = k + i := by
  rw [at_eq 0 _ (by rw [ramp_length]; exact h)]; simp [ramp]
theorem C.laws_heldInt64S {a : Value} {k : Int} {m : Nat} {H : Hp} {K : Value → Hp → Prop} (ha : Sl eI H a (ramp k m)) (hl : m ≤ 4611686018427387904) (hk0 : 0 ≤ k) (hk1 : k ≤ 4611686018427387903)
    (hk : K (.int .i64 (k + m)) H) : HT prg I.laws_heldInt64S [a, .int .i64 k].toArray H K := by
  refine R.laws_heldInt64S ?_
  unfold F.laws_heldInt64S jn; dsimp only
  have hlen := ha.len
  rw [ramp_length] at hlen
  refine ⟨fun n σ H1 => ∃ i : Nat, n = m - i ∧ i ≤ m ∧ H1 = H ∧ σ 0 = a ∧ σ 1 = .int .i64 (k + i) ∧ σ 5 = .int .i64 i,
    ⟨_, 0, rfl, by omega, rfl, rfl, by show Value.int .i64 k = _; simp, rfl⟩, ?_⟩
  rintro n σ H1 ⟨i, rfl, hi', rfl, h0, h1, h5⟩
  simp only [h0, h1, h5, hlen, vInt_lss, ob_some]
  refine cnd_d (fun hlt => ?_) (fun hge => ?_)
  · have hlt' : i < m := by omega
    rw [ha.ix (by omega) (by rw [ramp_length]; omega), ob_some, ha.ld 0 (by omega) (by rw [ramp_length]; omega), ob_some, at_ramp k m i hlt', vInt_neq, ob_some]
    refine cnd_d (fun hne => absurd rfl hne) (fun _ => ?_)
    rw [vInt_add (by omega) (by omega), ob_some, vInt_add (by omega) (by omega), ob_some]
    refine nxt (m - (i + 1)) (by omega) ⟨i + 1, rfl, by omega, rfl, h0, ?_, rfl⟩
    show Value.int .i64 (k + i + 1) = _
    congr 1; omega
  · have : i = m := by omega
    subst this
    exact retK (K := K) h1 hk
theorem C.slices_Clone_int64Zint64 {a : Value} {l : List Int} {H : Hp} {K : Value → Hp → Prop} (ha : Sl eI H a l) (hl : l.length ≤ 68719476736) (hk : ∀ v H', Own eI H' v l → Nw H v → Le H H' → K v H') :
    HT prg I.slices_Clone_int64Zint64 [a].toArray H K := by
  refine R.slices_Clone_int64Zint64 ?_
  unfold F.slices_Clone_int64Zint64
  obtain ⟨p, c, rfl, hc, hr⟩ := id ha
  show cnd (.bool p.isNone) _ _
  cases p with
  | none =>
    have : l = [] := by
      cases l with
      | nil => rfl
      | cons x r => obtain ⟨ad, h, _⟩ := hr 0 (by simp); cases h
    subst this
    exact hk _ H ⟨none, 0, rfl, by simp, fun h => absurd h (by simp)⟩ (fun b hb => by simp [bk] at hb) (Le.refl H)
  | some p => exact clone_i (b := 8) ha (fun _ => rfl) (by omega) hl (fun _ => hk)
def swp (a b : List Int) (i : Nat) : Int := if chg a b i ∨ chg b a i then at_ 0 b i else at_ 0 a i
def swL (a b : List Int) (k : Nat) : List Int := (List.range k).map (swp a b) ++ a.drop k
theorem swL_length {a b : List Int} {k : Nat} (h : k ≤ a.length) : (swL a b k).length = a.length := by simp [swL]; omega
theorem swL_set {a b : List Int} {k : Nat} (h : k < a.length) (x : Int) (hx : x = swp a b k) : (swL a b k).set (k : Int).toNat x = swL a b (k + 1) := by
  subst hx
  unfold swL
  rw [Int.toNat_natCast, List.set_append_right _ _ (by simp), List.length_map, List.length_range, Nat.sub_self, List.drop_eq_getElem_cons h, List.range_succ]
  simp only [List.set_cons_zero, List.map_append, List.map_cons, List.map_nil, List.append_assoc, List.singleton_append]
theorem swL_keep {a b : List Int} {k : Nat} (h : k < a.length) (hx : ¬ (chg a b k ∨ chg b a k)) : swL a b (k + 1) = swL a b k := by
  have : swp a b k = a[k] := by unfold swp; rw [if_neg hx, at_eq 0 a h]
  unfold swL
  rw [List.range_succ, List.drop_eq_getElem_cons h]
  simp only [List.map_append, List.map_cons, List.map_nil, List.append_assoc, List.singleton_append, this]
def okSw (l m : List Int) : Prop := isLane l ∧ isLane m ∧ l.length = m.length
instance (l m : List Int) : Decidable (okSw l m) := by unfold okSw; infer_instance
def sw1 (l m : List Int) : List Int := if okSw l m then swL l m l.length else []
def sw2 (l m : List Int) : List Int := if okSw l m then swL m l m.length else []
theorem swOneLen {l m : List Int} {n : Nat} (h : l.length ≤ n) : (sw1 l m).length ≤ n := by
  unfold sw1; split
  · rw [swL_length (Nat.le_refl _)]; exact h
  · simp
theorem swTwoLen {l m : List Int} {n : Nat} (h : m.length ≤ n) : (sw2 l m).length ≤ n := by
  unfold sw2; split
  · rw [swL_length (Nat.le_refl _)]; exact h
  · simp
theorem C.spec_SwitchLanes {a b : Value} {l m : List Int} {H : Hp} {K : Value → Hp → Prop} (ha : Sl eI H a l) (hb : Sl eI H b m) (hl : l.length ≤ 1048576) (hm : m.length ≤ 1048576)
    (hk : ∀ v1 v2 H', Own eI H' v1 (sw1 l m) → Own eI H' v2 (sw2 l m) → Nw H v1 → Nw H v2 → Apart v1 v2 → Le H H' → K (.tuple #[v1, v2, .bool (decide (okSw l m))]) H') :
    HT prg I.spec_SwitchLanes [a, b].toArray H K := by
  refine R.spec_SwitchLanes ?_
  unfold F.spec_SwitchLanes
  have hbad : ¬ okSw l m → K (.tuple #[.slice none 0 0, .slice none 0 0, .bool false]) H := by
    intro hn
    have h1 := hk (.slice none 0 0) (.slice none 0 0) H
    simp only [sw1, sw2, hn, if_false, decide_false] at h1
    exact h1 ⟨none, 0, rfl, by simp, fun h => absurd h (by simp)⟩ ⟨none, 0, rfl, by simp, fun h => absurd h (by simp)⟩ (fun b hb => by simp [bk] at hb) (fun b hb => by simp [bk] at hb) (fun b hb => by simp [bk] at hb) (Le.refl H)
  refine C.spec_l06Lane ha (by omega) ?_
  rw [vUn_not, ob_some]
  by_cases c1 : isLane l
  · simp only [c1, decide_true, Bool.not_true, gop_ff]
    refine C.spec_l06Lane hb (by omega) ?_
    by_cases c2 : isLane m
    · simp only [c2, decide_true, vUn_not, ob_some, Bool.not_true, vPick_f, gop_ff, ha.len, hb.len, vInt_neq]
      refine cnd_d (fun hne => hbad (fun h => hne (by rw [h.2.2]))) (fun heq => ?_)
      have hlm : l.length = m.length := by omega
      have hok : okSw l m := ⟨c1, c2, hlm⟩
      refine clone_i (b := 8) ha (fun _ => rfl) (by omega) (by omega) (fun _ x H1 ox nx le1 => ?_)
      refine clone_i (b := 8) (hb.le le1) (fun _ => rfl) (by omega) (by omega) (fun _ y H2 oy ny le2 => ?_)
      have axy : Apart x y := ox.apart ny
      have ny0 : Nw H y := ny.le le1
      have le02 : Le H H2 := le1.trans le2
      replace ox := ox.le le2
      refine jn_i (fun σ' H' => σ' 7 = x ∧ σ' 8 = y ∧ Own eI H' x (swL l m l.length) ∧ Own eI H' y (swL m l m.length) ∧ Le H H') (fun σ' H' hP => ?_) (fun J38 hJ38 => ?_)
      · obtain ⟨h7, h8, gx, gy, gle⟩ := hP
        have := hk x y H'
        simp only [sw1, sw2, hok, if_true, decide_true] at this
        rw [h7, h8]
        exact this gx gy nx ny0 axy gle
      refine ⟨fun n σ H3 => ∃ i : Nat, n = l.length - i ∧ i ≤ l.length ∧ σ 0 = a ∧ σ 1 = b ∧ σ 7 = x ∧ σ 8 = y ∧ σ 9 = .int .i64 i ∧ Own eI H3 x (swL l m i) ∧ Own eI H3 y (swL m l i) ∧ Le H H3,
        ⟨_, 0, rfl, by omega, rfl, rfl, rfl, rfl, rfl, by simpa [swL] using ox, by simpa [swL] using oy, le02⟩, ?_⟩
      rintro n σ H3 ⟨i, rfl, hi', h0, h1, h7, h8, h9, ox, oy, le3⟩
      simp only [h0, h1, h7, h8, h9, (ha.le le3).len, vInt_lss, ob_some]
      refine cnd_d (fun hlt => ?_) (fun hge => ?_)
      · have hlt' : i < l.length := by omega
        refine jn_i (fun σ' H' => σ' 0 = a ∧ σ' 1 = b ∧ σ' 7 = x ∧ σ' 8 = y ∧ σ' 9 = .int .i64 i ∧ Own eI H' x (swL l m (i + 1)) ∧ Own eI H' y (swL m l (i + 1)) ∧ Le H H') (fun σ' H' hP => ?_) (fun J42 hJ42 => ?_)
        · obtain ⟨g0, g1, g7, g8, g9, gx, gy, gle⟩ := hP
          rw [g9, vInt_add (by omega) (by omega), ob_some]
          exact nxt (l.length - (i + 1)) (by omega) ⟨i + 1, rfl, by omega, g0, g1, g7, g8, rfl, gx, gy, gle⟩
        refine jn_i (fun σ' H' => σ' 0 = a ∧ σ' 1 = b ∧ σ' 7 = x ∧ σ' 8 = y ∧ σ' 9 = .int .i64 i ∧ ((chg l m i ∧ Own eI H' x (swL l m (i + 1)) ∧ Own eI H' y (swL m l (i + 1))) ∨ (¬ chg l m i ∧ Own eI H' x (swL l m i) ∧ Own eI H' y (swL m l i))) ∧ Le H H') (fun σ' H' hP => ?_) (fun J44 hJ44 => ?_)
        · obtain ⟨g0, g1, g7, g8, g9, gxy, gle⟩ := hP
          simp only [g0, g1, g7, g8, g9]
          refine C.spec_l06Changes (hb.le gle) (ha.le gle) (by omega) (by omega) hlm.symm hm ?_
          refine cnd_d (fun hc2 => ?_) (fun hc2 => ?_)
          · have hl1 : at_ 0 l (i : Int) = -1 := by
              have := (c1.2 _ (at_mem 0 l (i := (i : Int)) (by omega) (by omega))).1
              have := hc2.2.2.1
              omega
            rcases gxy with ⟨hc, _⟩ | ⟨_, ox, oy⟩
            · have := hc.1; omega
            rw [oy.sl.ix (by omega) (by rw [swL_length (by omega)]; omega), ob_some]
            refine oy.st (x := (-1 : Int)) (by omega) (by rw [swL_length (by omega)]; omega) rfl rfl (fun H4 oy4 off4 => ?_)
            have le4 := off4.le gle ny0
            have ox4 := ox.off off4 axy
            rw [swL_set (by omega) _ (by unfold swp; rw [if_pos (.inl hc2), hl1])] at oy4
            rw [(hb.le le4).ix (by omega) (by omega), ob_some, (hb.le le4).ld 0 (by omega) (by omega), ob_some, ox4.sl.ix (by omega) (by rw [swL_length hi']; omega), ob_some]
            refine ox4.st (x := at_ 0 m (i : Int)) (by omega) (by rw [swL_length hi']; omega) rfl rfl (fun H5 ox5 off5 => ?_)
            have le5 := off5.le le4 nx
            have oy5 := oy4.off off5 axy.symm
            rw [swL_set hlt' _ (by unfold swp; rw [if_pos (.inr hc2)])] at ox5
            exact hJ42 _ _ ⟨g0, g1, g7, g8, g9, ox5, oy5, le5⟩
          · rcases gxy with ⟨hc, ox, oy⟩ | ⟨hc, ox, oy⟩
            · exact hJ42 _ _ ⟨g0, g1, g7, g8, g9, ox, oy, gle⟩
            · refine hJ42 _ _ ⟨g0, g1, g7, g8, g9, ?_, ?_, gle⟩
              · rw [swL_keep hlt' (fun h => h.elim hc hc2)]; exact ox
              · rw [swL_keep (by omega) (fun h => h.elim hc2 hc)]; exact oy
        refine C.spec_l06Changes (ha.le le3) (hb.le le3) (by omega) hlt hlm hl ?_
        refine cnd_d (fun hc => ?_) (fun hc => ?_)
        · have hm1 : at_ 0 m (i : Int) = -1 := by
            have := (c2.2 _ (at_mem 0 m (i := (i : Int)) (by omega) (by omega))).1
            have := hc.2.2.1
            omega
          rw [ox.sl.ix (by omega) (by rw [swL_length hi']; omega), ob_some]
          refine ox.st (x := (-1 : Int)) (by omega) (by rw [swL_length hi']; omega) rfl rfl (fun H4 ox4 off4 => ?_)
          have le4 := off4.le le3 nx
          have oy4 := oy.off off4 axy.symm
          rw [swL_set hlt' _ (by unfold swp; rw [if_pos (.inl hc), hm1])] at ox4
          rw [(ha.le le4).ix (by omega) hlt, ob_some, (ha.le le4).ld 0 (by omega) hlt, ob_some, oy4.sl.ix (by omega) (by rw [swL_length (by omega)]; omega), ob_some]
          refine oy4.st (x := at_ 0 l (i : Int)) (by omega) (by rw [swL_length (by omega)]; omega) rfl rfl (fun H5 oy5 off5 => ?_)
          have le5 := off5.le le4 ny0
          have ox5 := ox4.off off5 axy
          rw [swL_set (by omega) _ (by unfold swp; rw [if_pos (.inr hc)])] at oy5
          exact hJ44 _ _ ⟨h0, h1, h7, h8, h9, .inl ⟨hc, ox5, oy5⟩, le5⟩
        · exact hJ44 _ _ ⟨h0, h1, h7, h8, h9, .inr ⟨hc, ox, oy⟩, le3⟩
      · have : i = l.length := by omega
        subst this
        exact hJ38 _ _ ⟨h7, h8, ox, by rw [← hlm]; exact oy, le3⟩
    · simp only [c2, decide_false, vUn_not, ob_some, Bool.not_false, vPick_f, vPick_t, gop_tf, cnd_t]
      exact hbad (fun h => c2 h.2.1)
  · simp only [c1, decide_false, ob_some, Bool.not_false, vPick_t, gop_tf, cnd_t]
    exact hbad (fun h => c1 h.1)
theorem st_new {x y : Value} {e : TypeId} {H : Hp} {r : Nat} {K : Hp → Prop} (ho : oneCell y = true) (hz : y.cells = #[y])
    (hk : ∀ H', (∀ b, b ≠ r → H' b = H b) → vLoad (.pointer (some ⟨r, 0, none⟩)) H' = some y → (∃ o, H' r = some o) → K H') : st 1 (.pointer (some ⟨r, 0, none⟩)) y (H.put r (.cells #[x] e)) K := by
  simp only [HL.st, hz, List.toList_toArray, List.size_toArray, List.length_singleton, true_and, stC, add_none, Nat.add_zero]
  refine ⟨ho, by simp [Hp.cell?, Hp.put_same], by simp [Hp.frozen?, Hp.put_same], ?_⟩
  have e1 : (H.put r (.cells #[x] e)).setCell ⟨r, 0, none⟩ y = H.put r (.cells #[y] e) := by
    unfold Hp.setCell
    simp only [Hp.put_same, Hp.put_put]
    rfl
  rw [e1]
  refine hk _ (fun b hb => Hp.put_ne _ _ hb) ?_ ⟨_, Hp.put_same _ _ _⟩
  simp [vLoad, Hp.cell?, Hp.put_same]
theorem vLoad_le {p v : Value} {H H' : Hp} (h : vLoad p H = some v) (hl : Le H H') : vLoad p H' = some v := by
  cases p <;> simp only [vLoad] at h ⊢ <;> try (simp at h; done)
  rename_i a
  cases a <;> simp only at h ⊢ <;> try (simp at h; done)
  exact hl.cell h
/-- All but two slices' blocks stay: so a cell elsewhere does. -/
theorem vLoad_off {r : Nat} {v x : Value} {H H' : Hp} (h : vLoad (.pointer (some ⟨r, 0, none⟩)) H = some v) (ho : Off x H H') (hx : bk x ≠ some r) : vLoad (.pointer (some ⟨r, 0, none⟩)) H' = some v := by
  simp only [vLoad, Hp.cell?] at h ⊢
  cases hr : H r with
  | none => simp [hr] at h
  | some o => rw [ho r o hr hx]; rw [hr] at h; exact h
theorem C.impl_SwitchLanes {a b : Value} {l m : List Int} {H : Hp} {K : Value → Hp → Prop} (ha : Sl eI H a l) (hb : Sl eI H b m) (hl : l.length ≤ 1048576) (hm : m.length ≤ 1048576)
    (hk : ∀ v1 v2 H', Own eI H' v1 (sw1 l m) → Own eI H' v2 (sw2 l m) → Nw H v1 → Nw H v2 → Apart v1 v2 → Le H H' → K (.tuple #[v1, v2, .bool (decide (okSw l m))]) H') :
    HT prg I.impl_SwitchLanes [a, b].toArray H K := by
  refine R.impl_SwitchLanes ?_
  unfold F.impl_SwitchLanes
  have hbad : ¬ okSw l m → K (.tuple #[.slice none 0 0, .slice none 0 0, .bool false]) H := by
    intro hn
    have h1 := hk (.slice none 0 0) (.slice none 0 0) H
    simp only [sw1, sw2, hn, if_false, decide_false] at h1
    exact h1 ⟨none, 0, rfl, by simp, fun h => absurd h (by simp)⟩ ⟨none, 0, rfl, by simp, fun h => absurd h (by simp)⟩ (fun b hb => by simp [bk] at hb) (fun b hb => by simp [bk] at hb) (fun b hb => by simp [bk] at hb) (Le.refl H)
  refine C.impl_IsLane ha (by omega) ?_
  rw [vUn_not, ob_some]
  by_cases c1 : isLane l
  · simp only [c1, decide_true, Bool.not_true, gop_ff]
    refine C.impl_IsLane hb (by omega) ?_
    by_cases c2 : isLane m
    · simp only [c2, decide_true, vUn_not, ob_some, Bool.not_true, vPick_f, gop_ff, ha.len, hb.len, vInt_neq]
      refine cnd_d (fun hne => hbad (fun h => hne (by rw [h.2.2]))) (fun heq => ?_)
      have hlm : l.length = m.length := by omega
      have hok : okSw l m := ⟨c1, c2, hlm⟩
      intro r hr
      refine st_new rfl rfl (fun H0 hoff hp hex => ?_)
      have le0 : Le H H0 := fun b o hb => by
        have : b ≠ r := by rintro rfl; rw [hr] at hb; simp at hb
        rw [hoff b this]; exact hb
      refine C.slices_Clone_int64Zint64 (ha.le le0) (by omega) (fun x H1 ox nx le1 => ?_)
      refine C.slices_Clone_int64Zint64 (hb.le (le0.trans le1)) (by omega) (fun y H2 oy ny le2 => ?_)
      have axy : Apart x y := ox.apart ny
      have ny0 : Nw H y := ny.le (le0.trans le1)
      have nx0 : Nw H x := nx.le le0
      have le02 : Le H H2 := (le0.trans le1).trans le2
      have xr : bk x ≠ some r := fun h => by obtain ⟨o, ho⟩ := hex; rw [nx r h] at ho; simp at ho
      have yr : bk y ≠ some r := fun h => by obtain ⟨o, ho⟩ := hex; have := ny r h; rw [le1 r o ho] at this; simp at this
      replace ox := ox.le le2
      replace hp := vLoad_le hp (le1.trans le2)
      refine jn_i (fun σ' H' => σ' 9 = x ∧ σ' 10 = y ∧ Own eI H' x (swL l m l.length) ∧ Own eI H' y (swL m l m.length) ∧ Le H H') (fun σ' H' hP => ?_) (fun J38 hJ38 => ?_)
      · obtain ⟨h7, h8, gx, gy, gle⟩ := hP
        have := hk x y H'
        simp only [sw1, sw2, hok, if_true, decide_true] at this
        rw [h7, h8]
        exact this gx gy nx0 ny0 axy gle
      rw [hp, ob_some]
      refine ⟨fun n σ H3 => ∃ i : Nat, n = l.length - i ∧ i ≤ l.length ∧ σ 0 = a ∧ σ 1 = b ∧ σ 9 = x ∧ σ 10 = y ∧ σ 8 = .func (.func I.impl_SwitchLanes_1) #[] #[.pointer (some ⟨r, 0, none⟩)] ∧ σ 34 = .int .i64 l.length ∧ σ 35 = .int .i64 i ∧
          Own eI H3 x (swL l m i) ∧ Own eI H3 y (swL m l i) ∧ Le H H3 ∧ vLoad (.pointer (some ⟨r, 0, none⟩)) H3 = some (.int .i64 l.length),
        ⟨_, 0, rfl, by omega, rfl, rfl, rfl, rfl, rfl, rfl, rfl, by simpa [swL] using ox, by simpa [swL] using oy, le02, hp⟩, ?_⟩
      rintro n σ H3 ⟨i, rfl, hi', h0, h1, h9, h10, h8, h34, h35, ox, oy, le3, hp⟩
      simp only [h0, h1, h8, h9, h10, h34, h35, vInt_lss, ob_some]
      refine cnd_d (fun hlt => ?_) (fun hge => ?_)
      · have hlt' : i < l.length := by omega
        refine jn_i (fun σ' H' => σ' 0 = a ∧ σ' 1 = b ∧ σ' 9 = x ∧ σ' 10 = y ∧ σ' 8 = .func (.func I.impl_SwitchLanes_1) #[] #[.pointer (some ⟨r, 0, none⟩)] ∧ σ' 34 = .int .i64 l.length ∧ σ' 35 = .int .i64 i ∧
            Own eI H' x (swL l m (i + 1)) ∧ Own eI H' y (swL m l (i + 1)) ∧ Le H H' ∧ vLoad (.pointer (some ⟨r, 0, none⟩)) H' = some (.int .i64 l.length)) (fun σ' H' hP => ?_) (fun J42 hJ42 => ?_)
        · obtain ⟨g0, g1, g9, g10, g8, g34, g35, gx, gy, gle, gp⟩ := hP
          rw [g35, vInt_add (by omega) (by omega), ob_some]
          exact nxt (l.length - (i + 1)) (by omega) ⟨i + 1, rfl, by omega, g0, g1, g9, g10, g8, g34, rfl, gx, gy, gle, gp⟩
        refine ⟨by kernel_rfl, ?_⟩
        refine C.impl_SwitchLanes_1 (ha.le le3) (hb.le le3) (by omega) hlt hlm hl hp ?_
        have wr : (chg l m i ∨ chg m l i) → ∀ Z : Value → Value → Value → Value → Value → Value → Hp → Prop, (∀ z1 z2 z3 z4 z5 z6 H5, Own eI H5 x (swL l m (i + 1)) → Own eI H5 y (swL m l (i + 1)) → Le H H5 → vLoad (.pointer (some ⟨r, 0, none⟩)) H5 = some (.int .i64 l.length) → Z z1 z2 z3 z4 z5 z6 H5) →
            (ob (vIx 1 b (.int .i64 i)) fun v56 => ob (vLoad v56 H3) fun v57 => ob (vIx 1 a (.int .i64 i)) fun v60 => ob (vLoad v60 H3) fun v61 => ob (vIx 1 x (.int .i64 i)) fun v62 => st 1 v62 v57 H3 fun H4 =>
            ob (vIx 1 y (.int .i64 i)) fun v63 => st 1 v63 v61 H4 fun H5 => Z v56 v57 v60 v61 v62 v63 H5) := by
          intro hc Z hZ
          have hc' : chg m l i ∨ chg l m i := hc.symm
          rw [(hb.le le3).ix (by omega) (by omega), ob_some, (hb.le le3).ld 0 (by omega) (by omega), ob_some, (ha.le le3).ix (by omega) hlt, ob_some, (ha.le le3).ld 0 (by omega) hlt, ob_some, ox.sl.ix (by omega) (by rw [swL_length hi']; omega), ob_some]
          refine ox.st (x := at_ 0 m (i : Int)) (by omega) (by rw [swL_length hi']; omega) rfl rfl (fun H4 ox4 off4 => ?_)
          have oy4 := oy.off off4 axy.symm
          rw [swL_set hlt' _ (by unfold swp; rw [if_pos hc])] at ox4
          rw [oy4.sl.ix (by omega) (by rw [swL_length (by omega)]; omega), ob_some]
          refine oy4.st (x := at_ 0 l (i : Int)) (by omega) (by rw [swL_length (by omega)]; omega) rfl rfl (fun H5 oy5 off5 => ?_)
          rw [swL_set (by omega) _ (by unfold swp; rw [if_pos hc'])] at oy5
          exact hZ _ _ _ _ _ _ H5 (ox4.off off5 axy) oy5 (off5.le (off4.le le3 nx0) ny0) (vLoad_off (vLoad_off hp off4 xr) off5 yr)
        by_cases hc : chg l m i
        · simp only [hc, decide_true, gop_tf, vPick_t, ob_some, cnd_t]
          refine wr (.inl hc) _ ?_
          intro _ _ _ _ _ _ H5 gx gy gle gp
          exact hJ42 _ _ ⟨h0, h1, h9, h10, h8, h34, h35, gx, gy, gle, gp⟩
        · simp only [hc, decide_false, gop_ff, vPick_f, ob_some]
          refine ⟨by kernel_rfl, ?_⟩
          refine C.impl_SwitchLanes_1 (hb.le le3) (ha.le le3) (by omega) (by omega) hlm.symm hm (by rw [← hlm]; exact hp) ?_
          refine cnd_d (fun hc2 => ?_) (fun hc2 => ?_)
          · refine wr (.inr hc2) _ ?_
            intro _ _ _ _ _ _ H5 gx gy gle gp
            exact hJ42 _ _ ⟨h0, h1, h9, h10, h8, h34, h35, gx, gy, gle, gp⟩
          · refine hJ42 _ _ ⟨h0, h1, h9, h10, h8, h34, h35, ?_, ?_, le3, hp⟩
            · rw [swL_keep hlt' (fun h => h.elim hc hc2)]; exact ox
            · rw [swL_keep (by omega) (fun h => h.elim hc2 hc)]; exact oy
      · have : i = l.length := by omega
        subst this
        exact hJ38 _ _ ⟨h9, h10, ox, by rw [← hlm]; exact oy, le3⟩
    · simp only [c2, decide_false, vUn_not, ob_some, Bool.not_false, vPick_f, vPick_t, gop_tf, cnd_t]
      exact hbad (fun h => c2 h.2.1)
  · simp only [c1, decide_false, ob_some, Bool.not_false, vPick_t, gop_tf, cnd_t]
    exact hbad (fun h => c1 h.1)
end Go.Proofs.Ytdfoobomlabffaa
