/- The law of rules that add. -/
import Derived.Test.YtelcmohhjkgjoaaRU
import Derived.Test.YtelcmohhjkgjoaaRF
import Derived.Test.YtelcmohhjkgjoaaZA
import Derived.Test.YtelcmohhjkgjoaaKT
namespace Go.Proofs.Ytelcmohhjkgjoaa
open HL
set_option maxRecDepth 100000
theorem snoc_all {l : List Int} {x : Int} {p : Int → Prop} (h : ∀ y ∈ l, p y) (hx : p x) : ∀ y ∈ l ++ [x], p y := fun y hy => by
  rcases List.mem_append.mp hy with hy | hy
  · exact h y hy
  · simp only [List.mem_singleton] at hy; subst hy; exact hx
theorem key_set {l : List Int} {i : Nat} (h : i < l.length) : (l.take i ++ List.replicate (l.length - i) (0 : Int)).set (i : Int).toNat (at_ 0 l (i : Int)) = l.take (i + 1) ++ List.replicate (l.length - (i + 1)) 0 := by
  rw [Int.toNat_natCast, List.set_append_right _ _ (by rw [List.length_take]; omega), take_at 0 l h, List.append_assoc]
  congr 1
  rw [show i - (l.take i).length = 0 by simp; omega, show l.length - i = (l.length - (i + 1)) + 1 by omega, List.replicate_succ]; rfl
/-- What becomes of the impulse. -/
def sqG (st rc : Int) (T : List Int) (n : Int) : Nat → List Int := itL st rc T (impL n.toNat)
theorem sqG_ring {st rc n : Int} {T : List Int} (h : ruleP st rc T) (n0 : 1 ≤ n) (n1 : n ≤ 64) (k : Nat) : ringP st (sqG st rc T n k) := itL_ring h ⟨impL_in (by have := h.1; omega) _, by rw [impL_len]; omega, by rw [impL_len]; omega⟩ k
theorem sqG_len {st rc n : Int} {T : List Int} (k : Nat) : (sqG st rc T n k).length = n.toNat := by unfold sqG; rw [itL_len, impL_len]
theorem sqG_byte {st rc n : Int} {T : List Int} (h : ruleP st rc T) (n0 : 1 ≤ n) (n1 : n ≤ 64) : ∀ k, ∀ x ∈ sqG st rc T n k, 0 ≤ x ∧ x ≤ 255 := fun k x hx => by
  have := (sqG_ring h n0 n1 k).1 x hx
  have := h.1
  omega
theorem turn_eq {st rc n : Int} {T : List Int} (h : ruleP st rc T) (ha : addP st rc T) (n0 : 1 ≤ n) (n1 : n ≤ 64) (k : Nat) : prL st (sqG st rc T n k) (onF st rc (tmL st rc T) n.toNat (2 * rc + 1).toNat) = sqG st rc T n (k + 1) := by
  have e := prL_it h ha (sqG_ring h n0 n1 k) 1
  rw [sqG_len] at e
  rw [← on_imp h ha (by omega)]
  exact e
theorem dup_snoc {G : Nat → List Int} {i : Nat} (hd : ∀ j, j < i → ¬ dupP G j) (h : ∀ j, j < i → G j ≠ G i) : ∀ j, j < i + 1 → ¬ dupP G j := fun j hj => by
  by_cases e : j = i
  · subst e; exact dup_no h
  · exact hd j (by omega)
theorem brent_prev {s : Nat → List Int} {a p : Nat} (hp : (p : Int) = (a : Int) + 1) (hm : ∀ q, 1 ≤ q → q < p → s (a + q) ≠ s a) (hne : ¬ s a = s (a + p)) : 0 < a + p → ∀ q, 1 ≤ q → q ≤ (a + p + 1) / 2 → s ((a + p - 1) / 2 + q) ≠ s ((a + p - 1) / 2) := fun _ q h1 h2 => by
  have e : (a + p - 1) / 2 = a := by omega
  rw [e]
  by_cases c : q = p
  · subst c; exact fun g => hne g.symm
  · exact hm q h1 (by omega)
theorem brent_more {s : Nat → List Int} {a p : Nat} (hm : ∀ q, 1 ≤ q → q < p → s (a + q) ≠ s a) (hne : ¬ s a = s (a + p)) : ∀ q, 1 ≤ q → q < p + 1 → s (a + q) ≠ s a := fun q h1 h2 => by
  by_cases c : q = p
  · subst c; exact fun g => hne g.symm
  · exact hm q h1 (by omega)
theorem same_eq {l m : List Int} (h : l.length = m.length) (ha : ∀ j : Nat, j < l.length → at_ 0 l (j : Int) = at_ 0 m (j : Int)) : l = m := by
  apply List.ext_getElem h
  intro j h1 h2
  have := ha j h1
  rw [at_eq 0 l h1, at_eq 0 m h2] at this
  exact this
theorem same_snoc {l m : List Int} {i : Nat} (ha : ∀ j : Nat, j < i → at_ 0 l (j : Int) = at_ 0 m (j : Int)) (h : at_ 0 l (i : Int) = at_ 0 m (i : Int)) : ∀ j : Nat, j < i + 1 → at_ 0 l (j : Int) = at_ 0 m (j : Int) := fun j hj => by
  by_cases e : j = i
  · subst e; exact h
  · exact ha j (by omega)
/-- Where what comes again is first, and how long it takes. -/
def beL (G : Nat → List Int) (n : Nat) : Int := (fsI G (ftK G n) : Int)
def perL (G : Nat → List Int) (n : Nat) : Int := (ftK G n : Int) - (fsI G (ftK G n) : Int)
theorem per_nums {G : Nat → List Int} {n : Nat} (h : perP G n) : 0 ≤ beL G n ∧ 1 ≤ perL G n ∧ beL G n + perL G n ≤ n ∧ G (beL G n).toNat = G ((beL G n).toNat + (perL G n).toNat) := by
  obtain ⟨h1, h2, h3⟩ := per_facts h
  unfold beL perL
  refine ⟨by omega, by omega, by omega, ?_⟩
  rw [show ((fsI G (ftK G n) : Int)).toNat + ((ftK G n : Int) - (fsI G (ftK G n) : Int)).toNat = ftK G n by omega, Int.toNat_natCast]
  exact h2
theorem tm_wg {st rc : Int} {w : List Int} (hs : st = 2 ∨ st = 3) (hr : 0 ≤ rc ∧ rc ≤ 2) (hl : (w.length : Int) = 2 * rc + 1) (hw : ∀ x ∈ w, 0 ≤ x ∧ x ≤ st - 1) : tmL st rc (wgL st w) = w := by
  have hR := wg_rule hs hr hl
  apply List.ext_getElem
  · unfold tmL; rw [tmF_len]; omega
  · intro j h1 h2
    have hj : j < w.length := h2
    simp only [tmL, tmF, List.getElem_map, List.getElem_range]
    have hp := pwr_lt hR (j := 2 * rc - (j : Int)) (by omega) (by omega)
    have ep : pwr st (2 * rc - (j : Int)) = st ^ (w.length - 1 - j) := by unfold pwr; rw [show (2 * rc - (j : Int)).toNat = w.length - 1 - j by omega]
    obtain ⟨m, hm⟩ := Int.eq_ofNat_of_zero_le hp.1
    have hwl := wgL_len (w := w) (show 1 ≤ st by omega)
    rw [hm, wgL_at (by omega), ← hm, ep, dig_pow (by omega) hj]
    unfold wgS
    rw [sumZ_one (j := j) hj (fun i hi hn => by
      rw [at_eq 0 ((List.range w.length).map _) (by simpa using hi)]
      simp [hn])]
    rw [at_eq 0 ((List.range w.length).map _) (by simpa using hj), at_eq 0 w hj]
    simp only [List.getElem_map, List.getElem_range, if_true, Int.mul_one]
    have := hw _ (List.getElem_mem hj)
    exact Int.emod_eq_of_lt this.1 (by omega)
theorem rule_set {st rc : Int} {T : List Int} (h : ruleP st rc T) : ruleP st rc (T.set (0 : Int).toNat 1) :=
  ⟨h.1, h.2.1, by rw [List.length_set]; exact h.2.2.1, fun x hx => by
    rcases List.mem_or_eq_of_mem_set hx with g | g
    · exact h.2.2.2 x g
    · have := h.1; omega⟩
theorem not_add_set {st rc : Int} {T : List Int} (h : ruleP st rc T) : ¬ addP st rc (T.set (0 : Int).toNat 1) := fun ha => by
  have hl := ruleP_len h
  have e0 : at_ 0 (T.set (0 : Int).toNat 1) ((0 : Nat) : Int) = 1 := by
    rw [at_eq 0 _ (by rw [List.length_set]; omega)]
    simp
  have hp : (0 : Nat) < (pwr st (tmL st rc (T.set (0 : Int).toNat 1)).length).toNat := by
    have : 0 < pwr st (tmL st rc (T.set (0 : Int).toNat 1)).length := Int.pow_pos (by have := h.1; omega)
    omega
  unfold addP at ha
  rw [ha, wgL_at hp] at e0
  have z : wgS (tmL st rc (T.set (0 : Int).toNat 1)) (digL ((0 : Nat) : Int) st (tmL st rc (T.set (0 : Int).toNat 1)).length) = 0 := by
    unfold wgS
    refine sumZ_zero (fun i hi => ?_)
    rw [at_eq 0 (digL _ _ _) (by rw [digL_len]; exact hi)]
    simp [digL]
  rw [z] at e0
  simp at e0
theorem far_again {st rc n : Int} {T l : List Int} {k : Nat} (h : ruleP st rc T) (ha : addP st rc T) (hl : ringP st l) (hn : (l.length : Int) = n) (hp : perP (sqG st rc T n) k) : itL st rc T l (beL (sqG st rc T n) k + 1000000 * perL (sqG st rc T n) k).toNat = itL st rc T l (beL (sqG st rc T n) k).toNat := by
  obtain ⟨h1, h2, h3, h4⟩ := per_nums hp
  have e : (beL (sqG st rc T n) k + 1000000 * perL (sqG st rc T n) k).toNat = (beL (sqG st rc T n) k).toNat + 1000000 * (perL (sqG st rc T n) k).toNat := by omega
  rw [e]
  refine it_per h ha hl ?_ 1000000
  have : l.length = n.toNat := by omega
  rw [this]
  exact h4
theorem near_snoc {s : Nat → List Int} {f p : Nat} (h : ∀ g, g < f → s (g + p) ≠ s g) (hne : ¬ s f = s (f + p)) : ∀ g, g < f + 1 → s (g + p) ≠ s g := fun g hg => by
  by_cases e : g = f
  · subst e; exact fun q => hne q.symm
  · exact h g (by omega)
theorem C.impl_keyOf {va : Value} {l : List Int}  {H : Hp} {K : Value → Hp → Prop} (hva0 : Sl eI H va l) (hb : ∀ x ∈ l, 0 ≤ x ∧ x ≤ 255) (k2 : l.length ≤ 1000)
    (hk : ∀ H', Le H H' → K (.string (bytesS .empty (l))) H') : HT prg I.impl_keyOf [va].toArray H K := by
  have lE := Le.refl H
  have hva := hva0
  refine R.impl_keyOf ?_
  unfold F.impl_keyOf
  refine ob_i (hva.len) ?_
  refine Own.mk_ (z := (0 : Int)) (by omega) (by omega) (by omega) (by omega) (fun u H1 ou nn2 le3 => ?_)
  have nu : Nw H u := nn2.le lE
  replace hva := hva.le le3
  replace lE := lE.trans le3
  refine jn_i (fun σ' H' => σ' 3 = u ∧ Own eU H' u (l) ∧ Le H H') (fun σ4 H4 hP => ?_) (fun J4 hJ4 => ?_)
  · skip
    obtain ⟨g3L4, ou, lE⟩ := hP
    have hva := hva0.le lE
    try simp only [g3L4]
    refine ob_i (val_convBS (by kernel_rfl) ou.sl) ?_
    skip
    exact hk   _    lE
  refine ob_i (hva.len) ?_
  refine ⟨fun n' σ' H' => ∃ i : Nat, n' = l.length - i ∧ i ≤ l.length ∧ σ' 3 = u ∧ σ' 9 = va ∧ σ' 10 = (.int .i64 (((l).length : Int))) ∧ σ' 11 = (.int .i64 ((i : Int))) ∧ Own eU H' u (l.take i ++ List.replicate (l.length - i) 0) ∧ Le H H',
    ⟨_, 0, rfl, by omega, rfl, rfl, rfl, (congrArg (Value.int .i64) (by first | omega | rfl | (simp; done))), (Own.cast (by simp) ou), lE⟩, ?_⟩
  rintro n5 σ5 H5 ⟨i, rfl, hiN, g3L5, g9L5, g10L5, g11L5, ou, lE⟩
  have hva := hva0.le lE
  try simp only [g3L5, g9L5, g10L5, g11L5]
  have ll : (l.take i ++ List.replicate (l.length - i) (0 : Int)).length = l.length := by simp; omega
  refine ob_i (vInt_lss _ _ _) ?_
  refine cnd_d (fun hg6 => ?_) (fun hg6 => ?_)
  · skip
    have ti := hg6
    have bb := hb _ (at_mem 0 l (i := (i : Int)) (by omega) (by omega))
    refine ob_i (hva.ix (by omega) (by omega)) ?_
    refine ob_i (hva.ld 0 (by omega) (by omega)) ?_
    refine ob_i (vCI_u8 (by omega) (by omega)) ?_
    refine ob_i (ou.sl.ix (by omega) (by omega)) ?_
    refine ou.st (x := at_ 0 (l) ((i : Int))) (by omega) (by omega) rfl rfl (fun H7 ou off8 => ?_)
    replace hva := hva0.le (off8.le lE nu)
    replace lE := off8.le lE nu
    refine ob_i (vInt_add (by omega) (by omega)) ?_
    exact nxt (l.length - (i + 1)) (by omega) ⟨i + 1, rfl, by omega, g3L5, g9L5, g10L5, (congrArg (Value.int .i64) (by first | omega | rfl | (simp; done))), (Own.cast (key_set (by omega)) ou), lE⟩
  · skip
    have ti := hg6
    rw [show i = l.length by omega, Nat.sub_self, List.take_length, List.replicate_zero, List.append_nil] at ou
    exact hJ4 _ _ ⟨g3L5, ou, lE⟩
theorem C.spec_l00Same {va vb : Value} {l : List Int} {m : List Int}  {H : Hp} {K : Value → Hp → Prop} (hva0 : Sl eI H va l) (hvb0 : Sl eI H vb m) (k1 : l.length ≤ 9223372036854775807)
    (hk : ∀ H', Le H H' → K (.bool (decide (l = m))) H') : HT prg I.spec_l00Same [va, vb].toArray H K := by
  have lE := Le.refl H
  have hva := hva0
  have hvb := hvb0
  refine R.spec_l00Same ?_
  unfold F.spec_l00Same
  refine ob_i (hva.len) ?_
  refine ob_i (hvb.len) ?_
  refine ob_i (vInt_neq _ _ _) ?_
  refine cnd_d (fun hg1 => ?_) (fun hg1 => ?_)
  · skip
    skip
    exact keq (K := K) (by rw [decide_eq_false (show ¬ (l = m) from by intro h; subst h; omega)]) (hk   _    lE)
  · skip
    refine jn_i (fun σ' H' => Le H H' ∧ (∀ j : Nat, j < l.length → at_ 0 l (j : Int) = at_ 0 m (j : Int))) (fun σ2 H2 hP => ?_) (fun J2 hJ2 => ?_)
    · skip
      obtain ⟨lE, ho0⟩ := hP
      have hva := hva0.le lE
      have hvb := hvb0.le lE
      skip
      exact keq (K := K) (by rw [decide_eq_true (show (l = m) from by exact same_eq (by omega) ho0)]) (hk   _    lE)
    refine ⟨fun n' σ' H' => ∃ i : Nat, n' = l.length - i ∧ i ≤ l.length ∧ σ' 0 = va ∧ σ' 1 = vb ∧ σ' 5 = (.int .i64 ((i : Int))) ∧ Le H H' ∧ (∀ j : Nat, j < i → at_ 0 l (j : Int) = at_ 0 m (j : Int)),
      ⟨_, 0, rfl, by omega, rfl, rfl, (congrArg (Value.int .i64) (by first | omega | rfl | (simp; done))), lE, (fun j hj => by omega)⟩, ?_⟩
    rintro n3 σ3 H3 ⟨i, rfl, hiN, g0L3, g1L3, g5L3, lE, hm0⟩
    have hva := hva0.le lE
    have hvb := hvb0.le lE
    try simp only [g0L3, g1L3, g5L3]
    refine ob_i (hva.len) ?_
    refine ob_i (vInt_lss _ _ _) ?_
    refine cnd_d (fun hg4 => ?_) (fun hg4 => ?_)
    · skip
      have ti := hg4
      refine ob_i (hva.ix (by omega) (by omega)) ?_
      refine ob_i (hva.ld 0 (by omega) (by omega)) ?_
      refine ob_i (hvb.ix (by omega) (by omega)) ?_
      refine ob_i (hvb.ld 0 (by omega) (by omega)) ?_
      refine ob_i (vInt_neq _ _ _) ?_
      refine cnd_d (fun hg5 => ?_) (fun hg5 => ?_)
      · skip
        refine retK (K := K) (v' := (.bool false)) rfl ?_
        skip
        exact keq (K := K) (by rw [decide_eq_false (show ¬ (l = m) from by intro h; subst h; omega)]) (hk   _    lE)
      · skip
        refine ob_i (vInt_add (by omega) (by omega)) ?_
        exact nxt (l.length - (i + 1)) (by omega) ⟨i + 1, rfl, by omega, g0L3, g1L3, (congrArg (Value.int .i64) (by first | omega | rfl | (simp; done))), lE, (same_snoc hm0 (Decidable.not_not.mp hg5))⟩
    · skip
      have ti := hg4
      exact hJ2 _ _ ⟨lE, (by rw [show l.length = i by omega]; exact hm0)⟩
theorem C.laws_b10Ints {va vb : Value} {l : List Int} {m : List Int}  {H : Hp} {K : Value → Hp → Prop} (hva0 : Sl eI H va l) (hvb0 : Sl eI H vb m) (k1 : l.length ≤ 9223372036854775807)
    (hk : ∀ H', Le H H' → K (.bool (decide (l = m))) H') : HT prg I.laws_b10Ints [va, vb].toArray H K := by
  have lE := Le.refl H
  have hva := hva0
  have hvb := hvb0
  refine R.laws_b10Ints ?_
  unfold F.laws_b10Ints
  refine ob_i (hva.len) ?_
  refine ob_i (hvb.len) ?_
  refine ob_i (vInt_neq _ _ _) ?_
  refine cnd_d (fun hg1 => ?_) (fun hg1 => ?_)
  · skip
    skip
    exact keq (K := K) (by rw [decide_eq_false (show ¬ (l = m) from by intro h; subst h; omega)]) (hk   _    lE)
  · skip
    refine jn_i (fun σ' H' => Le H H' ∧ (∀ j : Nat, j < l.length → at_ 0 l (j : Int) = at_ 0 m (j : Int))) (fun σ2 H2 hP => ?_) (fun J2 hJ2 => ?_)
    · skip
      obtain ⟨lE, ho0⟩ := hP
      have hva := hva0.le lE
      have hvb := hvb0.le lE
      skip
      exact keq (K := K) (by rw [decide_eq_true (show (l = m) from by exact same_eq (by omega) ho0)]) (hk   _    lE)
    refine ob_i (hva.len) ?_
    refine ⟨fun n' σ' H' => ∃ i : Nat, n' = l.length - i ∧ i ≤ l.length ∧ σ' 0 = va ∧ σ' 1 = vb ∧ σ' 12 = (.int .i64 (((l).length : Int))) ∧ σ' 13 = (.int .i64 ((i : Int))) ∧ Le H H' ∧ (∀ j : Nat, j < i → at_ 0 l (j : Int) = at_ 0 m (j : Int)),
      ⟨_, 0, rfl, by omega, rfl, rfl, rfl, (congrArg (Value.int .i64) (by first | omega | rfl | (simp; done))), lE, (fun j hj => by omega)⟩, ?_⟩
    rintro n3 σ3 H3 ⟨i, rfl, hiN, g0L3, g1L3, g12L3, g13L3, lE, hm0⟩
    have hva := hva0.le lE
    have hvb := hvb0.le lE
    try simp only [g0L3, g1L3, g12L3, g13L3]
    refine ob_i (vInt_lss _ _ _) ?_
    refine cnd_d (fun hg4 => ?_) (fun hg4 => ?_)
    · skip
      have ti := hg4
      refine ob_i (hva.ix (by omega) (by omega)) ?_
      refine ob_i (hva.ld 0 (by omega) (by omega)) ?_
      refine ob_i (hvb.ix (by omega) (by omega)) ?_
      refine ob_i (hvb.ld 0 (by omega) (by omega)) ?_
      refine ob_i (vInt_neq _ _ _) ?_
      refine cnd_d (fun hg5 => ?_) (fun hg5 => ?_)
      · skip
        refine retK (K := K) (v' := (.bool false)) rfl ?_
        skip
        exact keq (K := K) (by rw [decide_eq_false (show ¬ (l = m) from by intro h; subst h; omega)]) (hk   _    lE)
      · skip
        refine ob_i (vInt_add (by omega) (by omega)) ?_
        exact nxt (l.length - (i + 1)) (by omega) ⟨i + 1, rfl, by omega, g0L3, g1L3, g12L3, (congrArg (Value.int .i64) (by first | omega | rfl | (simp; done))), lE, (same_snoc hm0 (Decidable.not_not.mp hg5))⟩
    · skip
      have ti := hg4
      exact hJ2 _ _ ⟨lE, (by rw [show l.length = i by omega]; exact hm0)⟩
theorem C.impl_IsAdding {vt : Value} {st rc : Int} {T : List Int}  {H : Hp} {K : Value → Hp → Prop} (hvt0 : Sl eI H vt T) (hr : ruleP st rc T)
    (hk : ∀ H', Le H H' → K (.tuple #[(.bool (decide (addP st rc T))), (.bool true)]) H') : HT prg I.impl_IsAdding [(.agg #[(.int .i64 (st)), (.int .i64 (rc)), vt])].toArray H K := by
  have lE := Le.refl H
  have hvt := hvt0
  refine R.impl_IsAdding ?_
  unfold F.impl_IsAdding
  have hr1 := hr.1
  have hr2 := hr.2.1
  have hr3 := ruleP_len hr
  have hr4 := hr.2.2.2
  refine nw_i (fun p1 H2 op1 nn3 le4 => ?_)
  have np1 : Nw H p1 := nn3.le lE
  replace hvt := hvt.le le4
  replace lE := lE.trans le4
  replace op1 : Cel H2 p1 [(.int .i64 (st)), (.int .i64 (rc)), vt] := op1
  refine ob_i (op1.ldn rfl) ?_
  refine C.impl_ValidRule hvt (by first | omega | assumption) (fun   H5    le6 => ?_)
  replace op1 := op1.le le6
  replace hvt := hvt.le le6
  replace lE := lE.trans le6
  refine ob_nd (fun hc7 => ?_) (fun hc7 => ?_)
  · skip
    refine cnd_f1 ?_
    refine ob_i (op1.ldn rfl) ?_
    refine C.impl_Rule_adds hvt (by first | omega | assumption) (fun   H8    le9 => ?_)
    replace op1 := op1.le le9
    replace hvt := hvt.le le9
    replace lE := lE.trans le9
    skip
    exact hk   _    lE
  · skip
    exact absurd hc7 (fun h => h hr)
theorem C.impl_AddingTerms {vt : Value} {st rc : Int} {T : List Int}  {H : Hp} {K : Value → Hp → Prop} (hvt0 : Sl eI H vt T) (hr : ruleP st rc T) (ha : addP st rc T)
    (hk : ∀ u1 H', Own eI H' u1 (tmL st rc T) → Nw H u1 → Le H H' → K (.tuple #[u1, (.bool true)]) H') : HT prg I.impl_AddingTerms [(.agg #[(.int .i64 (st)), (.int .i64 (rc)), vt])].toArray H K := by
  have lE := Le.refl H
  have hvt := hvt0
  refine R.impl_AddingTerms ?_
  unfold F.impl_AddingTerms
  have hr1 := hr.1
  have hr2 := hr.2.1
  have hr3 := ruleP_len hr
  have hr4 := hr.2.2.2
  refine nw_i (fun p1 H2 op1 nn3 le4 => ?_)
  have np1 : Nw H p1 := nn3.le lE
  replace hvt := hvt.le le4
  replace lE := lE.trans le4
  replace op1 : Cel H2 p1 [(.int .i64 (st)), (.int .i64 (rc)), vt] := op1
  refine ob_i (op1.ldn rfl) ?_
  refine C.impl_ValidRule hvt (by first | omega | assumption) (fun   H5    le6 => ?_)
  replace op1 := op1.le le6
  replace hvt := hvt.le le6
  replace lE := lE.trans le6
  refine ob_nd (fun hc7 => ?_) (fun hc7 => ?_)
  · skip
    refine gop_rf ?_
    refine ob_i (op1.ldn rfl) ?_
    refine gop_rf ?_
    refine C.impl_Rule_adds hvt (by first | omega | assumption) (fun   H8    le9 => ?_)
    replace op1 := op1.le le9
    replace hvt := hvt.le le9
    replace lE := lE.trans le9
    refine gop_rf ?_
    refine ob_nd (fun hc10 => ?_) (fun hc10 => ?_)
    · skip
      refine ob_i (vPick_f _ _) ?_
      refine cnd_f1 ?_
      refine ob_i (op1.ldn rfl) ?_
      refine C.impl_Rule_terms hvt (by first | omega | assumption) (fun  u13 H11 ou13 nn14  le12 => ?_)
      have ap1Xu13 : Apart p1 u13 := op1.apart nn14
      have nu13 : Nw H u13 := nn14.le lE
      replace op1 := op1.le le12
      replace hvt := hvt.le le12
      replace lE := lE.trans le12
      skip
      exact hk  u13 _ ou13 nu13  lE
    · skip
      exact absurd hc10 (fun h => h ha)
  · skip
    exact absurd hc7 (fun h => h hr)
theorem C.spec_l02Run {p vt va : Value} {m st rc : Int} {T : List Int} {l : List Int}  {H : Hp} {K : Value → Hp → Prop} (hp0 : Cel H p [(.int .i64 (st)), (.int .i64 (rc)), vt]) (hvt0 : Sl eI H vt T) (hva0 : Sl eI H va l) (hr : ruleP st rc T) (hg : ringP st l) (m0 : 0 ≤ m) (m1 : m ≤ 1000)
    (hk : ∀ u1 H', Own eI H' u1 (itL st rc T l m.toNat) → Nw H u1 → Le H H' → K u1 H') : HT prg I.spec_l02Run [p, va, (.int .i64 (m))].toArray H K := by
  have lE := Le.refl H
  have hp := hp0
  have hvt := hvt0
  have hva := hva0
  refine R.spec_l02Run ?_
  unfold F.spec_l02Run
  have hr1 := hr.1
  have hr2 := hr.2.1
  have hr3 := ruleP_len hr
  have hr4 := hr.2.2.2
  have hg2 := hg.2
  refine bS_nil (enc := eI) (fun u1 H2 ou1 nn3 kk4 le5 => ?_)
  have nu1 : Nw H u1 := nn3.le lE
  replace hp := hp.le le5
  replace hvt := hvt.le le5
  replace hva := hva.le le5
  replace lE := lE.trans le5
  refine apd_nil ou1 kk4 hva (fun _ => rfl) (by omega) (by omega) (fun u9 H6 ou9 nn10 le11 => ?_)
  have au1Xu9 : Apart u1 u9 := ou1.apart nn10
  have nu9 : Nw H u9 := nn10.le lE
  replace ou1 := ou1.le le11
  replace hp := hp.le le11
  replace hvt := hvt.le le11
  replace hva := hva.le le11
  replace lE := lE.trans le11
  refine jn_i (fun σ' H' => ∃ u, σ' 7 = u ∧ Own eI H' u1 ([]) ∧ Own eI H' u (itL st rc T l m.toNat) ∧ Nw H u ∧ Apart u1 u ∧ Le H H') (fun σ12 H12 hP => ?_) (fun J12 hJ12 => ?_)
  · skip
    obtain ⟨u, g7L12, ou1, ou, nu, au1Xu, lE⟩ := hP
    have hp := hp0.le lE
    have hvt := hvt0.le lE
    have hva := hva0.le lE
    try simp only [g7L12]
    skip
    exact hk  u _ ou nu  lE
  refine ⟨fun n' σ' H' => ∃ i : Nat, n' = m.toNat - i ∧ i ≤ m.toNat ∧ ∃ u, σ' 0 = p ∧ σ' 2 = (.int .i64 (m - (i : Int))) ∧ σ' 7 = u ∧ Own eI H' u1 ([]) ∧ Own eI H' u (itL st rc T l i) ∧ Nw H u ∧ Apart u1 u ∧ Le H H',
    ⟨_, 0, rfl, by omega, u9, rfl, (congrArg (Value.int .i64) (by first | omega | rfl | (simp; done))), rfl, ou1, (Own.cast (by first | rfl | (simp; done)) ou9), nu9, au1Xu9, lE⟩, ?_⟩
  rintro n13 σ13 H13 ⟨i, rfl, hiN, u, g0L13, g2L13, g7L13, ou1, ou, nu, au1Xu, lE⟩
  have hp := hp0.le lE
  have hvt := hvt0.le lE
  have hva := hva0.le lE
  try simp only [g0L13, g2L13, g7L13]
  have hi := itL_ring hr hg i
  have hi2 := hi.2
  refine ob_i (vInt_gtr _ _ _) ?_
  refine cnd_d (fun hg14 => ?_) (fun hg14 => ?_)
  · skip
    have ti := hg14
    refine C.spec_l02Step hp hvt ou.sl (by first | omega | assumption) (by first | omega | assumption) (by first | omega | assumption) (by exact hi.1) (fun  u17 H15 ou17 nn18  le16 => ?_)
    have au1Xu17 : Apart u1 u17 := ou1.apart nn18
    have auXu17 : Apart u u17 := ou.apart nn18
    have nu17 : Nw H u17 := nn18.le lE
    replace ou1 := ou1.le le16
    replace ou := ou.le le16
    replace hp := hp.le le16
    replace hvt := hvt.le le16
    replace hva := hva.le le16
    replace lE := lE.trans le16
    refine ob_i (vInt_sub (by omega) (by omega)) ?_
    exact nxt (m.toNat - (i + 1)) (by omega) ⟨i + 1, rfl, by omega, u17, g0L13, (congrArg (Value.int .i64) (by first | omega | rfl | (simp; done))), rfl, ou1, ou17, nu17, au1Xu17, lE⟩
  · skip
    have ti := hg14
    obtain rfl : i = m.toNat := by omega
    exact hJ12 _ _ ⟨u, g7L13, ou1, ou, nu, au1Xu, lE⟩
theorem C.spec_l02Can {p vt va : Value} {st rc : Int} {T : List Int} {l : List Int}  {H : Hp} {K : Value → Hp → Prop} (hp0 : Cel H p [(.int .i64 (st)), (.int .i64 (rc)), vt]) (hvt0 : Sl eI H vt T) (hva0 : Sl eI H va l) (hr : ruleP st rc T) (hg : ringP st l)
    (hk : ∀ H', Le H H' → K (.bool true) H') : HT prg I.spec_l02Can [p, va].toArray H K := by
  have lE := Le.refl H
  have hp := hp0
  have hvt := hvt0
  have hva := hva0
  refine R.spec_l02Can ?_
  unfold F.spec_l02Can
  have hr1 := hr.1
  have hr2 := hr.2.1
  have hr3 := ruleP_len hr
  have hr4 := hr.2.2.2
  have hg2 := hg.2
  refine C.spec_l02Is hp hvt (by first | omega | assumption) (fun   H1    le2 => ?_)
  replace hp := hp.le le2
  replace hvt := hvt.le le2
  replace hva := hva.le le2
  replace lE := lE.trans le2
  by_cases hc3 : ruleP st rc T
  · skip
    refine gop_e (decide_eq_true hc3) ?_
    refine gop_rt ?_
    refine gop_e (decide_eq_true hc3) ?_
    refine gop_rt ?_
    refine gop_e (decide_eq_true hc3) ?_
    refine gop_rt ?_
    refine ob_i (hp.nilC) ?_
    refine gop_e (decide_eq_true hc3) ?_
    refine gop_rt ?_
    refine ob_i (hp.fa 0) ?_
    refine gop_e (decide_eq_true hc3) ?_
    refine gop_rt ?_
    refine ob_i (hp.ld 0 rfl) ?_
    refine gop_e (decide_eq_true hc3) ?_
    refine gop_rt ?_
    refine C.spec_l02Ring hva (by first | omega | assumption) (by first | omega | assumption) (by first | omega | assumption) (fun   H4    le5 => ?_)
    replace hp := hp.le le5
    replace hvt := hvt.le le5
    replace hva := hva.le le5
    replace lE := lE.trans le5
    refine ob_i (vPick_et (decide_eq_true hc3) _ _) ?_
    rw [decide_eq_true (show ringP st l from hg)]
    exact hk _ lE
  · skip
    exact absurd hc3 (fun h => h hr)
theorem C.spec_RunRing {vt va : Value} {st rc m : Int} {T : List Int} {l : List Int}  {H : Hp} {K : Value → Hp → Prop} (hvt0 : Sl eI H vt T) (hva0 : Sl eI H va l) (hr : ruleP st rc T) (hg : ringP st l) (m0 : 0 ≤ m) (m1 : m ≤ 1000)
    (hk : ∀ u1 H', Own eI H' u1 (itL st rc T l m.toNat) → Nw H u1 → Le H H' → K (.tuple #[u1, (.bool true)]) H') : HT prg I.spec_RunRing [(.agg #[(.int .i64 (st)), (.int .i64 (rc)), vt]), va, (.int .i64 (m))].toArray H K := by
  have lE := Le.refl H
  have hvt := hvt0
  have hva := hva0
  refine R.spec_RunRing ?_
  unfold F.spec_RunRing
  have hr1 := hr.1
  have hr2 := hr.2.1
  have hr3 := ruleP_len hr
  have hr4 := hr.2.2.2
  refine nw_i (fun p1 H2 op1 nn3 le4 => ?_)
  have np1 : Nw H p1 := nn3.le lE
  replace hvt := hvt.le le4
  replace hva := hva.le le4
  replace lE := lE.trans le4
  replace op1 : Cel H2 p1 [(.int .i64 (st)), (.int .i64 (rc)), vt] := op1
  refine C.spec_l02Can op1 hvt hva (by first | omega | assumption) (by first | omega | assumption) (fun   H5    le6 => ?_)
  replace op1 := op1.le le6
  replace hvt := hvt.le le6
  replace hva := hva.le le6
  replace lE := lE.trans le6
  refine ob_i (a := .bool false) rfl ?_
  refine gop_rf ?_
  refine gop_rf ?_
  refine C.spec_l00In  ?_
  refine gop_rf ?_
  refine ob_nd (fun hc7 => ?_) (fun hc7 => ?_)
  · skip
    refine ob_i (vPick_f _ _) ?_
    refine cnd_f1 ?_
    refine C.spec_l02Run op1 hvt hva (by first | omega | assumption) (by first | omega | assumption) (by first | omega | assumption) (by first | omega | assumption) (fun  u10 H8 ou10 nn11  le9 => ?_)
    have ap1Xu10 : Apart p1 u10 := op1.apart nn11
    have nu10 : Nw H u10 := nn11.le lE
    replace op1 := op1.le le9
    replace hvt := hvt.le le9
    replace hva := hva.le le9
    replace lE := lE.trans le9
    skip
    exact hk  u10 _ ou10 nu10  lE
  · skip
    refine ob_i (vPick_f _ _) ?_
    refine cnd_t1 ?_
    exfalso; omega
theorem C.impl_period_int64 {vt va : Value} {st rc m : Int} {T : List Int} {l : List Int} {n : Int} {H : Hp} {K : Value → Hp → Prop} (hvt0 : Sl eI H vt T) (hva0 : Sl eI H va l) (hr : ruleP st rc T) (ha : addP st rc T) (n0 : 2 * rc + 1 ≤ n) (n1 : n ≤ 64) (m0 : 1 ≤ m) (m1 : m ≤ 4096) (hl : l = impL n.toNat)
    (hk1 : perP (sqG st rc T n) (m : Int).toNat → ∀ H', Le H H' → K (.tuple #[(.int .i64 (beL (sqG st rc T n) (m : Int).toNat)), (.int .i64 (perL (sqG st rc T n) (m : Int).toNat)), (.bool true)]) H')
    (hk2 : ¬ perP (sqG st rc T n) (m : Int).toNat → ∀ H', Le H H' → K (.tuple #[(.int .i64 (0)), (.int .i64 (0)), (.bool false)]) H') : HT prg I.impl_period_int64 [va, (.func (.func I.impl_keyOf) #[] #[]), (.func (.func I.impl_Rule_step) #[(.agg #[(.int .i64 (st)), (.int .i64 (rc)), vt])] #[]), (.int .i64 (m))].toArray H K := by
  have lE := Le.refl H
  have hvt := hvt0
  have hva := hva0
  refine R.impl_period_int64 ?_
  unfold F.impl_period_int64
  have hr1 := hr.1
  have hr2 := hr.2.1
  have hr3 := ruleP_len hr
  have hr4 := hr.2.2.2
  have hby := sqG_byte (n := n) hr (by omega) (by omega)
  subst hl
  refine Mp.new_ (fun mp Smp H1 omp nn2 le3 => ?_)
  have nmp : Nws H Smp := nn2.le lE
  replace hvt := hvt.le le3
  replace hva := hva.le le3
  replace lE := lE.trans le3
  refine jn_i (fun σ' H' => Le H H' ∧ (∀ j, j < m.toNat + 1 → ¬ dupP (sqG st rc T n) j)) (fun σ4 H4 hP => ?_) (fun J4 hJ4 => ?_)
  · skip
    obtain ⟨lE, hdo⟩ := hP
    have hvt := hvt0.le lE
    have hva := hva0.le lE
    skip
    have hnoper : ¬ perP (sqG st rc T n) (m : Int).toNat := per_no (fun j hj => hdo j (by omega))
    exact hk2 (by exact hnoper)  _    lE
  refine ⟨fun n' σ' H' => ∃ i : Nat, n' = (m.toNat + 1) - i ∧ i ≤ (m.toNat + 1) ∧ ∃ u, σ' 1 = (.func (.func I.impl_keyOf) #[] #[]) ∧ σ' 2 = (.func (.func I.impl_Rule_step) #[(.agg #[(.int .i64 (st)), (.int .i64 (rc)), vt])] #[]) ∧ σ' 3 = (.int .i64 (m)) ∧ σ' 11 = mp ∧ σ' 12 = u ∧ σ' 13 = (.int .i64 ((i : Int))) ∧ Mp H' mp Smp (mapG (sqG st rc T n) i) ∧ Ro eI H' u (sqG st rc T n i) ∧ Apt Smp u ∧ Le H H' ∧ (∀ j, j < i → ¬ dupP (sqG st rc T n) j),
    ⟨_, 0, rfl, by omega, va, rfl, rfl, rfl, rfl, rfl, (congrArg (Value.int .i64) (by first | omega | rfl | (simp; done))), (Mp.cast rfl omp), (Ro.cast (by rfl) (Ro.of_sl hva (by have := impL_len n.toNat; omega))), (Apt.of_nws (u := va) (show Kn H va from (Ro.of_sl hva0 (by have := impL_len n.toNat; omega)).known) nmp).symm, lE, (fun j hj => by omega)⟩, ?_⟩
  rintro n5 σ5 H5 ⟨i, rfl, hiN, u, g1L5, g2L5, g3L5, g11L5, g12L5, g13L5, omp, ou, ampXu, lE, hd⟩
  have hvt := hvt0.le lE
  have hva := hva0.le lE
  try simp only [g1L5, g2L5, g3L5, g11L5, g12L5, g13L5]
  refine ob_i (vInt_leq _ _ _) ?_
  refine cnd_d (fun hg6 => ?_) (fun hg6 => ?_)
  · skip
    have ti := hg6
    refine ⟨by kernel_rfl, ?_⟩
    refine C.impl_keyOf ou.sl (by exact hby _) (by have := sqG_len (st := st) (rc := rc) (T := T) (n := n) i; omega) (fun   H7    le8 => ?_)
    replace omp := omp.le le8
    replace ou := ou.le le8
    replace hvt := hvt.le le8
    replace hva := hva.le le8
    replace lE := lE.trans le8
    refine Mp.look' omp (by kernel_rfl) ?_
    refine ob_i (vExt_20 _ _) ?_
    refine ob_i (vExt_21 _ _) ?_
    refine cnd_i (fun hg9 => ?_) (fun hg9 => ?_)
    · skip
      obtain ⟨j, hm1, hm2, hm3, hm4⟩ := mget_some hby hg9
      refine ob_i (vInt_sub (by omega) (by omega)) ?_
      refine retK (K := K) (v' := (.tuple #[(.int .i64 ((mget (bytesS .empty ((sqG st rc T n i))) (mapG (sqG st rc T n) i)).getD 0)), (.int .i64 ((i : Int) - ((mget (bytesS .empty ((sqG st rc T n i))) (mapG (sqG st rc T n) i)).getD 0))), (.bool true)])) rfl ?_
      skip
      have hper := per_at (n := m.toNat) hd hm1 hm2 hm3 (by omega)
      exact keq (K := K) (by rw [hm4, show beL (sqG st rc T n) (m : Int).toNat = (j : Int) from by unfold beL; rw [hper.2.2], show perL (sqG st rc T n) (m : Int).toNat = (i : Int) - (j : Int) from by unfold perL; rw [hper.2.2, hper.2.1]]) (hk1 (by exact hper.1)  _    lE)
    · skip
      refine ⟨by kernel_rfl, ?_⟩
      refine C.impl_keyOf ou.sl (by exact hby _) (by have := sqG_len (st := st) (rc := rc) (T := T) (n := n) i; omega) (fun   H10    le11 => ?_)
      replace omp := omp.le le11
      replace ou := ou.le le11
      replace hvt := hvt.le le11
      replace hva := hva.le le11
      replace lE := lE.trans le11
      refine Mp.add' omp (by kernel_rfl) (by exact (mget_not hby (by assumption)).2) (fun H12 omp off13 => ?_)
      replace ou := ou.offS off13 ampXu.symm
      replace hvt := hvt0.le (off13.le lE nmp)
      replace hva := hva0.le (off13.le lE nmp)
      replace lE := off13.le lE nmp
      refine ⟨by kernel_rfl, ?_⟩
      refine C.impl_Rule_step hvt ou.sl (by first | omega | assumption) (by have := sqG_len (st := st) (rc := rc) (T := T) (n := n) i; omega) (by have := sqG_len (st := st) (rc := rc) (T := T) (n := n) i; omega) (by exact (sqG_ring hr (by omega) (by omega) i).1) (fun  u16 H14 ou16 nn17  le15 => ?_)
      have ampXu16 : Apt Smp u16 := Apt.of_nw omp.known nn17
      have auXu16 : Apart u u16 := ou.apart nn17
      have nu16 : Nw H u16 := nn17.le lE
      replace omp := omp.le le15
      replace ou := ou.le le15
      replace hvt := hvt.le le15
      replace hva := hva.le le15
      replace lE := lE.trans le15
      refine ob_i (vInt_add (by omega) (by omega)) ?_
      exact nxt ((m.toNat + 1) - (i + 1)) (by omega) ⟨i + 1, rfl, by omega, u16, g1L5, g2L5, g3L5, g11L5, rfl, (congrArg (Value.int .i64) (by first | omega | rfl | (simp; done))), (Mp.cast mapG_succ omp), ou16.ro, ampXu16, lE, (dup_snoc hd (mget_not hby (by assumption)).1)⟩
  · skip
    have ti := hg6
    exact hJ4 _ _ ⟨lE, (by rw [show m.toNat + 1 = i by omega]; exact hd)⟩
theorem C.impl_AddingPeriod {vt : Value} {st rc n m : Int} {T : List Int}  {H : Hp} {K : Value → Hp → Prop} (hvt0 : Sl eI H vt T) (hr : ruleP st rc T) (ha : addP st rc T) (n0 : 2 * rc + 1 ≤ n) (n1 : n ≤ 64) (m0 : 1 ≤ m) (m1 : m ≤ 4096)
    (hk1 : perP (sqG st rc T n) (m : Int).toNat → ∀ H', Le H H' → K (.tuple #[(.int .i64 (beL (sqG st rc T n) (m : Int).toNat)), (.int .i64 (perL (sqG st rc T n) (m : Int).toNat)), (.bool true)]) H')
    (hk2 : ¬ perP (sqG st rc T n) (m : Int).toNat → ∀ H', Le H H' → K (.tuple #[(.int .i64 (0)), (.int .i64 (0)), (.bool false)]) H') : HT prg I.impl_AddingPeriod [(.agg #[(.int .i64 (st)), (.int .i64 (rc)), vt]), (.int .i64 (n)), (.int .i64 (m))].toArray H K := by
  have lE := Le.refl H
  have hvt := hvt0
  refine R.impl_AddingPeriod ?_
  unfold F.impl_AddingPeriod
  have hr1 := hr.1
  have hr2 := hr.2.1
  have hr3 := ruleP_len hr
  have hr4 := hr.2.2.2
  refine nw_i (fun p1 H2 op1 nn3 le4 => ?_)
  have np1 : Nw H p1 := nn3.le lE
  replace hvt := hvt.le le4
  replace lE := lE.trans le4
  replace op1 : Cel H2 p1 [(.int .i64 (st)), (.int .i64 (rc)), vt] := op1
  refine ob_i (op1.ldn rfl) ?_
  refine C.impl_ValidRule hvt (by first | omega | assumption) (fun   H5    le6 => ?_)
  replace op1 := op1.le le6
  replace hvt := hvt.le le6
  replace lE := lE.trans le6
  refine ob_nd (fun hc7 => ?_) (fun hc7 => ?_)
  · skip
    refine gop_rf ?_
    refine gop_rf ?_
    refine ob_i (op1.ldn rfl) ?_
    refine gop_rf ?_
    refine C.impl_Rule_cells hvt (by first | omega | assumption) (by first | omega | assumption) (fun   H8    le9 => ?_)
    replace op1 := op1.le le9
    replace hvt := hvt.le le9
    replace lE := lE.trans le9
    refine gop_rf ?_
    refine C.impl_within  ?_
    refine gop_rf ?_
    refine ob_nd (fun hc10 => ?_) (fun hc10 => ?_)
    · skip
      refine ob_i (vPick_f _ _) ?_
      refine gop_rf ?_
      refine ob_i (op1.ldn rfl) ?_
      refine gop_rf ?_
      refine C.impl_Rule_adds hvt (by first | omega | assumption) (fun   H11    le12 => ?_)
      replace op1 := op1.le le12
      replace hvt := hvt.le le12
      replace lE := lE.trans le12
      refine gop_rf ?_
      refine ob_nd (fun hc13 => ?_) (fun hc13 => ?_)
      · skip
        refine ob_i (vPick_f _ _) ?_
        refine gop_rf ?_
        refine gop_rf ?_
        refine C.impl_within  ?_
        refine gop_rf ?_
        refine ob_nd (fun hc14 => ?_) (fun hc14 => ?_)
        · skip
          refine ob_i (vPick_f _ _) ?_
          refine cnd_f1 ?_
          refine ob_i (op1.ldn rfl) ?_
          refine C.impl_impulse (by first | omega | assumption) (by first | omega | assumption) (fun  u17 H15 ou17 nn18  le16 => ?_)
          have ap1Xu17 : Apart p1 u17 := op1.apart nn18
          have nu17 : Nw H u17 := nn18.le lE
          replace op1 := op1.le le16
          replace hvt := hvt.le le16
          replace lE := lE.trans le16
          refine ⟨le16, ?_⟩
          refine C.impl_period_int64 hvt ou17.sl (by first | omega | assumption) (by first | omega | assumption) (by first | omega | assumption) (by first | omega | assumption) (by first | omega | assumption) (by first | omega | assumption) (by rfl) (fun hc19  H20    le21 => ?_) (fun hc22  H23    le24 => ?_)
          · skip
            replace op1 := op1.le le21
            replace ou17 := ou17.le le21
            replace hvt := hvt.le le21
            replace lE := lE.trans le21
            refine ⟨le21, ?_⟩
            refine ob_i (vExt_30 _ _ _) ?_
            refine ob_i (vExt_31 _ _ _) ?_
            refine ob_i (vExt_32 _ _ _) ?_
            skip
            exact hk1 hc19  _    lE
          · skip
            replace op1 := op1.le le24
            replace ou17 := ou17.le le24
            replace hvt := hvt.le le24
            replace lE := lE.trans le24
            refine ⟨le24, ?_⟩
            refine ob_i (vExt_30 _ _ _) ?_
            refine ob_i (vExt_31 _ _ _) ?_
            refine ob_i (vExt_32 _ _ _) ?_
            skip
            exact hk2 hc22  _    lE
        · skip
          exact absurd hc14 (fun h => h ⟨by omega, by omega⟩)
      · skip
        exact absurd hc13 (fun h => h ha)
    · skip
      exact absurd hc10 (fun h => h ⟨by omega, by omega⟩)
  · skip
    exact absurd hc7 (fun h => h hr)
theorem C.spec_l03Turn {va vb : Value} {st : Int} {a : List Int} {b : List Int}  {H : Hp} {K : Value → Hp → Prop} (hva0 : Sl eI H va a) (hvb0 : Sl eI H vb b) (s0 : 2 ≤ st) (s1 : st ≤ 3) (ha : ∀ x ∈ a, 0 ≤ x ∧ x ≤ st - 1) (hb : ∀ x ∈ b, 0 ≤ x ∧ x ≤ st - 1) (el : b.length = a.length) (l0 : 0 < a.length) (l1 : a.length ≤ 64)
    (hk : ∀ u1 H', Own eI H' u1 (prL st a b) → Nw H u1 → Le H H' → K u1 H') : HT prg I.spec_l03Turn [(.int .i64 (st)), va, vb].toArray H K := by
  have lE := Le.refl H
  have hva := hva0
  have hvb := hvb0
  refine R.spec_l03Turn ?_
  unfold F.spec_l03Turn
  refine C.spec_l03Around hva hvb (by first | omega | assumption) (by first | omega | assumption) (by first | omega | assumption) (by first | omega | assumption) (by first | omega | assumption) (by first | omega | assumption) (by first | omega | assumption) (fun  u3 H1 ou3 nn4  le2 => ?_)
  have nu3 : Nw H u3 := nn4.le lE
  replace hva := hva.le le2
  replace hvb := hvb.le le2
  replace lE := lE.trans le2
  skip
  exact hk  u3 _ ou3 nu3  lE
set_option maxHeartbeats 800000 in
theorem C.spec_AddingPeriod {vt : Value} {st rc n m : Int} {T : List Int}  {H : Hp} {K : Value → Hp → Prop} (hvt0 : Sl eI H vt T) (hr : ruleP st rc T) (ha : addP st rc T) (n0 : 2 * rc + 1 ≤ n) (n1 : n ≤ 64) (m0 : 1 ≤ m) (m1 : m ≤ 4096)
    (hk1 : perP (sqG st rc T n) (m : Int).toNat → ∀ H', Le H H' → K (.tuple #[(.int .i64 (beL (sqG st rc T n) (m : Int).toNat)), (.int .i64 (perL (sqG st rc T n) (m : Int).toNat)), (.bool true)]) H')
    (hk2 : ¬ perP (sqG st rc T n) (m : Int).toNat → ∀ H', Le H H' → K (.tuple #[(.int .i64 (0)), (.int .i64 (0)), (.bool false)]) H') : HT prg I.spec_AddingPeriod [(.agg #[(.int .i64 (st)), (.int .i64 (rc)), vt]), (.int .i64 (n)), (.int .i64 (m))].toArray H K := by
  have lE := Le.refl H
  have hvt := hvt0
  refine R.spec_AddingPeriod ?_
  unfold F.spec_AddingPeriod
  have hr1 := hr.1
  have hr2 := hr.2.1
  have hr3 := ruleP_len hr
  have hr4 := hr.2.2.2
  have tl := tmL_len (st := st) (T := T) hr.2.1.1
  have ti : ∀ x ∈ tmL st rc T, 0 ≤ x ∧ x ≤ st - 1 := tmF_in hr (by omega)
  have rl : (List.replicate (n : Int).toNat (0 : Int)).length = n.toNat := by simp
  have hon : ∀ x ∈ onF st rc (tmL st rc T) n.toNat (2 * rc + 1).toNat, 0 ≤ x ∧ x ≤ st - 1 := by rw [← on_imp hr ha (by omega)]; exact (sqG_ring hr (by omega) (by omega) 1).1
  refine nw_i (fun p1 H2 op1 nn3 le4 => ?_)
  have np1 : Nw H p1 := nn3.le lE
  replace hvt := hvt.le le4
  replace lE := lE.trans le4
  replace op1 : Cel H2 p1 [(.int .i64 (st)), (.int .i64 (rc)), vt] := op1
  refine C.spec_l02Is op1 hvt (by first | omega | assumption) (fun   H5    le6 => ?_)
  replace op1 := op1.le le6
  replace hvt := hvt.le le6
  replace lE := lE.trans le6
  refine ob_nd (fun hc7 => ?_) (fun hc7 => ?_)
  · skip
    refine gop_rf ?_
    refine gop_rf ?_
    refine C.spec_l03Wide op1 hvt (by first | omega | assumption) (by first | omega | assumption) ?_
    refine gop_rf ?_
    refine C.spec_l00In  ?_
    refine gop_rf ?_
    refine ob_nd (fun hc8 => ?_) (fun hc8 => ?_)
    · skip
      refine ob_i (vPick_f _ _) ?_
      refine gop_rf ?_
      refine gop_rf ?_
      refine C.spec_l00In  ?_
      refine gop_rf ?_
      refine ob_nd (fun hc9 => ?_) (fun hc9 => ?_)
      · skip
        refine ob_i (vPick_f _ _) ?_
        refine cnd_f1 ?_
        refine C.spec_l03Terms op1 hvt (by first | omega | assumption) (fun hc10 u13 H11 ou13 nn14  le12 => ?_) (fun hc15  H16    le17 => ?_)
        · skip
          have ap1Xu13 : Apart p1 u13 := op1.apart nn14
          have nu13 : Nw H u13 := nn14.le lE
          replace op1 := op1.le le12
          replace hvt := hvt.le le12
          replace lE := lE.trans le12
          refine ob_i (vExt_20 _ _) ?_
          refine ob_i (vExt_21 _ _) ?_
          refine ob_i (a := .bool false) rfl ?_
          refine cnd_f1 ?_
          refine C.spec_l03Once op1 hvt ou13.sl (by first | omega | assumption) (by exact ti) (by first | omega | assumption) (by first | omega | assumption) (by first | omega | assumption) (fun  u20 H18 ou20 nn21  le19 => ?_)
          have ap1Xu20 : Apart p1 u20 := op1.apart nn21
          have au13Xu20 : Apart u13 u20 := ou13.apart nn21
          have nu20 : Nw H u20 := nn21.le lE
          replace op1 := op1.le le19
          replace ou13 := ou13.le le19
          replace hvt := hvt.le le19
          replace lE := lE.trans le19
          refine Own.mk_ (z := (0 : Int)) (by omega) (by omega) (by omega) (by omega) (fun u0 H22 ou0 nn23 le24 => ?_)
          have ap1Xu0 : Apart p1 u0 := op1.apart nn23
          have au13Xu0 : Apart u13 u0 := ou13.apart nn23
          have au20Xu0 : Apart u20 u0 := ou20.apart nn23
          have nu0 : Nw H u0 := nn23.le lE
          replace op1 := op1.le le24
          replace ou13 := ou13.le le24
          replace ou20 := ou20.le le24
          replace hvt := hvt.le le24
          replace lE := lE.trans le24
          refine ob_i (ou0.sl.ix (by omega) (by omega)) ?_
          refine ou0.st (x := 1) (by omega) (by omega) rfl rfl (fun H25 ou0 off26 => ?_)
          replace op1 := op1.off off26 ap1Xu0
          replace ou13 := ou13.off off26 au13Xu0
          replace ou20 := ou20.off off26 au20Xu0
          replace hvt := hvt0.le (off26.le lE nu0)
          replace lE := off26.le lE nu0
          refine ob_i (op1.fa 0) ?_
          refine ob_i (op1.ld 0 rfl) ?_
          replace ou0 : Own eI H25 u0 (sqG st rc T n 0) := ou0
          replace ou0 := ou0.ro
          replace ou20 := ou20.ro
          refine C.spec_l03Turn ou0.sl ou20.sl (by first | omega | assumption) (by first | omega | assumption) (by exact (sqG_ring hr (by omega) (by omega) _).1) (by exact hon) (by rw [onF_len, sqG_len]) (by rw [sqG_len]; omega) (by rw [sqG_len]; omega) (fun  u1 H27 ou1 nn29  le28 => ?_)
          have ap1Xu1 : Apart p1 u1 := op1.apart nn29
          have au13Xu1 : Apart u13 u1 := ou13.apart nn29
          have au20Xu1 : Apart u20 u1 := ou20.apart nn29
          have au0Xu1 : Apart u0 u1 := ou0.apart nn29
          have nu1 : Nw H u1 := nn29.le lE
          replace op1 := op1.le le28
          replace ou13 := ou13.le le28
          replace ou20 := ou20.le le28
          replace ou0 := ou0.le le28
          replace hvt := hvt.le le28
          replace lE := lE.trans le28
          replace ou1 : Own eI H27 u1 (sqG st rc T n (0 + 1)) := Own.cast (turn_eq hr ha (by omega) (by omega) 0) ou1
          replace ou1 := ou1.ro
          refine jn_i (fun σ' H' => ∃ a : Nat, ∃ p : Nat, σ' 2 = (.int .i64 (m)) ∧ σ' 3 = p1 ∧ σ' 11 = u20 ∧ σ' 12 = u0 ∧ σ' 15 = (.int .i64 ((p : Int))) ∧ Cel H' p1 [(.int .i64 (st)), (.int .i64 (rc)), vt] ∧ Own eI H' u13 (tmL st rc T) ∧ Ro eI H' u20 (onF st rc (tmL st rc T) n.toNat (2 * rc + 1).toNat) ∧ Ro eI H' u0 (sqG st rc T n 0) ∧ Le H H' ∧ 1 ≤ p ∧ p ≤ a + 1 ∧ (∀ q, 1 ≤ q → q < p → sqG st rc T n (a + q) ≠ sqG st rc T n a) ∧ sqG st rc T n a = sqG st rc T n (a + p) ∧ a ≤ 4 * m.toNat + 20) (fun σ30 H30 hP => ?_) (fun J30 hJ30 => ?_)
          · skip
            obtain ⟨a, p, g2L30, g3L30, g11L30, g12L30, g15L30, op1, ou13, ou20, ou0, lE, hp1, hpa, hm, hc, ham⟩ := hP
            have hvt := hvt0.le lE
            try simp only [g2L30, g3L30, g11L30, g12L30, g15L30]
            refine jn_i (fun σ' H' => ∃ x, σ' 2 = (.int .i64 (m)) ∧ σ' 3 = p1 ∧ σ' 11 = u20 ∧ σ' 12 = u0 ∧ σ' 15 = (.int .i64 ((p : Int))) ∧ σ' 18 = x ∧ Cel H' p1 [(.int .i64 (st)), (.int .i64 (rc)), vt] ∧ Own eI H' u13 (tmL st rc T) ∧ Ro eI H' u20 (onF st rc (tmL st rc T) n.toNat (2 * rc + 1).toNat) ∧ Ro eI H' u0 (sqG st rc T n 0) ∧ Ro eI H' x (sqG st rc T n p) ∧ Apart p1 x ∧ Apart u13 x ∧ Le H H') (fun σ31 H31 hP => ?_) (fun J31 hJ31 => ?_)
            · skip
              obtain ⟨x, g2L31, g3L31, g11L31, g12L31, g15L31, g18L31, op1, ou13, ou20, ou0, ox, ap1Xx, au13Xx, lE⟩ := hP
              have hvt := hvt0.le lE
              try simp only [g2L31, g3L31, g11L31, g12L31, g15L31, g18L31]
              refine jn_i (fun σ' H' => ∃ f : Nat, σ' 2 = (.int .i64 (m)) ∧ σ' 15 = (.int .i64 ((p : Int))) ∧ σ' 20 = (.int .i64 ((f : Int))) ∧ Cel H' p1 [(.int .i64 (st)), (.int .i64 (rc)), vt] ∧ Own eI H' u13 (tmL st rc T) ∧ Ro eI H' u20 (onF st rc (tmL st rc T) n.toNat (2 * rc + 1).toNat) ∧ Ro eI H' u0 (sqG st rc T n 0) ∧ Le H H' ∧ f ≤ a ∧ sqG st rc T n (f + p) = sqG st rc T n f ∧ (∀ g, g < f → sqG st rc T n (g + p) ≠ sqG st rc T n g)) (fun σ32 H32 hP => ?_) (fun J32 hJ32 => ?_)
              · skip
                obtain ⟨f, g2L32, g15L32, g20L32, op1, ou13, ou20, ou0, lE, hfa, hfp, hff⟩ := hP
                have hvt := hvt0.le lE
                try simp only [g2L32, g15L32, g20L32]
                refine ob_i (vInt_add (by omega) (by omega)) ?_
                refine ob_i (vInt_gtr _ _ _) ?_
                refine cnd_d (fun hg33 => ?_) (fun hg33 => ?_)
                · skip
                  skip
                  have hend := brent_end (s := sqG st rc T n) (F := stpL st rc T) (fun _ => rfl) hp1 hc.symm hm hfp hff
                  have hno : ¬ perP (sqG st rc T n) (m : Int).toNat := per_no (fun j hj => hend.1 j (by omega))
                  exact hk2 (by exact hno)  _    lE
                · skip
                  skip
                  have hend := brent_end (s := sqG st rc T n) (F := stpL st rc T) (fun _ => rfl) hp1 hc.symm hm hfp hff
                  have hper := per_at (n := m.toNat) hend.1 hend.2.1 hend.2.2.1 hend.2.2.2 (by omega)
                  exact keq (K := K) (by rw [show beL (sqG st rc T n) (m : Int).toNat = (f : Int) from by unfold beL; rw [hper.2.2], show perL (sqG st rc T n) (m : Int).toNat = (p : Int) from by unfold perL; rw [hper.2.2, hper.2.1]; omega]) (hk1 (by exact hper.1)  _    lE)
              refine ⟨fun n' σ' H' => ∃ f : Nat, n' = a - f ∧ f ≤ a ∧ ∃ x, ∃ y, σ' 2 = (.int .i64 (m)) ∧ σ' 3 = p1 ∧ σ' 11 = u20 ∧ σ' 15 = (.int .i64 ((p : Int))) ∧ σ' 18 = x ∧ σ' 20 = (.int .i64 ((f : Int))) ∧ σ' 21 = y ∧ Cel H' p1 [(.int .i64 (st)), (.int .i64 (rc)), vt] ∧ Own eI H' u13 (tmL st rc T) ∧ Ro eI H' u20 (onF st rc (tmL st rc T) n.toNat (2 * rc + 1).toNat) ∧ Ro eI H' u0 (sqG st rc T n 0) ∧ Ro eI H' x (sqG st rc T n (f + p)) ∧ Ro eI H' y (sqG st rc T n f) ∧ Apart p1 x ∧ Apart u13 x ∧ Apart p1 y ∧ Apart u13 y ∧ Le H H' ∧ (∀ g, g < f → sqG st rc T n (g + p) ≠ sqG st rc T n g),
                ⟨_, 0, rfl, by omega, x, u0, g2L31, g3L31, g11L31, g15L31, g18L31, (congrArg (Value.int .i64) (by first | omega | rfl | (simp; done))), rfl, op1, ou13, ou20, ou0, (Ro.cast (by rw [Nat.zero_add]) ox), (Ro.cast (by rfl) ou0), ap1Xx, au13Xx, ap1Xu0, au13Xu0, lE, (fun g hg => by omega)⟩, ?_⟩
              rintro n34 σ34 H34 ⟨f, rfl, hfN, x, y, g2L34, g3L34, g11L34, g15L34, g18L34, g20L34, g21L34, op1, ou13, ou20, ou0, ox, oy, ap1Xx, au13Xx, ap1Xy, au13Xy, lE, hff⟩
              have hvt := hvt0.le lE
              try simp only [g3L34, g11L34, g18L34, g20L34, g21L34]
              refine C.spec_l00Same oy.sl ox.sl (by rw [sqG_len]; omega) (fun   H35    le36 => ?_)
              replace op1 := op1.le le36
              replace ou13 := ou13.le le36
              replace ou20 := ou20.le le36
              replace ou0 := ou0.le le36
              replace ox := ox.le le36
              replace oy := oy.le le36
              replace hvt := hvt.le le36
              replace lE := lE.trans le36
              refine ob_nd (fun hc37 => ?_) (fun hc37 => ?_)
              · skip
                have tf := hc37
                refine cnd_f1 ?_
                exact hJ32 _ _ ⟨_, g2L34, g15L34, g20L34, op1, ou13, ou20, ou0, lE, (by omega), hc37.symm, hff⟩
              · skip
                have tf := hc37
                refine cnd_t1 ?_
                refine ob_i (op1.fa 0) ?_
                refine ob_i (op1.ld 0 rfl) ?_
                refine C.spec_l03Turn oy.sl ou20.sl (by first | omega | assumption) (by first | omega | assumption) (by exact (sqG_ring hr (by omega) (by omega) _).1) (by exact hon) (by rw [onF_len, sqG_len]) (by rw [sqG_len]; omega) (by rw [sqG_len]; omega) (fun  u40 H38 ou40 nn41  le39 => ?_)
                have ap1Xu40 : Apart p1 u40 := op1.apart nn41
                have au13Xu40 : Apart u13 u40 := ou13.apart nn41
                have au20Xu40 : Apart u20 u40 := ou20.apart nn41
                have au0Xu40 : Apart u0 u40 := ou0.apart nn41
                have axXu40 : Apart x u40 := ox.apart nn41
                have ayXu40 : Apart y u40 := oy.apart nn41
                have nu40 : Nw H u40 := nn41.le lE
                replace op1 := op1.le le39
                replace ou13 := ou13.le le39
                replace ou20 := ou20.le le39
                replace ou0 := ou0.le le39
                replace ox := ox.le le39
                replace oy := oy.le le39
                replace hvt := hvt.le le39
                replace lE := lE.trans le39
                replace ou40 : Own eI H38 u40 (sqG st rc T n (f + 1)) := Own.cast (turn_eq hr ha (by omega) (by omega) f) ou40
                replace ou40 := ou40.ro
                refine ob_i (op1.fa 0) ?_
                refine ob_i (op1.ld 0 rfl) ?_
                refine C.spec_l03Turn ox.sl ou20.sl (by first | omega | assumption) (by first | omega | assumption) (by exact (sqG_ring hr (by omega) (by omega) _).1) (by exact hon) (by rw [onF_len, sqG_len]) (by rw [sqG_len]; omega) (by rw [sqG_len]; omega) (fun  u44 H42 ou44 nn45  le43 => ?_)
                have ap1Xu44 : Apart p1 u44 := op1.apart nn45
                have au13Xu44 : Apart u13 u44 := ou13.apart nn45
                have au20Xu44 : Apart u20 u44 := ou20.apart nn45
                have au0Xu44 : Apart u0 u44 := ou0.apart nn45
                have axXu44 : Apart x u44 := ox.apart nn45
                have ayXu44 : Apart y u44 := oy.apart nn45
                have au40Xu44 : Apart u40 u44 := ou40.apart nn45
                have nu44 : Nw H u44 := nn45.le lE
                replace op1 := op1.le le43
                replace ou13 := ou13.le le43
                replace ou20 := ou20.le le43
                replace ou0 := ou0.le le43
                replace ox := ox.le le43
                replace oy := oy.le le43
                replace ou40 := ou40.le le43
                replace hvt := hvt.le le43
                replace lE := lE.trans le43
                replace ou44 : Own eI H42 u44 (sqG st rc T n (f + p + 1)) := Own.cast (turn_eq hr ha (by omega) (by omega) (f + p)) ou44
                replace ou44 := ou44.ro
                refine ob_i (vInt_add (by omega) (by omega)) ?_
                have fa : f ≠ a := fun g => hc37 (by rw [g]; exact hc)
                exact nxt (a - (f + 1)) (by omega) ⟨f + 1, rfl, by omega, u44, u40, g2L34, g3L34, g11L34, g15L34, rfl, (congrArg (Value.int .i64) (by first | omega | rfl | (simp; done))), rfl, op1, ou13, ou20, ou0, (Ro.cast (by rw [show f + 1 + p = f + p + 1 by omega]) ou44), ou40, ap1Xu44, au13Xu44, ap1Xu40, au13Xu40, lE, (near_snoc hff hc37)⟩
            refine ⟨fun n' σ' H' => ∃ k : Nat, n' = p - k ∧ k ≤ p ∧ ∃ x, σ' 2 = (.int .i64 (m)) ∧ σ' 3 = p1 ∧ σ' 11 = u20 ∧ σ' 12 = u0 ∧ σ' 15 = (.int .i64 ((p : Int))) ∧ σ' 18 = x ∧ σ' 19 = (.int .i64 ((k : Int))) ∧ Cel H' p1 [(.int .i64 (st)), (.int .i64 (rc)), vt] ∧ Own eI H' u13 (tmL st rc T) ∧ Ro eI H' u20 (onF st rc (tmL st rc T) n.toNat (2 * rc + 1).toNat) ∧ Ro eI H' u0 (sqG st rc T n 0) ∧ Ro eI H' x (sqG st rc T n k) ∧ Apart p1 x ∧ Apart u13 x ∧ Le H H',
              ⟨_, 0, rfl, by omega, u0, g2L30, g3L30, g11L30, g12L30, g15L30, rfl, (congrArg (Value.int .i64) (by first | omega | rfl | (simp; done))), op1, ou13, ou20, ou0, (Ro.cast (by rfl) ou0), ap1Xu0, au13Xu0, lE⟩, ?_⟩
            rintro n46 σ46 H46 ⟨k, rfl, hkN, x, g2L46, g3L46, g11L46, g12L46, g15L46, g18L46, g19L46, op1, ou13, ou20, ou0, ox, ap1Xx, au13Xx, lE⟩
            have hvt := hvt0.le lE
            try simp only [g3L46, g11L46, g15L46, g18L46, g19L46]
            refine ob_i (vInt_lss _ _ _) ?_
            refine cnd_d (fun hg47 => ?_) (fun hg47 => ?_)
            · skip
              have tk := hg47
              refine ob_i (op1.fa 0) ?_
              refine ob_i (op1.ld 0 rfl) ?_
              refine C.spec_l03Turn ox.sl ou20.sl (by first | omega | assumption) (by first | omega | assumption) (by exact (sqG_ring hr (by omega) (by omega) _).1) (by exact hon) (by rw [onF_len, sqG_len]) (by rw [sqG_len]; omega) (by rw [sqG_len]; omega) (fun  u50 H48 ou50 nn51  le49 => ?_)
              have ap1Xu50 : Apart p1 u50 := op1.apart nn51
              have au13Xu50 : Apart u13 u50 := ou13.apart nn51
              have au20Xu50 : Apart u20 u50 := ou20.apart nn51
              have au0Xu50 : Apart u0 u50 := ou0.apart nn51
              have axXu50 : Apart x u50 := ox.apart nn51
              have nu50 : Nw H u50 := nn51.le lE
              replace op1 := op1.le le49
              replace ou13 := ou13.le le49
              replace ou20 := ou20.le le49
              replace ou0 := ou0.le le49
              replace ox := ox.le le49
              replace hvt := hvt.le le49
              replace lE := lE.trans le49
              replace ou50 : Own eI H48 u50 (sqG st rc T n (k + 1)) := Own.cast (turn_eq hr ha (by omega) (by omega) k) ou50
              replace ou50 := ou50.ro
              refine ob_i (vInt_add (by omega) (by omega)) ?_
              exact nxt (p - (k + 1)) (by omega) ⟨k + 1, rfl, by omega, u50, g2L46, g3L46, g11L46, g12L46, g15L46, rfl, (congrArg (Value.int .i64) (by first | omega | rfl | (simp; done))), op1, ou13, ou20, ou0, ou50, ap1Xu50, au13Xu50, lE⟩
            · skip
              have tk := hg47
              obtain rfl : k = p := by omega
              exact hJ31 _ _ ⟨x, g2L46, g3L46, g11L46, g12L46, g15L46, g18L46, op1, ou13, ou20, ou0, ox, ap1Xx, au13Xx, lE⟩
          refine ⟨fun n' σ' H' => ∃ i : Nat, n' = (4 * m.toNat + 20) - i ∧ i ≤ (4 * m.toNat + 20) ∧ ∃ v, ∃ w, ∃ a : Nat, ∃ p : Nat, σ' 2 = (.int .i64 (m)) ∧ σ' 3 = p1 ∧ σ' 11 = u20 ∧ σ' 12 = u0 ∧ σ' 13 = v ∧ σ' 14 = w ∧ σ' 15 = (.int .i64 ((p : Int))) ∧ σ' 16 = (.int .i64 ((a : Int) + 1)) ∧ σ' 17 = (.int .i64 ((i : Int) + 1)) ∧ Cel H' p1 [(.int .i64 (st)), (.int .i64 (rc)), vt] ∧ Own eI H' u13 (tmL st rc T) ∧ Ro eI H' u20 (onF st rc (tmL st rc T) n.toNat (2 * rc + 1).toNat) ∧ Ro eI H' u0 (sqG st rc T n 0) ∧ Ro eI H' v (sqG st rc T n a) ∧ Ro eI H' w (sqG st rc T n (a + p)) ∧ Apart p1 v ∧ Apart u13 v ∧ Apart p1 w ∧ Apart u13 w ∧ Le H H' ∧ a + p = i + 1 ∧ 1 ≤ p ∧ p ≤ a + 1 ∧ (∀ q, 1 ≤ q → q < p → sqG st rc T n (a + q) ≠ sqG st rc T n a) ∧ (0 < a → ∀ q, 1 ≤ q → q ≤ (a + 1) / 2 → sqG st rc T n ((a - 1) / 2 + q) ≠ sqG st rc T n ((a - 1) / 2)),
            ⟨_, 0, rfl, by omega, u0, u1, 0, 1, rfl, rfl, rfl, rfl, rfl, rfl, (congrArg (Value.int .i64) (by first | omega | rfl | (simp; done))), (congrArg (Value.int .i64) (by first | omega | rfl | (simp; done))), (congrArg (Value.int .i64) (by first | omega | rfl | (simp; done))), op1, ou13, ou20, ou0, (Ro.cast (by rfl) ou0), (Ro.cast (by rfl) ou1), ap1Xu0, au13Xu0, ap1Xu1, au13Xu1, lE, rfl, (by omega), (by omega), (fun q h1 h2 => by omega), (fun h => by omega)⟩, ?_⟩
          rintro n52 σ52 H52 ⟨i, rfl, hiN, v, w, a, p, g2L52, g3L52, g11L52, g12L52, g13L52, g14L52, g15L52, g16L52, g17L52, op1, ou13, ou20, ou0, ov, ow, ap1Xv, au13Xv, ap1Xw, au13Xw, lE, hap, hp1, hpa, hm, hb⟩
          have hvt := hvt0.le lE
          try simp only [g2L52, g3L52, g11L52, g13L52, g14L52, g15L52, g16L52, g17L52]
          refine C.spec_l00Same ov.sl ow.sl (by rw [sqG_len]; omega) (fun   H53    le54 => ?_)
          replace op1 := op1.le le54
          replace ou13 := ou13.le le54
          replace ou20 := ou20.le le54
          replace ou0 := ou0.le le54
          replace ov := ov.le le54
          replace ow := ow.le le54
          replace hvt := hvt.le le54
          replace lE := lE.trans le54
          refine ob_nd (fun hc55 => ?_) (fun hc55 => ?_)
          · skip
            have ti := hc55
            refine cnd_f1 ?_
            exact hJ30 _ _ ⟨_, _, g2L52, g3L52, g11L52, g12L52, g15L52, op1, ou13, ou20, ou0, lE, hp1, hpa, hm, hc55, (by omega)⟩
          · skip
            have ti := hc55
            refine cnd_t1 ?_
            refine ob_i (vInt_mul (by omega) (by omega)) ?_
            refine ob_i (vInt_add (by omega) (by omega)) ?_
            refine ob_i (vInt_gtr _ _ _) ?_
            refine cnd_d (fun hg56 => ?_) (fun hg56 => ?_)
            · skip
              refine retK (K := K) (v' := (.tuple #[(.int .i64 (0)), (.int .i64 (0)), (.bool false)])) rfl ?_
              skip
              have hno : ¬ perP (sqG st rc T n) (m : Int).toNat := per_no (brent_stop (s := sqG st rc T n) (F := stpL st rc T) (fun _ => rfl) hpa (by omega) hm hb)
              exact hk2 (by exact hno)  _    lE
            · skip
              refine ob_i (vInt_eql _ _ _) ?_
              refine cnd_d (fun hg57 => ?_) (fun hg57 => ?_)
              · skip
                refine ob_i (vInt_mul (by omega) (by omega)) ?_
                refine ob_i (op1.fa 0) ?_
                refine ob_i (op1.ld 0 rfl) ?_
                refine C.spec_l03Turn ow.sl ou20.sl (by first | omega | assumption) (by first | omega | assumption) (by exact (sqG_ring hr (by omega) (by omega) _).1) (by exact hon) (by rw [onF_len, sqG_len]) (by rw [sqG_len]; omega) (by rw [sqG_len]; omega) (fun  u60 H58 ou60 nn61  le59 => ?_)
                have ap1Xu60 : Apart p1 u60 := op1.apart nn61
                have au13Xu60 : Apart u13 u60 := ou13.apart nn61
                have au20Xu60 : Apart u20 u60 := ou20.apart nn61
                have au0Xu60 : Apart u0 u60 := ou0.apart nn61
                have avXu60 : Apart v u60 := ov.apart nn61
                have awXu60 : Apart w u60 := ow.apart nn61
                have nu60 : Nw H u60 := nn61.le lE
                replace op1 := op1.le le59
                replace ou13 := ou13.le le59
                replace ou20 := ou20.le le59
                replace ou0 := ou0.le le59
                replace ov := ov.le le59
                replace ow := ow.le le59
                replace hvt := hvt.le le59
                replace lE := lE.trans le59
                replace ou60 : Own eI H58 u60 (sqG st rc T n (a + p + 1)) := Own.cast (turn_eq hr ha (by omega) (by omega) (a + p)) ou60
                replace ou60 := ou60.ro
                refine ob_i (a := .int .i64 1) (by kernel_rfl) ?_
                refine ob_i (vInt_add (by omega) (by omega)) ?_
                exact nxt ((4 * m.toNat + 20) - (i + 1)) (by omega) ⟨i + 1, rfl, by omega, w, u60, (a + p), 1, g2L52, g3L52, g11L52, g12L52, rfl, rfl, (congrArg (Value.int .i64) (by first | omega | rfl | (simp; done))), (congrArg (Value.int .i64) (by first | omega | rfl | (simp; done))), (congrArg (Value.int .i64) (by first | omega | rfl | (simp; done))), op1, ou13, ou20, ou0, ow, ou60, ap1Xw, au13Xw, ap1Xu60, au13Xu60, lE, (by omega), (by omega), (by omega), (fun q h1 h2 => by omega), (brent_prev hg57 hm hc55)⟩
              · skip
                refine ob_i (op1.fa 0) ?_
                refine ob_i (op1.ld 0 rfl) ?_
                refine C.spec_l03Turn ow.sl ou20.sl (by first | omega | assumption) (by first | omega | assumption) (by exact (sqG_ring hr (by omega) (by omega) _).1) (by exact hon) (by rw [onF_len, sqG_len]) (by rw [sqG_len]; omega) (by rw [sqG_len]; omega) (fun  u64 H62 ou64 nn65  le63 => ?_)
                have ap1Xu64 : Apart p1 u64 := op1.apart nn65
                have au13Xu64 : Apart u13 u64 := ou13.apart nn65
                have au20Xu64 : Apart u20 u64 := ou20.apart nn65
                have au0Xu64 : Apart u0 u64 := ou0.apart nn65
                have avXu64 : Apart v u64 := ov.apart nn65
                have awXu64 : Apart w u64 := ow.apart nn65
                have nu64 : Nw H u64 := nn65.le lE
                replace op1 := op1.le le63
                replace ou13 := ou13.le le63
                replace ou20 := ou20.le le63
                replace ou0 := ou0.le le63
                replace ov := ov.le le63
                replace ow := ow.le le63
                replace hvt := hvt.le le63
                replace lE := lE.trans le63
                replace ou64 : Own eI H62 u64 (sqG st rc T n (a + p + 1)) := Own.cast (turn_eq hr ha (by omega) (by omega) (a + p)) ou64
                replace ou64 := ou64.ro
                refine ob_i (vInt_add (by omega) (by omega)) ?_
                refine ob_i (vInt_add (by omega) (by omega)) ?_
                exact nxt ((4 * m.toNat + 20) - (i + 1)) (by omega) ⟨i + 1, rfl, by omega, v, u64, a, (p + 1), g2L52, g3L52, g11L52, g12L52, g13L52, rfl, (congrArg (Value.int .i64) (by first | omega | rfl | (simp; done))), (g16L52.trans (congrArg (Value.int .i64) (by first | omega | rfl | (simp; done)))), (congrArg (Value.int .i64) (by first | omega | rfl | (simp; done))), op1, ou13, ou20, ou0, ov, ou64, ap1Xv, au13Xv, ap1Xu64, au13Xu64, lE, (by omega), (by omega), (by omega), (brent_more hm hc55), hb⟩
        · skip
          exact absurd ha hc15
      · skip
        exact absurd hc9 (fun h => h ⟨by omega, by omega⟩)
    · skip
      exact absurd hc8 (fun h => h ⟨by omega, by omega⟩)
  · skip
    exact absurd hc7 (fun h => h hr)
set_option maxHeartbeats 800000 in
theorem C.spec_B10Adding {vy : Value} {st : Int} {l : List Int}  {H : Hp} {K : Value → Hp → Prop} (hvy0 : Sl eU H vy l) (hb_vy : bytP l) (hl_vy : l.length ≤ 9223372036854775807) (s0 : 2 ≤ st) (s1 : st ≤ 3)
    (hk : ∀ (ls : List Int), (ls.length = 3 ∧ ∀ x ∈ ls, 0 ≤ x ∧ x ≤ st - 1) → ∀ u1 u2 H', Own eI H' u1 (wgL st ls) → Own eI H' u2 ls → Nw H u1 → Nw H u2 → Apart u1 u2 → Le H H' → K (.tuple #[(.agg #[(.int .i64 (st)), (.int .i64 (1)), u1]), u2]) H') : HT prg I.spec_B10Adding [vy, (.int .i64 (st))].toArray H K := by
  have lE := Le.refl H
  have hvy := hvy0
  refine R.spec_B10Adding ?_
  unfold F.spec_B10Adding
  have pb := pwr_bnd (b := st) (n := 3) (by omega) (by omega) (by omega)
  refine nw_i (fun q0 H1 oq0 nn2 le3 => ?_)
  have nq0 : Nw H q0 := nn2.le lE
  replace hvy := hvy.le le3
  replace lE := lE.trans le3
  replace oq0 : Cel H1 q0 [(.int .i64 (0)), (.int .i64 (0)), (.slice none 0 0)] := oq0
  refine C.spec_l00From hvy (fun z H4 oz nn5 le6 => ?_)
  have aq0Xz : Apart q0 z := oq0.apart nn5
  have nz : Nw H z := nn5.le lE
  replace oq0 := oq0.le le6
  replace hvy := hvy.le le6
  replace lE := lE.trans le6
  replace oz : Cel H4 z [vy, (.int .i64 (0)), (.int .u64 (0))] := oz
  refine ob_i (a := (.agg #[(.int .i64 (st)), (.int .i64 (1)), (.slice none 0 0)])) (by rfl) ?_
  refine nw_i (fun q H7 oq nn8 le9 => ?_)
  have aq0Xq : Apart q0 q := oq0.apart nn8
  have azXq : Apart z q := oz.apart nn8
  have nq : Nw H q := nn8.le lE
  replace oq0 := oq0.le le9
  replace oz := oz.le le9
  replace hvy := hvy.le le9
  replace lE := lE.trans le9
  replace oq : Cel H7 q [(.int .i64 (0)), (.int .i64 (0)), (.slice none 0 0)] := oq
  refine oq.stn (ws := [(.int .i64 (st)), (.int .i64 (1)), (.slice none 0 0)]) rfl rfl (oc1 rfl (oc1 rfl (oc1 rfl oc0))) (fun H10 oq off11 => ?_)
  replace oq0 := oq0.off off11 aq0Xq
  replace oz := oz.off off11 azXq
  replace hvy := hvy0.le (off11.le lE nq)
  replace lE := off11.le lE nq
  replace oq : Cel H10 q [(.int .i64 (st)), (.int .i64 (1)), (.slice none 0 0)] := oq
  refine bS_nil (enc := eI) (fun u12 H13 ou12 nn14 kk15 le16 => ?_)
  have aq0Xu12 : Apart q0 u12 := oq0.apart nn14
  have azXu12 : Apart z u12 := oz.apart nn14
  have aqXu12 : Apart q u12 := oq.apart nn14
  have nu12 : Nw H u12 := nn14.le lE
  replace oq0 := oq0.le le16
  replace oz := oz.le le16
  replace oq := oq.le le16
  replace hvy := hvy.le le16
  replace lE := lE.trans le16
  refine jn_i (fun σ' H' => ∃ v, ∃ ls, σ' 1 = (.int .i64 (st)) ∧ σ' 4 = q0 ∧ σ' 7 = q ∧ σ' 8 = v ∧ Cel H' q0 [(.int .i64 (0)), (.int .i64 (0)), (.slice none 0 0)] ∧ Cel H' q [(.int .i64 (st)), (.int .i64 (1)), (.slice none 0 0)] ∧ Own eI H' v (ls) ∧ Nw H v ∧ Apart q0 v ∧ Apart q v ∧ Le H H' ∧ ls.length = 3 ∧ (∀ x ∈ ls, 0 ≤ x ∧ x ≤ st - 1)) (fun σ17 H17 hP => ?_) (fun J17 hJ17 => ?_)
  · skip
    obtain ⟨v, ls, g1L17, g4L17, g7L17, g8L17, oq0, oq, ov, nv, aq0Xv, aqXv, lE, hl3, hls⟩ := hP
    have hvy := hvy0.le lE
    try simp only [g1L17, g4L17, g7L17, g8L17]
    have hls2 := in_two (by omega) hls
    refine jn_i (fun σ' H' => ∃ u, σ' 4 = q0 ∧ σ' 7 = q ∧ σ' 8 = v ∧ Cel H' q0 [(.int .i64 (0)), (.int .i64 (0)), (.slice none 0 0)] ∧ Cel H' q [(.int .i64 (st)), (.int .i64 (1)), u] ∧ Own eI H' v (ls) ∧ Own eI H' u (wgL st ls) ∧ Nw H u ∧ Apart q0 u ∧ Apart q u ∧ Apart v u ∧ Le H H') (fun σ18 H18 hP => ?_) (fun J18 hJ18 => ?_)
    · skip
      obtain ⟨u, g4L18, g7L18, g8L18, oq0, oq, ov, ou, nu, aq0Xu, aqXu, avXu, lE⟩ := hP
      have hvy := hvy0.le lE
      try simp only [g4L18, g7L18, g8L18]
      refine ob_i (oq.ldn rfl) ?_
      refine oq0.stn (ws := [(.int .i64 (st)), (.int .i64 (1)), u]) rfl rfl (oc1 rfl (oc1 rfl (oc1 ou.one oc0))) (fun H19 oq0 off20 => ?_)
      replace oq := oq.off off20 aq0Xq.symm
      replace ov := ov.off off20 aq0Xv.symm
      replace ou := ou.off off20 aq0Xu.symm
      replace hvy := hvy0.le (off20.le lE nq0)
      replace lE := off20.le lE nq0
      replace oq0 : Cel H19 q0 [(.int .i64 (st)), (.int .i64 (1)), u] := oq0
      refine ob_i (oq0.ldn rfl) ?_
      skip
      exact hk  ls (by exact ⟨hl3, hls⟩) u v _ ou ov nu nv avXu.symm lE
    refine ⟨fun n' σ' H' => ∃ h : Nat, n' = (pwr st 3).toNat - h ∧ h ≤ (pwr st 3).toNat ∧ ∃ u, σ' 1 = (.int .i64 (st)) ∧ σ' 4 = q0 ∧ σ' 7 = q ∧ σ' 8 = v ∧ σ' 10 = (.int .i64 ((h : Int))) ∧ Cel H' q0 [(.int .i64 (0)), (.int .i64 (0)), (.slice none 0 0)] ∧ Cel H' q [(.int .i64 (st)), (.int .i64 (1)), u] ∧ Own eI H' v (ls) ∧ Own eI H' u (wgF st ls h) ∧ Nw H u ∧ Apart q0 u ∧ Apart q u ∧ Apart v u ∧ Le H H',
      ⟨_, 0, rfl, by omega, _, g1L17, g4L17, g7L17, g8L17, (congrArg (Value.int .i64) (by first | omega | rfl | (simp; done))), oq0, oq, ov, (Own.cast (by first | rfl | (simp; done)) (Own.nil_of none)), (fun b hb => by simp [bk] at hb), (fun b _ hb => by simp [bk] at hb), (fun b _ hb => by simp [bk] at hb), (fun b _ hb => by simp [bk] at hb), lE⟩, ?_⟩
    rintro n21 σ21 H21 ⟨h, rfl, hhN, u, g1L21, g4L21, g7L21, g8L21, g10L21, oq0, oq, ov, ou, nu, aq0Xu, aqXu, avXu, lE⟩
    have hvy := hvy0.le lE
    try simp only [g1L21, g4L21, g7L21, g8L21, g10L21]
    have fl := wgF_len st ls h
    have dl := digL_len (h : Int) st 3
    have di := in_two (by omega) (digL_in (n := (h : Int)) (k := 3) (show 1 ≤ st by omega))
    refine C.spec_l03Power (by first | omega | assumption) (by first | omega | assumption) (by first | omega | assumption) (by first | omega | assumption) (fun   H22    le23 => ?_)
    replace oq0 := oq0.le le23
    replace oq := oq.le le23
    replace ov := ov.le le23
    replace ou := ou.le le23
    replace hvy := hvy.le le23
    replace lE := lE.trans le23
    refine ob_i (vInt_lss _ _ _) ?_
    refine cnd_d (fun hg24 => ?_) (fun hg24 => ?_)
    · skip
      have th := hg24
      refine jn_i (fun σ' H' => ∃ u, σ' 1 = (.int .i64 (st)) ∧ σ' 4 = q0 ∧ σ' 7 = q ∧ σ' 8 = v ∧ σ' 10 = (.int .i64 ((h : Int))) ∧ Cel H' q0 [(.int .i64 (0)), (.int .i64 (0)), (.slice none 0 0)] ∧ Cel H' q [(.int .i64 (st)), (.int .i64 (1)), u] ∧ Own eI H' v (ls) ∧ Own eI H' u (wgF st ls (h + 1)) ∧ Nw H u ∧ Apart q0 u ∧ Apart q u ∧ Apart v u ∧ Le H H') (fun σ25 H25 hP => ?_) (fun J25 hJ25 => ?_)
      · skip
        obtain ⟨u, g1L25, g4L25, g7L25, g8L25, g10L25, oq0, oq, ov, ou, nu, aq0Xu, aqXu, avXu, lE⟩ := hP
        have hvy := hvy0.le lE
        try simp only [g4L25, g10L25]
        refine ob_i (vInt_add (by omega) (by omega)) ?_
        exact nxt ((pwr st 3).toNat - (h + 1)) (by omega) ⟨h + 1, rfl, by omega, u, g1L25, g4L25, g7L25, g8L25, (congrArg (Value.int .i64) (by first | omega | rfl | (simp; done))), oq0, oq, ov, ou, nu, aq0Xu, aqXu, avXu, lE⟩
      refine C.spec_l03Cells (by first | omega | assumption) (by first | omega | assumption) (by first | omega | assumption) (by first | omega | assumption) (by first | omega | assumption) (by first | omega | assumption) (fun  u28 H26 ou28 nn29  le27 => ?_)
      have aq0Xu28 : Apart q0 u28 := oq0.apart nn29
      have aqXu28 : Apart q u28 := oq.apart nn29
      have avXu28 : Apart v u28 := ov.apart nn29
      have auXu28 : Apart u u28 := ou.apart nn29
      have nu28 : Nw H u28 := nn29.le lE
      replace oq0 := oq0.le le27
      replace oq := oq.le le27
      replace ov := ov.le le27
      replace ou := ou.le le27
      replace hvy := hvy.le le27
      replace lE := lE.trans le27
      replace ou28 : Own eI H26 u28 (digL (h : Int) st 3) := ou28
      refine jn_i (fun σ' H' => σ' 1 = (.int .i64 (st)) ∧ σ' 4 = q0 ∧ σ' 7 = q ∧ σ' 8 = v ∧ σ' 10 = (.int .i64 ((h : Int))) ∧ σ' 12 = (.int .i64 (sumZ (fun i => at_ 0 ls (i : Int) * at_ 0 (digL (h : Int) st 3) (i : Int)) 3)) ∧ Cel H' q0 [(.int .i64 (0)), (.int .i64 (0)), (.slice none 0 0)] ∧ Cel H' q [(.int .i64 (st)), (.int .i64 (1)), u] ∧ Own eI H' v (ls) ∧ Own eI H' u (wgF st ls h) ∧ Own eI H' u28 (digL (h : Int) st 3) ∧ Le H H' ∧ 0 ≤ sumZ (fun i => at_ 0 ls (i : Int) * at_ 0 (digL (h : Int) st 3) (i : Int)) 3 ∧ sumZ (fun i => at_ 0 ls (i : Int) * at_ 0 (digL (h : Int) st 3) (i : Int)) 3 ≤ 64) (fun σ30 H30 hP => ?_) (fun J30 hJ30 => ?_)
      · skip
        obtain ⟨g1L30, g4L30, g7L30, g8L30, g10L30, g12L30, oq0, oq, ov, ou, ou28, lE, ho0, ho1⟩ := hP
        have hvy := hvy0.le lE
        try simp only [g1L30, g4L30, g7L30, g12L30]
        refine ob_i (oq.fa 2) ?_
        refine ob_i (oq.ld 2 rfl) ?_
        have rm31 := And.intro (Int.emod_nonneg (sumZ (fun i => at_ 0 ls (i : Int) * at_ 0 (digL (h : Int) st 3) (i : Int)) 3) (b := st) (by omega)) (Int.emod_lt_of_pos (sumZ (fun i => at_ 0 ls (i : Int) * at_ 0 (digL (h : Int) st 3) (i : Int)) 3) (b := st) (by omega))
        refine ob_i (vInt_remN (by omega) (by omega)) ?_
        refine bS_i (enc := eI) (l := [(sumZ (fun i => at_ 0 ls (i : Int) * at_ 0 (digL (h : Int) st 3) (i : Int)) 3) % st]) (by omega) rfl (by kernel_rfl) (fun u32 H33 ou32 nn34 le36 => ?_)
        have aq0Xu32 : Apart q0 u32 := oq0.apart nn34
        have aqXu32 : Apart q u32 := oq.apart nn34
        have avXu32 : Apart v u32 := ov.apart nn34
        have auXu32 : Apart u u32 := ou.apart nn34
        have au28Xu32 : Apart u28 u32 := ou28.apart nn34
        have nu32 : Nw H u32 := nn34.le lE
        replace oq0 := oq0.le le36
        replace oq := oq.le le36
        replace ov := ov.le le36
        replace ou := ou.le le36
        replace ou28 := ou28.le le36
        replace hvy := hvy.le le36
        replace lE := lE.trans le36
        refine apd_any ou ou32.sl (fun _ => rfl) (by omega) (by first | omega | (simp only [List.length_cons, List.length_nil, List.length_append, List.length_replicate, List.length_map, List.length_range]; omega)) (fun u40 H37 ou40 off38 hb39 => ?_)
        have aq0Xu40 : Apart q0 u40 := Apart.ap2 oq0.known aq0Xu hb39
        have aqXu40 : Apart q u40 := Apart.ap2 oq.known aqXu hb39
        have avXu40 : Apart v u40 := Apart.ap2 ov.known avXu hb39
        have au28Xu40 : Apart u28 u40 := Apart.ap2 ou28.known auXu28.symm hb39
        have au32Xu40 : Apart u32 u40 := Apart.ap2 ou32.known auXu32.symm hb39
        have nu40 : Nw H u40 := Nw.ap2 nu lE hb39
        replace oq0 := oq0.off off38 aq0Xu
        replace oq := oq.off off38 aqXu
        replace ov := ov.off off38 avXu
        replace ou28 := ou28.off off38 auXu28.symm
        replace ou32 := ou32.off off38 auXu32.symm
        replace hvy := hvy0.le (off38.le lE nu)
        replace lE := off38.le lE nu
        refine ob_i (oq.fa 2) ?_
        refine oq.st (by simp) ou40.one ou40.cells (fun H41 oq off42 => ?_)
        replace oq0 := oq0.off off42 aq0Xq
        replace ov := ov.off off42 aqXv.symm
        replace ou28 := ou28.off off42 aqXu28.symm
        replace ou32 := ou32.off off42 aqXu32.symm
        replace ou40 := ou40.off off42 aqXu40.symm
        replace hvy := hvy0.le (off42.le lE nq)
        replace lE := off42.le lE nq
        replace oq : Cel H41 q [(.int .i64 (st)), (.int .i64 (1)), u40] := oq
        exact hJ25 _ _ ⟨u40, g1L30, g4L30, g7L30, g8L30, g10L30, oq0, oq, ov, (Own.cast (by rw [← wgF_succ]; unfold wgS; rw [hl3]) ou40), nu40, aq0Xu40, aqXu40, avXu40, lE⟩
      refine ob_i (ou28.len) ?_
      refine ⟨fun n' σ' H' => ∃ m : Nat, n' = 3 - m ∧ m ≤ 3 ∧ σ' 1 = (.int .i64 (st)) ∧ σ' 4 = q0 ∧ σ' 7 = q ∧ σ' 8 = v ∧ σ' 10 = (.int .i64 ((h : Int))) ∧ σ' 11 = u28 ∧ σ' 12 = (.int .i64 (sumZ (fun i => at_ 0 ls (i : Int) * at_ 0 (digL (h : Int) st 3) (i : Int)) m)) ∧ σ' 39 = (.int .i64 (((digL (h : Int) st 3).length : Int))) ∧ σ' 40 = (.int .i64 ((m : Int))) ∧ Cel H' q0 [(.int .i64 (0)), (.int .i64 (0)), (.slice none 0 0)] ∧ Cel H' q [(.int .i64 (st)), (.int .i64 (1)), u] ∧ Own eI H' v (ls) ∧ Own eI H' u (wgF st ls h) ∧ Own eI H' u28 (digL (h : Int) st 3) ∧ Le H H',
        ⟨_, 0, rfl, by omega, g1L21, g4L21, g7L21, g8L21, g10L21, rfl, rfl, rfl, (congrArg (Value.int .i64) (by first | omega | rfl | (simp; done))), oq0, oq, ov, ou, ou28, lE⟩, ?_⟩
      rintro n43 σ43 H43 ⟨m, rfl, hmN, g1L43, g4L43, g7L43, g8L43, g10L43, g11L43, g12L43, g39L43, g40L43, oq0, oq, ov, ou, ou28, lE⟩
      have hvy := hvy0.le lE
      try simp only [g4L43, g8L43, g11L43, g12L43, g39L43, g40L43]
      have sb := sumZ_bnd (a := 0) (b := 4) (by omega) (by omega) (wg_bnd hls2 di) m
      have wb := wg_bnd hls2 di m
      have wc := Int.mul_comm (at_ 0 (digL (h : Int) st 3) (m : Int)) (at_ 0 ls (m : Int))
      refine ob_i (vInt_lss _ _ _) ?_
      refine cnd_d (fun hg44 => ?_) (fun hg44 => ?_)
      · skip
        have tm := hg44
        refine ob_i (ou28.sl.ix (by omega) (by omega)) ?_
        refine ob_i (ou28.sl.ld 0 (by omega) (by omega)) ?_
        refine ob_i (ov.sl.ix (by omega) (by omega)) ?_
        refine ob_i (ov.sl.ld 0 (by omega) (by omega)) ?_
        refine ob_i (vInt_mul (by omega) (by omega)) ?_
        refine ob_i (vInt_add (by omega) (by omega)) ?_
        refine ob_i (vInt_add (by omega) (by omega)) ?_
        exact nxt (3 - (m + 1)) (by omega) ⟨m + 1, rfl, by omega, g1L43, g4L43, g7L43, g8L43, g10L43, g11L43, (congrArg (Value.int .i64) (by rw [wc]; rfl)), g39L43, (congrArg (Value.int .i64) (by first | omega | rfl | (simp; done))), oq0, oq, ov, ou, ou28, lE⟩
      · skip
        have tm := hg44
        obtain rfl : m = 3 := by omega
        exact hJ30 _ _ ⟨g1L43, g4L43, g7L43, g8L43, g10L43, (g12L43.trans (congrArg (Value.int .i64) (by first | omega | rfl | (simp; done)))), oq0, oq, ov, ou, ou28, lE, (by omega), (by omega)⟩
    · skip
      have th := hg24
      have hz : h = (pwr st 3).toNat := by omega
      exact hJ18 _ _ ⟨u, g4L21, g7L21, g8L21, oq0, oq, ov, (Own.cast (by unfold wgL; rw [hl3, hz]; rfl) ou), nu, aq0Xu, aqXu, avXu, lE⟩
  refine ⟨fun n' σ' H' => ∃ i : Nat, n' = 3 - i ∧ i ≤ 3 ∧ ∃ v, ∃ lu, ∃ ats, ∃ sd, σ' 1 = (.int .i64 (st)) ∧ σ' 4 = q0 ∧ σ' 6 = z ∧ σ' 7 = q ∧ σ' 8 = v ∧ σ' 9 = (.int .i64 ((i : Int))) ∧ Cel H' q0 [(.int .i64 (0)), (.int .i64 (0)), (.slice none 0 0)] ∧ Cel H' z [vy, (.int .i64 (ats)), (.int .u64 (sd))] ∧ Cel H' q [(.int .i64 (st)), (.int .i64 (1)), (.slice none 0 0)] ∧ Own eI H' v (lu) ∧ Nw H v ∧ Apart q0 v ∧ Apart z v ∧ Apart q v ∧ Le H H' ∧ lu.length = i ∧ (∀ x ∈ lu, 0 ≤ x ∧ x ≤ st - 1) ∧ 0 ≤ ats ∧ ats ≤ 2 * (i : Int),
    ⟨_, 0, rfl, by omega, u12, [], 0, 0, rfl, rfl, rfl, rfl, rfl, (congrArg (Value.int .i64) (by first | omega | rfl | (simp; done))), oq0, oz, oq, (Own.cast (by first | rfl | (simp; done)) ou12), nu12, aq0Xu12, azXu12, aqXu12, lE, rfl, (by simp), ⟨by omega, by omega⟩⟩, ?_⟩
  rintro n45 σ45 H45 ⟨i, rfl, hiN, v, lu, ats, sd, g1L45, g4L45, g6L45, g7L45, g8L45, g9L45, oq0, oz, oq, ov, nv, aq0Xv, azXv, aqXv, lE, hln, hLa, hat⟩
  have hvy := hvy0.le lE
  try simp only [g1L45, g4L45, g6L45, g8L45, g9L45]
  refine ob_i (vInt_lss _ _ _) ?_
  refine cnd_d (fun hg46 => ?_) (fun hg46 => ?_)
  · skip
    have ti := hg46
    refine C.pspec_l00Src_pick hvy0 hb_vy hl_vy lE nz oz (by omega) (by omega) (fun x47 at48 sd49 H50 xp52 xq53 ap54 aq55 oz off51 => ?_)
    replace xq53 := xq53 (by omega)
    replace oq0 := oq0.off off51 aq0Xz
    replace oq := oq.off off51 azXq.symm
    replace ov := ov.off off51 azXv.symm
    replace hvy := hvy0.le (off51.le lE nz)
    replace lE := off51.le lE nz
    replace oz : Cel H50 z [vy, (.int .i64 (at48)), (.int .u64 (sd49))] := oz
    refine bS_i (enc := eI) (l := [x47]) (by omega) rfl (by kernel_rfl) (fun u56 H57 ou56 nn58 le60 => ?_)
    have aq0Xu56 : Apart q0 u56 := oq0.apart nn58
    have azXu56 : Apart z u56 := oz.apart nn58
    have aqXu56 : Apart q u56 := oq.apart nn58
    have avXu56 : Apart v u56 := ov.apart nn58
    have nu56 : Nw H u56 := nn58.le lE
    replace oq0 := oq0.le le60
    replace oz := oz.le le60
    replace oq := oq.le le60
    replace ov := ov.le le60
    replace hvy := hvy.le le60
    replace lE := lE.trans le60
    refine apd_any ov ou56.sl (fun _ => rfl) (by omega) (by first | omega | (simp only [List.length_cons, List.length_nil, List.length_append, List.length_replicate, List.length_map, List.length_range]; omega)) (fun u64 H61 ou64 off62 hb63 => ?_)
    have aq0Xu64 : Apart q0 u64 := Apart.ap2 oq0.known aq0Xv hb63
    have azXu64 : Apart z u64 := Apart.ap2 oz.known azXv hb63
    have aqXu64 : Apart q u64 := Apart.ap2 oq.known aqXv hb63
    have au56Xu64 : Apart u56 u64 := Apart.ap2 ou56.known avXu56.symm hb63
    have nu64 : Nw H u64 := Nw.ap2 nv lE hb63
    replace oq0 := oq0.off off62 aq0Xv
    replace oz := oz.off off62 azXv
    replace oq := oq.off off62 aqXv
    replace ou56 := ou56.off off62 avXu56.symm
    replace hvy := hvy0.le (off62.le lE nv)
    replace lE := off62.le lE nv
    refine ob_i (vInt_add (by omega) (by omega)) ?_
    exact nxt (3 - (i + 1)) (by omega) ⟨i + 1, rfl, by omega, u64, (lu ++ ([x47])), (at48), (sd49), g1L45, g4L45, g6L45, g7L45, rfl, (congrArg (Value.int .i64) (by first | omega | rfl | (simp; done))), oq0, oz, oq, ou64, nu64, aq0Xu64, azXu64, aqXu64, lE, (by rw [List.length_append, hln]; rfl), (snoc_all hLa (by omega)), ⟨by omega, by omega⟩⟩
  · skip
    have ti := hg46
    exact hJ17 _ _ ⟨v, _, g1L45, g4L45, g7L45, g8L45, oq0, oq, ov, nv, aq0Xv, aqXv, lE, (by omega), hLa⟩
theorem C.spec_B10Ring {vy : Value} {st n : Int} {l : List Int}  {H : Hp} {K : Value → Hp → Prop} (hvy0 : Sl eU H vy l) (hb_vy : bytP l) (hl_vy : l.length ≤ 9223372036854775807) (s0 : 2 ≤ st) (s1 : st ≤ 3) (n0 : 1 ≤ n) (n1 : n ≤ 64)
    (hk : ∀ (ls : List Int), ((ls.length : Int) = n ∧ ringP st ls) → ∀ u1 H', Own eI H' u1 ls → Nw H u1 → Le H H' → K u1 H') : HT prg I.spec_B10Ring [vy, (.int .i64 (st)), (.int .i64 (n))].toArray H K := by
  have lE := Le.refl H
  have hvy := hvy0
  refine R.spec_B10Ring ?_
  unfold F.spec_B10Ring
  refine C.spec_l00From hvy (fun z H1 oz nn2 le3 => ?_)
  have nz : Nw H z := nn2.le lE
  replace hvy := hvy.le le3
  replace lE := lE.trans le3
  replace oz : Cel H1 z [vy, (.int .i64 (0)), (.int .u64 (0))] := oz
  refine bS_nil (enc := eI) (fun u4 H5 ou4 nn6 kk7 le8 => ?_)
  have azXu4 : Apart z u4 := oz.apart nn6
  have nu4 : Nw H u4 := nn6.le lE
  replace oz := oz.le le8
  replace hvy := hvy.le le8
  replace lE := lE.trans le8
  refine jn_i (fun σ' H' => ∃ u, ∃ lu, σ' 8 = u ∧ Own eI H' u (lu) ∧ Nw H u ∧ Le H H' ∧ (lu.length : Int) = n ∧ (∀ x ∈ lu, 0 ≤ x ∧ x ≤ st - 1)) (fun σ9 H9 hP => ?_) (fun J9 hJ9 => ?_)
  · skip
    obtain ⟨u, lu, g8L9, ou, nu, lE, hln, hLa⟩ := hP
    have hvy := hvy0.le lE
    try simp only [g8L9]
    skip
    exact hk  lu (by exact ⟨hln, hLa, by omega, by omega⟩) u _ ou nu  lE
  refine ⟨fun n' σ' H' => ∃ i : Nat, n' = n.toNat - i ∧ i ≤ n.toNat ∧ ∃ u, ∃ lu, ∃ ats, ∃ sd, σ' 1 = (.int .i64 (st)) ∧ σ' 2 = (.int .i64 (n - (i : Int))) ∧ σ' 7 = z ∧ σ' 8 = u ∧ Cel H' z [vy, (.int .i64 (ats)), (.int .u64 (sd))] ∧ Own eI H' u (lu) ∧ Nw H u ∧ Apart z u ∧ Le H H' ∧ lu.length = i ∧ (∀ x ∈ lu, 0 ≤ x ∧ x ≤ st - 1) ∧ 0 ≤ ats ∧ ats ≤ 2 * (i : Int),
    ⟨_, 0, rfl, by omega, u4, [], 0, 0, rfl, (congrArg (Value.int .i64) (by first | omega | rfl | (simp; done))), rfl, rfl, oz, (Own.cast (by first | rfl | (simp; done)) ou4), nu4, azXu4, lE, rfl, (by simp), ⟨by omega, by omega⟩⟩, ?_⟩
  rintro n10 σ10 H10 ⟨i, rfl, hiN, u, lu, ats, sd, g1L10, g2L10, g7L10, g8L10, oz, ou, nu, azXu, lE, hln, hLa, hat⟩
  have hvy := hvy0.le lE
  try simp only [g1L10, g2L10, g7L10, g8L10]
  refine ob_i (vInt_gtr _ _ _) ?_
  refine cnd_d (fun hg11 => ?_) (fun hg11 => ?_)
  · skip
    have ti := hg11
    refine C.pspec_l00Src_pick hvy0 hb_vy hl_vy lE nz oz (by omega) (by omega) (fun x12 at13 sd14 H15 xp17 xq18 ap19 aq20 oz off16 => ?_)
    replace xq18 := xq18 (by omega)
    replace ou := ou.off off16 azXu.symm
    replace hvy := hvy0.le (off16.le lE nz)
    replace lE := off16.le lE nz
    replace oz : Cel H15 z [vy, (.int .i64 (at13)), (.int .u64 (sd14))] := oz
    refine bS_i (enc := eI) (l := [x12]) (by omega) rfl (by kernel_rfl) (fun u21 H22 ou21 nn23 le25 => ?_)
    have azXu21 : Apart z u21 := oz.apart nn23
    have auXu21 : Apart u u21 := ou.apart nn23
    have nu21 : Nw H u21 := nn23.le lE
    replace oz := oz.le le25
    replace ou := ou.le le25
    replace hvy := hvy.le le25
    replace lE := lE.trans le25
    refine apd_any ou ou21.sl (fun _ => rfl) (by omega) (by first | omega | (simp only [List.length_cons, List.length_nil, List.length_append, List.length_replicate, List.length_map, List.length_range]; omega)) (fun u29 H26 ou29 off27 hb28 => ?_)
    have azXu29 : Apart z u29 := Apart.ap2 oz.known azXu hb28
    have au21Xu29 : Apart u21 u29 := Apart.ap2 ou21.known auXu21.symm hb28
    have nu29 : Nw H u29 := Nw.ap2 nu lE hb28
    replace oz := oz.off off27 azXu
    replace ou21 := ou21.off off27 auXu21.symm
    replace hvy := hvy0.le (off27.le lE nu)
    replace lE := off27.le lE nu
    refine ob_i (vInt_sub (by omega) (by omega)) ?_
    exact nxt (n.toNat - (i + 1)) (by omega) ⟨i + 1, rfl, by omega, u29, (lu ++ ([x12])), (at13), (sd14), g1L10, (congrArg (Value.int .i64) (by first | omega | rfl | (simp; done))), g7L10, rfl, oz, ou29, nu29, azXu29, lE, (by rw [List.length_append, hln]; rfl), (snoc_all hLa (by omega)), ⟨by omega, by omega⟩⟩
  · skip
    have ti := hg11
    exact hJ9 _ _ ⟨u, _, g8L10, ou, nu, lE, (by omega), hLa⟩
theorem C.laws_b10Long {vy vm : Value} {l : List Int} {m : List Int}  {H : Hp} {K : Value → Hp → Prop} (hvy0 : Sl eU H vy l) (hvm0 : Sl eU H vm m)
    (hk : ∀ H', Le H H' → K (.bool (decide (1048576 < l.length ∨ 1048576 < m.length))) H') : HT prg I.laws_b10Long [vy, vm].toArray H K := by
  have lE := Le.refl H
  have hvy := hvy0
  have hvm := hvm0
  refine R.laws_b10Long ?_
  unfold F.laws_b10Long
  refine ob_i (hvy.len) ?_
  refine ob_i (vInt_gtr _ _ _) ?_
  by_cases hc1 : 1048576 < (((l).length : Int))
  · skip
    refine gop_e (decide_eq_true hc1) ?_
    refine gop_st ?_
    refine gop_e (decide_eq_true hc1) ?_
    refine gop_st ?_
    refine gop_e (decide_eq_true hc1) ?_
    refine gop_st ?_
    refine ob_i (vPick_et (decide_eq_true hc1) _ _) ?_
    skip
    exact keq (K := K) (by rw [decide_eq_true (show (1048576 < l.length ∨ 1048576 < m.length) from by omega)]) (hk   _    lE)
  · skip
    refine gop_e (decide_eq_false hc1) ?_
    refine gop_rf ?_
    refine gop_e (decide_eq_false hc1) ?_
    refine gop_rf ?_
    refine ob_i (hvm.len) ?_
    refine gop_e (decide_eq_false hc1) ?_
    refine gop_rf ?_
    refine ob_i (vInt_gtr _ _ _) ?_
    refine ob_i (vPick_ef (decide_eq_false hc1) _ _) ?_
    skip
    exact keq (K := K) (by rw [show decide (1048576 < (((m).length : Int))) = decide (1048576 < l.length ∨ 1048576 < m.length) from decide_eq_decide.mpr (by omega)]) (hk   _    lE)
set_option maxHeartbeats 3000000 in
theorem C.laws_FnAdding {vy vm : Value} {l : List Int} {mm : List Int}  {H : Hp} {K : Value → Hp → Prop} (hvy0 : Sl eU H vy l) (hvm0 : Sl eU H vm mm) (hb_vy : bytP l) (hl_vy : l.length ≤ 9223372036854775807) (hb_vm : bytP mm) (hl_vm : mm.length ≤ 9223372036854775807)
    (hk : ∀ H', Le H H' → K (.bool true) H') : HT prg I.laws_FnAdding [vy, vm].toArray H K := by
  have lE := Le.refl H
  have hvy := hvy0
  have hvm := hvm0
  refine R.laws_FnAdding ?_
  unfold F.laws_FnAdding
  refine C.laws_b10Long hvy hvm (fun   H1    le2 => ?_)
  replace hvy := hvy.le le2
  replace hvm := hvm.le le2
  replace lE := lE.trans le2
  refine cnd_d (fun hg3 => ?_) (fun hg3 => ?_)
  · skip
    skip
    exact hk   _    lE
  · skip
    refine C.laws_b10At (k := 0) (n := 2) hvm hb_vm hl_vm (by omega) (by omega) (fun x4 xp5 xq6 => ?_)
    replace xq6 := xq6 (by omega)
    refine ob_i (vInt_add (by omega) (by omega)) ?_
    obtain ⟨st, hst⟩ : ∃ x : Int, x = 2 + x4 := ⟨_, rfl⟩
    rw [← hst]
    refine C.spec_B10Adding hvy (by first | omega | assumption) (by first | omega | assumption) (by first | omega | assumption) (by first | omega | assumption) (fun  lt hlt u9 u10 H7 ou9 ou10 nn11 nn12 au9Xu10 le8 => ?_)
    have nu9 : Nw H u9 := nn11.le lE
    have nu10 : Nw H u10 := nn12.le lE
    replace hvy := hvy.le le8
    replace hvm := hvm.le le8
    replace lE := lE.trans le8
    have e3 := hlt.1
    have i3 := hlt.2
    have hrt := wg_rule (st := st) (rc := 1) (w := lt) (by omega) (by omega) (by omega)
    have has := add_wg (st := st) (rc := 1) (w := lt) (by omega) (by omega) (by omega) i3
    have hterm := tm_wg (st := st) (rc := 1) (w := lt) (by omega) (by omega) (by omega) i3
    have rl3 := ruleP_len hrt
    refine ob_i (vExt_20 _ _) ?_
    refine ob_i (vExt_21 _ _) ?_
    refine nw_i (fun q H13 oq nn14 le15 => ?_)
    have au9Xq : Apart u9 q := ou9.apart nn14
    have au10Xq : Apart u10 q := ou10.apart nn14
    have nq : Nw H q := nn14.le lE
    replace ou9 := ou9.le le15
    replace ou10 := ou10.le le15
    replace hvy := hvy.le le15
    replace hvm := hvm.le le15
    replace lE := lE.trans le15
    replace oq : Cel H13 q [(.int .i64 (0)), (.int .i64 (0)), (.slice none 0 0)] := oq
    refine oq.stn (ws := [(.int .i64 (st)), (.int .i64 (1)), u9]) rfl rfl (oc1 rfl (oc1 rfl (oc1 ou9.one oc0))) (fun H16 oq off17 => ?_)
    replace ou9 := ou9.off off17 au9Xq
    replace ou10 := ou10.off off17 au10Xq
    replace hvy := hvy0.le (off17.le lE nq)
    replace hvm := hvm0.le (off17.le lE nq)
    replace lE := off17.le lE nq
    replace oq : Cel H16 q [(.int .i64 (st)), (.int .i64 (1)), u9] := oq
    refine ob_i (oq.ldn rfl) ?_
    refine C.impl_IsAdding ou9.sl (by first | exact hrt | exact rule_set hrt) (fun   H18    le19 => ?_)
    replace ou9 := ou9.le le19
    replace ou10 := ou10.le le19
    replace oq := oq.le le19
    replace hvy := hvy.le le19
    replace hvm := hvm.le le19
    replace lE := lE.trans le19
    refine ob_i (vExt_20 _ _) ?_
    refine ob_i (vExt_21 _ _) ?_
    refine ob_i (oq.ldn rfl) ?_
    refine C.impl_AddingTerms ou9.sl (by first | omega | assumption) (by exact has) (fun  u22 H20 ou22 nn23  le21 => ?_)
    have au9Xu22 : Apart u9 u22 := ou9.apart nn23
    have au10Xu22 : Apart u10 u22 := ou10.apart nn23
    have aqXu22 : Apart q u22 := oq.apart nn23
    have nu22 : Nw H u22 := nn23.le lE
    replace ou9 := ou9.le le21
    replace ou10 := ou10.le le21
    replace oq := oq.le le21
    replace hvy := hvy.le le21
    replace hvm := hvm.le le21
    replace lE := lE.trans le21
    refine ob_i (vExt_20 _ _) ?_
    refine ob_i (vExt_21 _ _) ?_
    refine C.laws_b10At (k := 1) (n := 9) hvm hb_vm hl_vm (by omega) (by omega) (fun x24 xp25 xq26 => ?_)
    replace xq26 := xq26 (by omega)
    refine ob_i (vInt_add (by omega) (by omega)) ?_
    obtain ⟨n, hn⟩ : ∃ x : Int, x = 3 + x24 := ⟨_, rfl⟩
    rw [← hn]
    refine C.spec_B10Ring hvm (by first | omega | assumption) (by first | omega | assumption) (by first | omega | assumption) (by first | omega | assumption) (by first | omega | assumption) (by first | omega | assumption) (fun  lg hlg u29 H27 ou29 nn30  le28 => ?_)
    have au9Xu29 : Apart u9 u29 := ou9.apart nn30
    have au10Xu29 : Apart u10 u29 := ou10.apart nn30
    have aqXu29 : Apart q u29 := oq.apart nn30
    have au22Xu29 : Apart u22 u29 := ou22.apart nn30
    have nu29 : Nw H u29 := nn30.le lE
    replace ou9 := ou9.le le28
    replace ou10 := ou10.le le28
    replace oq := oq.le le28
    replace ou22 := ou22.le le28
    replace hvy := hvy.le le28
    replace hvm := hvm.le le28
    replace lE := lE.trans le28
    have er := hlg.1
    have rr := hlg.2
    have rr2 := rr.2
    refine C.laws_b10At (k := 2) (n := 30) hvm hb_vm hl_vm (by omega) (by omega) (fun x31 xp32 xq33 => ?_)
    replace xq33 := xq33 (by omega)
    obtain ⟨tm, htm⟩ : ∃ x : Int, x = x31 := ⟨_, rfl⟩
    rw [← htm]
    refine ob_i (oq.ldn rfl) ?_
    refine C.impl_FarAhead ou9.sl ou29.sl (by first | omega | assumption) (by first | omega | assumption) (fun  u36 H34 ou36 nn37  le35 => ?_)
    have au9Xu36 : Apart u9 u36 := ou9.apart nn37
    have au10Xu36 : Apart u10 u36 := ou10.apart nn37
    have aqXu36 : Apart q u36 := oq.apart nn37
    have au22Xu36 : Apart u22 u36 := ou22.apart nn37
    have au29Xu36 : Apart u29 u36 := ou29.apart nn37
    have nu36 : Nw H u36 := nn37.le lE
    replace ou9 := ou9.le le35
    replace ou10 := ou10.le le35
    replace oq := oq.le le35
    replace ou22 := ou22.le le35
    replace ou29 := ou29.le le35
    replace hvy := hvy.le le35
    replace hvm := hvm.le le35
    replace lE := lE.trans le35
    have hf38 : farP st 1 (wgL st lt) lg (tm) := ⟨hrt, rr, by omega, has, by omega, by omega⟩
    replace ou36 : Own eI H34 u36 (itL st 1 (wgL st lt) lg (tm : Int).toNat) := Own.cast ((selL_t hf38).trans (far_run hf38)) ou36
    refine ob_i (vExt_20 _ _) ?_
    refine ob_i (vExt_21 _ _) ?_
    refine ob_i (oq.ldn rfl) ?_
    refine C.spec_RunRing ou9.sl ou29.sl (by first | omega | assumption) (by exact rr) (by first | omega | assumption) (by first | omega | assumption) (fun  u41 H39 ou41 nn42  le40 => ?_)
    have au9Xu41 : Apart u9 u41 := ou9.apart nn42
    have au10Xu41 : Apart u10 u41 := ou10.apart nn42
    have aqXu41 : Apart q u41 := oq.apart nn42
    have au22Xu41 : Apart u22 u41 := ou22.apart nn42
    have au29Xu41 : Apart u29 u41 := ou29.apart nn42
    have au36Xu41 : Apart u36 u41 := ou36.apart nn42
    have nu41 : Nw H u41 := nn42.le lE
    replace ou9 := ou9.le le40
    replace ou10 := ou10.le le40
    replace oq := oq.le le40
    replace ou22 := ou22.le le40
    replace ou29 := ou29.le le40
    replace ou36 := ou36.le le40
    replace hvy := hvy.le le40
    replace hvm := hvm.le le40
    replace lE := lE.trans le40
    refine ob_i (vExt_20 _ _) ?_
    refine ob_i (vExt_21 _ _) ?_
    refine ob_i (oq.ldn rfl) ?_
    refine C.impl_AddingPeriod ou9.sl (by first | omega | assumption) (by exact has) (by first | omega | assumption) (by first | omega | assumption) (by first | omega | assumption) (by first | omega | assumption) (fun hc43  H44    le45 => ?_) (fun hc46  H47    le48 => ?_)
    · skip
      have hpp := hc43
      have pn := per_nums hc43
      have pn1 := pn.1
      have pn2 := pn.2.1
      have pn3 := pn.2.2.1
      replace ou9 := ou9.le le45
      replace ou10 := ou10.le le45
      replace oq := oq.le le45
      replace ou22 := ou22.le le45
      replace ou29 := ou29.le le45
      replace ou36 := ou36.le le45
      replace ou41 := ou41.le le45
      replace hvy := hvy.le le45
      replace hvm := hvm.le le45
      replace lE := lE.trans le45
      refine ob_i (vExt_30 _ _ _) ?_
      refine ob_i (vExt_31 _ _ _) ?_
      refine ob_i (vExt_32 _ _ _) ?_
      refine ob_i (oq.ldn rfl) ?_
      refine C.spec_AddingPeriod ou9.sl (by first | omega | assumption) (by exact has) (by first | omega | assumption) (by first | omega | assumption) (by first | omega | assumption) (by first | omega | assumption) (fun hc49  H50    le51 => ?_) (fun hc52  H53    le54 => ?_)
      · skip
        have hpp := hc49
        have pn := per_nums hc49
        have pn1 := pn.1
        have pn2 := pn.2.1
        have pn3 := pn.2.2.1
        replace ou9 := ou9.le le51
        replace ou10 := ou10.le le51
        replace oq := oq.le le51
        replace ou22 := ou22.le le51
        replace ou29 := ou29.le le51
        replace ou36 := ou36.le le51
        replace ou41 := ou41.le le51
        replace hvy := hvy.le le51
        replace hvm := hvm.le le51
        replace lE := lE.trans le51
        refine ob_i (vExt_30 _ _ _) ?_
        refine ob_i (vExt_31 _ _ _) ?_
        refine ob_i (vExt_32 _ _ _) ?_
        refine ob_i (a := .bool false) rfl ?_
        refine gop_rf ?_
        refine gop_rf ?_
        refine ob_nd (fun hc55 => ?_) (fun hc55 => ?_)
        · skip
          refine ob_i (vPick_f _ _) ?_
          refine gop_rf ?_
          refine gop_rf ?_
          refine ob_i (a := .bool false) rfl ?_
          refine ob_i (vPick_f _ _) ?_
          refine gop_rf ?_
          refine gop_rf ?_
          refine gop_rf ?_
          refine C.laws_b10Ints ou22.sl ou10.sl (by first | omega | (rw [itL_len]; omega) | (rw [hterm]; omega)) (fun   H56    le57 => ?_)
          replace ou9 := ou9.le le57
          replace ou10 := ou10.le le57
          replace oq := oq.le le57
          replace ou22 := ou22.le le57
          replace ou29 := ou29.le le57
          replace ou36 := ou36.le le57
          replace ou41 := ou41.le le57
          replace hvy := hvy.le le57
          replace hvm := hvm.le le57
          replace lE := lE.trans le57
          refine gop_rf ?_
          refine ob_nd (fun hc58 => ?_) (fun hc58 => ?_)
          · skip
            refine ob_i (vPick_f _ _) ?_
            refine gop_rf ?_
            refine gop_rf ?_
            refine ob_nd (fun hc59 => ?_) (fun hc59 => ?_)
            · skip
              refine ob_i (vPick_f _ _) ?_
              refine gop_rf ?_
              refine gop_rf ?_
              refine ob_i (a := .bool false) rfl ?_
              refine ob_i (vPick_f _ _) ?_
              refine gop_rf ?_
              refine gop_rf ?_
              refine gop_rf ?_
              refine C.laws_b10Ints ou36.sl ou41.sl (by first | omega | (rw [itL_len]; omega) | (rw [hterm]; omega)) (fun   H60    le61 => ?_)
              replace ou9 := ou9.le le61
              replace ou10 := ou10.le le61
              replace oq := oq.le le61
              replace ou22 := ou22.le le61
              replace ou29 := ou29.le le61
              replace ou36 := ou36.le le61
              replace ou41 := ou41.le le61
              replace hvy := hvy.le le61
              replace hvm := hvm.le le61
              replace lE := lE.trans le61
              refine gop_rf ?_
              refine ob_nd (fun hc62 => ?_) (fun hc62 => ?_)
              · skip
                refine ob_i (vPick_f _ _) ?_
                refine gop_rf ?_
                refine gop_rf ?_
                refine gop_rf ?_
                refine ob_i (vBool_neq_same _) ?_
                refine ob_i (vPick_f _ _) ?_
                refine gop_rf ?_
                refine gop_rf ?_
                refine gop_rt ?_
                refine gop_rt ?_
                refine gop_rt ?_
                refine ob_i (vInt_neq _ _ _) ?_
                refine gop_rt ?_
                by_cases hc63 : (beL (sqG st 1 (wgL st lt) n) (512 : Int).toNat) ≠ (beL (sqG st 1 (wgL st lt) n) (512 : Int).toNat)
                · skip
                  refine gop_e (decide_eq_true hc63) ?_
                  refine gop_st ?_
                  refine gop_e (decide_eq_true hc63) ?_
                  refine gop_st ?_
                  refine gop_e (decide_eq_true hc63) ?_
                  refine gop_st ?_
                  refine gop_rt ?_
                  refine ob_i (vPick_et (decide_eq_true hc63) _ _) ?_
                  refine gop_rt ?_
                  refine gop_st ?_
                  refine gop_st ?_
                  refine gop_rt ?_
                  refine ob_i (vPick_t _ _) ?_
                  refine gop_rt ?_
                  refine gop_st ?_
                  refine gop_st ?_
                  refine gop_rt ?_
                  refine ob_i (vPick_t _ _) ?_
                  refine gop_rf ?_
                  refine ob_i (vPick_t _ _) ?_
                  refine ob_i (vPick_f _ _) ?_
                  refine cnd_t1 ?_
                  exfalso
                  omega
                · skip
                  refine gop_e (decide_eq_false hc63) ?_
                  refine gop_rf ?_
                  refine gop_e (decide_eq_false hc63) ?_
                  refine gop_rf ?_
                  refine gop_e (decide_eq_false hc63) ?_
                  refine gop_rf ?_
                  refine ob_i (vInt_neq _ _ _) ?_
                  refine gop_rt ?_
                  refine ob_i (vPick_ef (decide_eq_false hc63) _ _) ?_
                  refine gop_rt ?_
                  by_cases hc64 : (perL (sqG st 1 (wgL st lt) n) (512 : Int).toNat) ≠ (perL (sqG st 1 (wgL st lt) n) (512 : Int).toNat)
                  · skip
                    refine gop_e (decide_eq_true hc64) ?_
                    refine gop_st ?_
                    refine gop_e (decide_eq_true hc64) ?_
                    refine gop_st ?_
                    refine gop_rt ?_
                    refine ob_i (vPick_et (decide_eq_true hc64) _ _) ?_
                    refine gop_rt ?_
                    refine gop_st ?_
                    refine gop_st ?_
                    refine gop_rt ?_
                    refine ob_i (vPick_t _ _) ?_
                    refine gop_rf ?_
                    refine ob_i (vPick_t _ _) ?_
                    refine ob_i (vPick_f _ _) ?_
                    refine cnd_t1 ?_
                    exfalso
                    omega
                  · skip
                    refine gop_e (decide_eq_false hc64) ?_
                    refine gop_rf ?_
                    refine gop_e (decide_eq_false hc64) ?_
                    refine gop_rf ?_
                    refine ob_i (vInt_lss _ _ _) ?_
                    refine gop_rt ?_
                    refine ob_i (vPick_ef (decide_eq_false hc64) _ _) ?_
                    refine gop_rt ?_
                    by_cases hc65 : (perL (sqG st 1 (wgL st lt) n) (512 : Int).toNat) < 1
                    · skip
                      refine gop_e (decide_eq_true hc65) ?_
                      refine gop_st ?_
                      refine gop_e (decide_eq_true hc65) ?_
                      refine gop_st ?_
                      refine gop_rt ?_
                      refine ob_i (vPick_et (decide_eq_true hc65) _ _) ?_
                      refine gop_rf ?_
                      refine ob_i (vPick_t _ _) ?_
                      refine ob_i (vPick_f _ _) ?_
                      refine cnd_t1 ?_
                      exfalso
                      omega
                    · skip
                      refine gop_e (decide_eq_false hc65) ?_
                      refine gop_rf ?_
                      refine gop_e (decide_eq_false hc65) ?_
                      refine gop_rf ?_
                      refine ob_i (vInt_lss _ _ _) ?_
                      refine gop_rt ?_
                      refine ob_i (vPick_ef (decide_eq_false hc65) _ _) ?_
                      refine gop_rf ?_
                      refine ob_i (vPick_t _ _) ?_
                      refine ob_i (vPick_f _ _) ?_
                      refine cnd_d (fun hg66 => ?_) (fun hg66 => ?_)
                      · skip
                        exfalso
                        omega
                      · skip
                        refine jn_i (fun σ' H' => σ' 6 = q ∧ Own eI H' u9 (wgL st lt) ∧ Own eI H' u10 (lt) ∧ Cel H' q [(.int .i64 (st)), (.int .i64 (1)), u9] ∧ Own eI H' u22 (tmL st 1 (wgL st lt)) ∧ Own eI H' u29 (lg) ∧ Own eI H' u36 (itL st 1 (wgL st lt) lg (tm : Int).toNat) ∧ Own eI H' u41 (itL st 1 (wgL st lt) lg tm.toNat) ∧ Le H H' ∧ True) (fun σ67 H67 hP => ?_) (fun J67 hJ67 => ?_)
                        · skip
                          obtain ⟨g6L67, ou9, ou10, oq, ou22, ou29, ou36, ou41, lE, ho0⟩ := hP
                          have hvy := hvy0.le lE
                          have hvm := hvm0.le lE
                          try simp only [g6L67]
                          refine ob_i (oq.fa 2) ?_
                          refine ob_i (oq.ld 2 rfl) ?_
                          refine ob_i (ou9.sl.ix (by omega) (by omega)) ?_
                          refine ou9.st (x := 1) (by omega) (by omega) rfl rfl (fun H68 ou9 off69 => ?_)
                          replace ou10 := ou10.off off69 au9Xu10.symm
                          replace oq := oq.off off69 au9Xq.symm
                          replace ou22 := ou22.off off69 au9Xu22.symm
                          replace ou29 := ou29.off off69 au9Xu29.symm
                          replace ou36 := ou36.off off69 au9Xu36.symm
                          replace ou41 := ou41.off off69 au9Xu41.symm
                          replace hvy := hvy0.le (off69.le lE nu9)
                          replace hvm := hvm0.le (off69.le lE nu9)
                          replace lE := off69.le lE nu9
                          refine ob_i (oq.ldn rfl) ?_
                          refine C.impl_IsAdding ou9.sl (by first | exact hrt | exact rule_set hrt) (fun   H70    le71 => ?_)
                          replace ou9 := ou9.le le71
                          replace ou10 := ou10.le le71
                          replace oq := oq.le le71
                          replace ou22 := ou22.le le71
                          replace ou29 := ou29.le le71
                          replace ou36 := ou36.le le71
                          replace ou41 := ou41.le le71
                          replace hvy := hvy.le le71
                          replace hvm := hvm.le le71
                          replace lE := lE.trans le71
                          refine ob_i (vExt_20 _ _) ?_
                          refine ob_i (vExt_21 _ _) ?_
                          refine gop_rt ?_
                          refine gop_rt ?_
                          refine ob_nd (fun hc72 => ?_) (fun hc72 => ?_)
                          · skip
                            refine ob_i (vPick_t _ _) ?_
                            exfalso
                            exact not_add_set hrt hc72
                          · skip
                            refine ob_i (vPick_t _ _) ?_
                            skip
                            exact hk   _    lE
                        refine cnd_t1 ?_
                        refine ob_i (oq.ldn rfl) ?_
                        refine ob_i (vInt_mul (by omega) (by omega)) ?_
                        refine ob_i (vInt_add (by omega) (by omega)) ?_
                        refine C.impl_FarAhead ou9.sl ou29.sl (by first | omega | assumption) (by first | omega | assumption) (fun  u75 H73 ou75 nn76  le74 => ?_)
                        have au9Xu75 : Apart u9 u75 := ou9.apart nn76
                        have au10Xu75 : Apart u10 u75 := ou10.apart nn76
                        have aqXu75 : Apart q u75 := oq.apart nn76
                        have au22Xu75 : Apart u22 u75 := ou22.apart nn76
                        have au29Xu75 : Apart u29 u75 := ou29.apart nn76
                        have au36Xu75 : Apart u36 u75 := ou36.apart nn76
                        have au41Xu75 : Apart u41 u75 := ou41.apart nn76
                        have nu75 : Nw H u75 := nn76.le lE
                        replace ou9 := ou9.le le74
                        replace ou10 := ou10.le le74
                        replace oq := oq.le le74
                        replace ou22 := ou22.le le74
                        replace ou29 := ou29.le le74
                        replace ou36 := ou36.le le74
                        replace ou41 := ou41.le le74
                        replace hvy := hvy.le le74
                        replace hvm := hvm.le le74
                        replace lE := lE.trans le74
                        have hf77 : farP st 1 (wgL st lt) lg ((beL (sqG st 1 (wgL st lt) n) (512 : Int).toNat) + (1000000 * (perL (sqG st 1 (wgL st lt) n) (512 : Int).toNat))) := ⟨hrt, rr, by omega, has, by omega, by omega⟩
                        replace ou75 : Own eI H73 u75 (itL st 1 (wgL st lt) lg ((beL (sqG st 1 (wgL st lt) n) (512 : Int).toNat) + (1000000 * (perL (sqG st 1 (wgL st lt) n) (512 : Int).toNat)) : Int).toNat) := Own.cast ((selL_t hf77).trans (far_run hf77)) ou75
                        refine ob_i (vExt_20 _ _) ?_
                        refine ob_i (vExt_21 _ _) ?_
                        refine ob_i (oq.ldn rfl) ?_
                        refine C.impl_FarAhead ou9.sl ou29.sl (by first | omega | assumption) (by first | omega | assumption) (fun  u80 H78 ou80 nn81  le79 => ?_)
                        have au9Xu80 : Apart u9 u80 := ou9.apart nn81
                        have au10Xu80 : Apart u10 u80 := ou10.apart nn81
                        have aqXu80 : Apart q u80 := oq.apart nn81
                        have au22Xu80 : Apart u22 u80 := ou22.apart nn81
                        have au29Xu80 : Apart u29 u80 := ou29.apart nn81
                        have au36Xu80 : Apart u36 u80 := ou36.apart nn81
                        have au41Xu80 : Apart u41 u80 := ou41.apart nn81
                        have au75Xu80 : Apart u75 u80 := ou75.apart nn81
                        have nu80 : Nw H u80 := nn81.le lE
                        replace ou9 := ou9.le le79
                        replace ou10 := ou10.le le79
                        replace oq := oq.le le79
                        replace ou22 := ou22.le le79
                        replace ou29 := ou29.le le79
                        replace ou36 := ou36.le le79
                        replace ou41 := ou41.le le79
                        replace ou75 := ou75.le le79
                        replace hvy := hvy.le le79
                        replace hvm := hvm.le le79
                        replace lE := lE.trans le79
                        have hf82 : farP st 1 (wgL st lt) lg (beL (sqG st 1 (wgL st lt) n) (512 : Int).toNat) := ⟨hrt, rr, by omega, has, by omega, by omega⟩
                        replace ou80 : Own eI H78 u80 (itL st 1 (wgL st lt) lg (beL (sqG st 1 (wgL st lt) n) (512 : Int).toNat : Int).toNat) := Own.cast ((selL_t hf82).trans (far_run hf82)) ou80
                        refine ob_i (vExt_20 _ _) ?_
                        refine ob_i (vExt_21 _ _) ?_
                        refine ob_nd (fun hc83 => ?_) (fun hc83 => ?_)
                        · skip
                          refine gop_rf ?_
                          refine gop_rf ?_
                          refine ob_nd (fun hc84 => ?_) (fun hc84 => ?_)
                          · skip
                            refine ob_i (vPick_f _ _) ?_
                            refine gop_rf ?_
                            refine gop_rf ?_
                            refine gop_rf ?_
                            refine C.laws_b10Ints ou75.sl ou80.sl (by first | omega | (rw [itL_len]; omega) | (rw [hterm]; omega)) (fun   H85    le86 => ?_)
                            replace ou9 := ou9.le le86
                            replace ou10 := ou10.le le86
                            replace oq := oq.le le86
                            replace ou22 := ou22.le le86
                            replace ou29 := ou29.le le86
                            replace ou36 := ou36.le le86
                            replace ou41 := ou41.le le86
                            replace ou75 := ou75.le le86
                            replace ou80 := ou80.le le86
                            replace hvy := hvy.le le86
                            replace hvm := hvm.le le86
                            replace lE := lE.trans le86
                            refine gop_rf ?_
                            refine ob_nd (fun hc87 => ?_) (fun hc87 => ?_)
                            · skip
                              refine ob_i (vPick_f _ _) ?_
                              refine cnd_f1 ?_
                              exact hJ67 _ _ ⟨rfl, ou9, ou10, oq, ou22, ou29, ou36, ou41, lE, trivial⟩
                            · skip
                              refine ob_i (vPick_f _ _) ?_
                              refine cnd_t1 ?_
                              exfalso
                              exact hc87 (far_again hrt has rr er (by assumption))
                          · skip
                            refine ob_i (vPick_f _ _) ?_
                            refine gop_st ?_
                            refine gop_st ?_
                            refine gop_st ?_
                            refine gop_st ?_
                            refine ob_i (vPick_t _ _) ?_
                            refine cnd_t1 ?_
                            exfalso
                            first | exact hc84 hf82 | exact hc84 hf77 | exact hc84 hf38
                        · skip
                          refine gop_st ?_
                          refine gop_st ?_
                          refine ob_i (vPick_t _ _) ?_
                          refine gop_st ?_
                          refine gop_st ?_
                          refine gop_st ?_
                          refine gop_st ?_
                          refine ob_i (vPick_t _ _) ?_
                          refine cnd_t1 ?_
                          exfalso
                          first | exact hc83 hf82 | exact hc83 hf77 | exact hc83 hf38
              · skip
                refine ob_i (vPick_f _ _) ?_
                refine gop_st ?_
                refine gop_st ?_
                refine gop_st ?_
                refine ob_i (vPick_t _ _) ?_
                refine gop_st ?_
                refine gop_st ?_
                refine gop_u ?_
                refine gop_u ?_
                refine gop_u ?_
                refine gop_u ?_
                refine gop_u ?_
                refine gop_u ?_
                refine gop_u ?_
                refine gop_u ?_
                refine gop_u ?_
                refine gop_u ?_
                refine gop_u ?_
                refine gop_u ?_
                refine gop_u ?_
                refine gop_u ?_
                refine gop_u ?_
                refine gop_u ?_
                refine gop_st ?_
                refine ob_i (vPick_t _ _) ?_
                refine cnd_t1 ?_
                exfalso
                exact hc62 rfl
            · skip
              refine ob_i (vPick_f _ _) ?_
              refine gop_st ?_
              refine gop_st ?_
              refine ob_i (vPick_t _ _) ?_
              refine gop_st ?_
              refine gop_st ?_
              refine gop_st ?_
              refine gop_st ?_
              refine ob_i (vPick_t _ _) ?_
              refine gop_st ?_
              refine gop_st ?_
              refine gop_st ?_
              refine ob_i (vPick_t _ _) ?_
              refine gop_st ?_
              refine gop_st ?_
              refine gop_u ?_
              refine gop_u ?_
              refine gop_u ?_
              refine gop_u ?_
              refine gop_u ?_
              refine gop_u ?_
              refine gop_u ?_
              refine gop_u ?_
              refine gop_u ?_
              refine gop_u ?_
              refine gop_u ?_
              refine gop_u ?_
              refine gop_u ?_
              refine gop_u ?_
              refine gop_u ?_
              refine gop_u ?_
              refine gop_st ?_
              refine ob_i (vPick_t _ _) ?_
              refine cnd_t1 ?_
              exfalso
              first | exact hc59 hf82 | exact hc59 hf77 | exact hc59 hf38
          · skip
            refine ob_i (vPick_f _ _) ?_
            refine gop_st ?_
            refine gop_st ?_
            refine ob_i (vPick_t _ _) ?_
            refine gop_st ?_
            refine gop_st ?_
            refine ob_i (vPick_t _ _) ?_
            refine gop_st ?_
            refine gop_st ?_
            refine gop_st ?_
            refine gop_st ?_
            refine ob_i (vPick_t _ _) ?_
            refine gop_st ?_
            refine gop_st ?_
            refine gop_st ?_
            refine ob_i (vPick_t _ _) ?_
            refine gop_st ?_
            refine gop_st ?_
            refine gop_u ?_
            refine gop_u ?_
            refine gop_u ?_
            refine gop_u ?_
            refine gop_u ?_
            refine gop_u ?_
            refine gop_u ?_
            refine gop_u ?_
            refine gop_u ?_
            refine gop_u ?_
            refine gop_u ?_
            refine gop_u ?_
            refine gop_u ?_
            refine gop_u ?_
            refine gop_u ?_
            refine gop_u ?_
            refine gop_st ?_
            refine ob_i (vPick_t _ _) ?_
            refine cnd_t1 ?_
            exfalso
            exact hc58 hterm
        · skip
          refine ob_i (vPick_f _ _) ?_
          refine gop_st ?_
          refine gop_st ?_
          refine ob_i (vPick_t _ _) ?_
          refine gop_st ?_
          refine gop_st ?_
          refine gop_st ?_
          refine gop_st ?_
          refine ob_i (vPick_t _ _) ?_
          refine gop_st ?_
          refine gop_st ?_
          refine ob_i (vPick_t _ _) ?_
          refine gop_st ?_
          refine gop_st ?_
          refine ob_i (vPick_t _ _) ?_
          refine gop_st ?_
          refine gop_st ?_
          refine gop_st ?_
          refine gop_st ?_
          refine ob_i (vPick_t _ _) ?_
          refine gop_st ?_
          refine gop_st ?_
          refine gop_st ?_
          refine ob_i (vPick_t _ _) ?_
          refine gop_st ?_
          refine gop_st ?_
          refine gop_u ?_
          refine gop_u ?_
          refine gop_u ?_
          refine gop_u ?_
          refine gop_u ?_
          refine gop_u ?_
          refine gop_u ?_
          refine gop_u ?_
          refine gop_u ?_
          refine gop_u ?_
          refine gop_u ?_
          refine gop_u ?_
          refine gop_u ?_
          refine gop_u ?_
          refine gop_u ?_
          refine gop_u ?_
          refine gop_st ?_
          refine ob_i (vPick_t _ _) ?_
          refine cnd_t1 ?_
          exfalso
          exact hc55 has
      · skip
        exact absurd hc43 hc52
    · skip
      replace ou9 := ou9.le le48
      replace ou10 := ou10.le le48
      replace oq := oq.le le48
      replace ou22 := ou22.le le48
      replace ou29 := ou29.le le48
      replace ou36 := ou36.le le48
      replace ou41 := ou41.le le48
      replace hvy := hvy.le le48
      replace hvm := hvm.le le48
      replace lE := lE.trans le48
      refine ob_i (vExt_30 _ _ _) ?_
      refine ob_i (vExt_31 _ _ _) ?_
      refine ob_i (vExt_32 _ _ _) ?_
      refine ob_i (oq.ldn rfl) ?_
      refine C.spec_AddingPeriod ou9.sl (by first | omega | assumption) (by exact has) (by first | omega | assumption) (by first | omega | assumption) (by first | omega | assumption) (by first | omega | assumption) (fun hc88  H89    le90 => ?_) (fun hc91  H92    le93 => ?_)
      · skip
        exact absurd hc88 hc46
      · skip
        replace ou9 := ou9.le le93
        replace ou10 := ou10.le le93
        replace oq := oq.le le93
        replace ou22 := ou22.le le93
        replace ou29 := ou29.le le93
        replace ou36 := ou36.le le93
        replace ou41 := ou41.le le93
        replace hvy := hvy.le le93
        replace hvm := hvm.le le93
        replace lE := lE.trans le93
        refine ob_i (vExt_30 _ _ _) ?_
        refine ob_i (vExt_31 _ _ _) ?_
        refine ob_i (vExt_32 _ _ _) ?_
        refine ob_i (a := .bool false) rfl ?_
        refine gop_rf ?_
        refine gop_rf ?_
        refine ob_nd (fun hc94 => ?_) (fun hc94 => ?_)
        · skip
          refine ob_i (vPick_f _ _) ?_
          refine gop_rf ?_
          refine gop_rf ?_
          refine ob_i (a := .bool false) rfl ?_
          refine ob_i (vPick_f _ _) ?_
          refine gop_rf ?_
          refine gop_rf ?_
          refine gop_rf ?_
          refine C.laws_b10Ints ou22.sl ou10.sl (by first | omega | (rw [itL_len]; omega) | (rw [hterm]; omega)) (fun   H95    le96 => ?_)
          replace ou9 := ou9.le le96
          replace ou10 := ou10.le le96
          replace oq := oq.le le96
          replace ou22 := ou22.le le96
          replace ou29 := ou29.le le96
          replace ou36 := ou36.le le96
          replace ou41 := ou41.le le96
          replace hvy := hvy.le le96
          replace hvm := hvm.le le96
          replace lE := lE.trans le96
          refine gop_rf ?_
          refine ob_nd (fun hc97 => ?_) (fun hc97 => ?_)
          · skip
            refine ob_i (vPick_f _ _) ?_
            refine gop_rf ?_
            refine gop_rf ?_
            refine ob_nd (fun hc98 => ?_) (fun hc98 => ?_)
            · skip
              refine ob_i (vPick_f _ _) ?_
              refine gop_rf ?_
              refine gop_rf ?_
              refine ob_i (a := .bool false) rfl ?_
              refine ob_i (vPick_f _ _) ?_
              refine gop_rf ?_
              refine gop_rf ?_
              refine gop_rf ?_
              refine C.laws_b10Ints ou36.sl ou41.sl (by first | omega | (rw [itL_len]; omega) | (rw [hterm]; omega)) (fun   H99    le100 => ?_)
              replace ou9 := ou9.le le100
              replace ou10 := ou10.le le100
              replace oq := oq.le le100
              replace ou22 := ou22.le le100
              replace ou29 := ou29.le le100
              replace ou36 := ou36.le le100
              replace ou41 := ou41.le le100
              replace hvy := hvy.le le100
              replace hvm := hvm.le le100
              replace lE := lE.trans le100
              refine gop_rf ?_
              refine ob_nd (fun hc101 => ?_) (fun hc101 => ?_)
              · skip
                refine ob_i (vPick_f _ _) ?_
                refine gop_rf ?_
                refine gop_rf ?_
                refine gop_rf ?_
                refine ob_i (vBool_neq_same _) ?_
                refine ob_i (vPick_f _ _) ?_
                refine gop_rf ?_
                refine gop_rf ?_
                refine gop_sf ?_
                refine gop_sf ?_
                refine gop_sf ?_
                refine gop_sf ?_
                refine gop_u ?_
                refine gop_u ?_
                refine gop_u ?_
                refine gop_sf ?_
                refine gop_sf ?_
                refine gop_u ?_
                refine gop_u ?_
                refine gop_sf ?_
                refine gop_sf ?_
                refine gop_u ?_
                refine gop_u ?_
                refine gop_sf ?_
                refine gop_rf ?_
                refine ob_i (vPick_f _ _) ?_
                refine ob_i (vPick_f _ _) ?_
                refine cnd_f1 ?_
                refine jn_i (fun σ' H' => σ' 6 = q ∧ Own eI H' u9 (wgL st lt) ∧ Own eI H' u10 (lt) ∧ Cel H' q [(.int .i64 (st)), (.int .i64 (1)), u9] ∧ Own eI H' u22 (tmL st 1 (wgL st lt)) ∧ Own eI H' u29 (lg) ∧ Own eI H' u36 (itL st 1 (wgL st lt) lg (tm : Int).toNat) ∧ Own eI H' u41 (itL st 1 (wgL st lt) lg tm.toNat) ∧ Le H H' ∧ True) (fun σ102 H102 hP => ?_) (fun J102 hJ102 => ?_)
                · skip
                  obtain ⟨g6L102, ou9, ou10, oq, ou22, ou29, ou36, ou41, lE, ho0⟩ := hP
                  have hvy := hvy0.le lE
                  have hvm := hvm0.le lE
                  try simp only [g6L102]
                  refine ob_i (oq.fa 2) ?_
                  refine ob_i (oq.ld 2 rfl) ?_
                  refine ob_i (ou9.sl.ix (by omega) (by omega)) ?_
                  refine ou9.st (x := 1) (by omega) (by omega) rfl rfl (fun H103 ou9 off104 => ?_)
                  replace ou10 := ou10.off off104 au9Xu10.symm
                  replace oq := oq.off off104 au9Xq.symm
                  replace ou22 := ou22.off off104 au9Xu22.symm
                  replace ou29 := ou29.off off104 au9Xu29.symm
                  replace ou36 := ou36.off off104 au9Xu36.symm
                  replace ou41 := ou41.off off104 au9Xu41.symm
                  replace hvy := hvy0.le (off104.le lE nu9)
                  replace hvm := hvm0.le (off104.le lE nu9)
                  replace lE := off104.le lE nu9
                  refine ob_i (oq.ldn rfl) ?_
                  refine C.impl_IsAdding ou9.sl (by first | exact hrt | exact rule_set hrt) (fun   H105    le106 => ?_)
                  replace ou9 := ou9.le le106
                  replace ou10 := ou10.le le106
                  replace oq := oq.le le106
                  replace ou22 := ou22.le le106
                  replace ou29 := ou29.le le106
                  replace ou36 := ou36.le le106
                  replace ou41 := ou41.le le106
                  replace hvy := hvy.le le106
                  replace hvm := hvm.le le106
                  replace lE := lE.trans le106
                  refine ob_i (vExt_20 _ _) ?_
                  refine ob_i (vExt_21 _ _) ?_
                  refine gop_rt ?_
                  refine gop_rt ?_
                  refine ob_nd (fun hc107 => ?_) (fun hc107 => ?_)
                  · skip
                    refine ob_i (vPick_t _ _) ?_
                    exfalso
                    exact not_add_set hrt hc107
                  · skip
                    refine ob_i (vPick_t _ _) ?_
                    skip
                    exact hk   _    lE
                refine cnd_f1 ?_
                exact hJ102 _ _ ⟨rfl, ou9, ou10, oq, ou22, ou29, ou36, ou41, lE, trivial⟩
              · skip
                refine ob_i (vPick_f _ _) ?_
                refine gop_st ?_
                refine gop_st ?_
                refine gop_st ?_
                refine ob_i (vPick_t _ _) ?_
                refine gop_st ?_
                refine gop_st ?_
                refine gop_u ?_
                refine gop_u ?_
                refine gop_u ?_
                refine gop_u ?_
                refine gop_u ?_
                refine gop_u ?_
                refine gop_u ?_
                refine gop_u ?_
                refine gop_u ?_
                refine gop_u ?_
                refine gop_u ?_
                refine gop_u ?_
                refine gop_u ?_
                refine gop_u ?_
                refine gop_u ?_
                refine gop_u ?_
                refine gop_st ?_
                refine ob_i (vPick_t _ _) ?_
                refine cnd_t1 ?_
                exfalso
                exact hc101 rfl
            · skip
              refine ob_i (vPick_f _ _) ?_
              refine gop_st ?_
              refine gop_st ?_
              refine ob_i (vPick_t _ _) ?_
              refine gop_st ?_
              refine gop_st ?_
              refine gop_st ?_
              refine gop_st ?_
              refine ob_i (vPick_t _ _) ?_
              refine gop_st ?_
              refine gop_st ?_
              refine gop_st ?_
              refine ob_i (vPick_t _ _) ?_
              refine gop_st ?_
              refine gop_st ?_
              refine gop_u ?_
              refine gop_u ?_
              refine gop_u ?_
              refine gop_u ?_
              refine gop_u ?_
              refine gop_u ?_
              refine gop_u ?_
              refine gop_u ?_
              refine gop_u ?_
              refine gop_u ?_
              refine gop_u ?_
              refine gop_u ?_
              refine gop_u ?_
              refine gop_u ?_
              refine gop_u ?_
              refine gop_u ?_
              refine gop_st ?_
              refine ob_i (vPick_t _ _) ?_
              refine cnd_t1 ?_
              exfalso
              first | exact hc98 hf82 | exact hc98 hf77 | exact hc98 hf38
          · skip
            refine ob_i (vPick_f _ _) ?_
            refine gop_st ?_
            refine gop_st ?_
            refine ob_i (vPick_t _ _) ?_
            refine gop_st ?_
            refine gop_st ?_
            refine ob_i (vPick_t _ _) ?_
            refine gop_st ?_
            refine gop_st ?_
            refine gop_st ?_
            refine gop_st ?_
            refine ob_i (vPick_t _ _) ?_
            refine gop_st ?_
            refine gop_st ?_
            refine gop_st ?_
            refine ob_i (vPick_t _ _) ?_
            refine gop_st ?_
            refine gop_st ?_
            refine gop_u ?_
            refine gop_u ?_
            refine gop_u ?_
            refine gop_u ?_
            refine gop_u ?_
            refine gop_u ?_
            refine gop_u ?_
            refine gop_u ?_
            refine gop_u ?_
            refine gop_u ?_
            refine gop_u ?_
            refine gop_u ?_
            refine gop_u ?_
            refine gop_u ?_
            refine gop_u ?_
            refine gop_u ?_
            refine gop_st ?_
            refine ob_i (vPick_t _ _) ?_
            refine cnd_t1 ?_
            exfalso
            exact hc97 hterm
        · skip
          refine ob_i (vPick_f _ _) ?_
          refine gop_st ?_
          refine gop_st ?_
          refine ob_i (vPick_t _ _) ?_
          refine gop_st ?_
          refine gop_st ?_
          refine gop_st ?_
          refine gop_st ?_
          refine ob_i (vPick_t _ _) ?_
          refine gop_st ?_
          refine gop_st ?_
          refine ob_i (vPick_t _ _) ?_
          refine gop_st ?_
          refine gop_st ?_
          refine ob_i (vPick_t _ _) ?_
          refine gop_st ?_
          refine gop_st ?_
          refine gop_st ?_
          refine gop_st ?_
          refine ob_i (vPick_t _ _) ?_
          refine gop_st ?_
          refine gop_st ?_
          refine gop_st ?_
          refine ob_i (vPick_t _ _) ?_
          refine gop_st ?_
          refine gop_st ?_
          refine gop_u ?_
          refine gop_u ?_
          refine gop_u ?_
          refine gop_u ?_
          refine gop_u ?_
          refine gop_u ?_
          refine gop_u ?_
          refine gop_u ?_
          refine gop_u ?_
          refine gop_u ?_
          refine gop_u ?_
          refine gop_u ?_
          refine gop_u ?_
          refine gop_u ?_
          refine gop_u ?_
          refine gop_u ?_
          refine gop_st ?_
          refine ob_i (vPick_t _ _) ?_
          refine cnd_t1 ?_
          exfalso
          exact hc94 has
theorem L.FnAdding {vy vm : Value} {l m : List Int} {H : Hp} {K : Value → Hp → Prop} (h0 : Sl eU H vy l) (h1 : Sl eU H vm m) (l0 : l.length ≤ 9223372036854775807) (l1 : m.length ≤ 9223372036854775807) (b0 : bytP l) (b1 : bytP m) (hk : ∀ H', Le H H' → K (.bool true) H') : HT prg I.laws_FnAdding [vy, vm].toArray H K :=
  C.laws_FnAdding h0 h1 b0 l0 b1 l1 hk
end Go.Proofs.Ytelcmohhjkgjoaa
