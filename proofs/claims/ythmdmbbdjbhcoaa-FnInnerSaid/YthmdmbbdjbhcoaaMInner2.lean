/- Several texts in one. -/
import Derived.Test.YthmdmbbdjbhcoaaMInner1
import Derived.Test.YthmdmbbdjbhcoaaMInner0
import Derived.Test.YthmdmbbdjbhcoaaG0
import Derived.Below
import Derived.WalkKit
import Derived.ProofKit
set_option linter.unusedVariables false
/- Fields that are read back from their quarters, by plain law. -/
namespace Go.Proofs.Ythmdmbbdjbhcoaa
open HL
variable {t l f t' : List Int} {n c : Int} {j e : Nat}
set_option maxRecDepth 100000
/-- The entry of a chunk. -/
def entT (t : List Int) (j : Nat) (q : Int) : Int := at_ 0 t (4 * (j : Int) + q)
def lvP (P : List (Nat × List Int)) (n : Int) : Nat := (P.getD n.toNat (0, [])).1
def clP (P : List (Nat × List Int)) (n : Int) : List Int := (P.getD n.toNat (0, [])).2
/-- The cells of a part that is made of four. -/
def makQ (P : List (Nat × List Int)) (t : List Int) (j : Nat) (h : Int) : Int → Int → Int := fun i k => at_ 0 (clP P (entT t j (i / h * 2 + k / h))) (i % h * h + k % h)
def mkP (P : List (Nat × List Int)) (t : List Int) (j : Nat) : Nat × List Int :=
  (lvP P (entT t j 0) + 1, mkL (szz (lvP P (entT t j 0) + 1)) (makQ P t j (szz (lvP P (entT t j 0)))) ((szz (lvP P (entT t j 0) + 1)).toNat * (szz (lvP P (entT t j 0) + 1)).toNat))
/-- The parts behind some chunks: levels, and cells. -/
def ptQ (t : List Int) : Nat → List (Nat × List Int)
  | 0 => [(0, [0]), (0, [1])]
  | j + 1 => ptQ t j ++ [mkP (ptQ t j) t j]
theorem ptQ_len (t : List Int) : ∀ j, (ptQ t j).length = j + 2
  | 0 => rfl
  | j + 1 => by simp [ptQ, ptQ_len t j]
theorem ptQ_get {t : List Int} {n j : Nat} (h : n < j + 2) : ∀ d, (ptQ t (j + d)).getD n (0, []) = (ptQ t j).getD n (0, [])
  | 0 => rfl
  | d + 1 => by
    show (ptQ t (j + d) ++ _).getD n (0, []) = _
    rw [← ptQ_get h d]
    simp only [List.getD_eq_getElem?_getD]
    rw [List.getElem?_append_left (by rw [ptQ_len]; omega)]
def lvT (t : List Int) (n : Int) : Nat := lvP (ptQ t n.toNat) n
def clT (t : List Int) (n : Int) : List Int := clP (ptQ t n.toNat) n
theorem lvP_T (h : n < (j : Int) + 2) : lvP (ptQ t j) n = lvT t n := by
  unfold lvT lvP
  rcases Nat.le_total j n.toNat with hh | hh
  · obtain ⟨d, hd⟩ := Nat.le.dest hh
    rw [show ptQ t n.toNat = ptQ t (j + d) by rw [hd], ptQ_get (by omega) d]
  · obtain ⟨d, hd⟩ := Nat.le.dest hh
    rw [show ptQ t j = ptQ t (n.toNat + d) by rw [hd], ptQ_get (by omega) d]
theorem clP_T (h : n < (j : Int) + 2) : clP (ptQ t j) n = clT t n := by
  unfold clT clP
  rcases Nat.le_total j n.toNat with hh | hh
  · obtain ⟨d, hd⟩ := Nat.le.dest hh
    rw [show ptQ t n.toNat = ptQ t (j + d) by rw [hd], ptQ_get (by omega) d]
  · obtain ⟨d, hd⟩ := Nat.le.dest hh
    rw [show ptQ t j = ptQ t (n.toNat + d) by rw [hd], ptQ_get (by omega) d]
theorem ptQ_new : (ptQ t (j + 1)).getD (j + 2) (0, []) = mkP (ptQ t j) t j := by
  show (ptQ t j ++ [_]).getD (j + 2) (0, []) = _
  simp only [List.getD_eq_getElem?_getD]
  rw [List.getElem?_append_right (by rw [ptQ_len]; omega), ptQ_len]
  simp
theorem lvT_new (h : entT t j 0 < (j : Int) + 2) : lvT t ((j : Int) + 2) = lvT t (entT t j 0) + 1 := by
  rw [← lvP_T (j := j + 1) (by omega)]
  unfold lvP
  rw [show ((j : Int) + 2).toNat = j + 2 by omega, ptQ_new]
  unfold mkP
  simp only
  rw [lvP_T h]
/-- The chunk is well made. -/
def okJ (t : List Int) (j : Nat) : Prop := ∀ q : Nat, q < 4 → (0 ≤ entT t j q ∧ entT t j q ≤ (j : Int) + 1) ∧ lvT t (entT t j q) = lvT t (entT t j 0) ∧ lvT t (entT t j q) ≤ 3
def okQ (t : List Int) : Prop := ∀ j : Nat, j < t.length / 4 → okJ t j
instance (t : List Int) (j : Nat) : Decidable (okJ t j) := by unfold okJ; infer_instance
instance (t : List Int) : Decidable (okQ t) := by unfold okQ; infer_instance
theorem szz_nat (e : Nat) : (szz e).toNat = 2 ^ e := by
  unfold szz
  rw [show (2 : Int) ^ e = ((2 ^ e : Nat) : Int) by simp]
  exact Int.toNat_natCast _
theorem szz_cast (e : Nat) : ((2 ^ e : Nat) : Int) = szz e := by simp [szz]
/-- The cells of a new part. -/
theorem clT_new (h : okJ t j) : clT t ((j : Int) + 2) = mkL (szz (lvT t (entT t j 0) + 1)) (fun i k => at_ 0 (clP (ptQ t j) (entT t j (i / szz (lvT t (entT t j 0)) * 2 + k / szz (lvT t (entT t j 0))))) (i % szz (lvT t (entT t j 0)) * szz (lvT t (entT t j 0)) + k % szz (lvT t (entT t j 0)))) ((szz (lvT t (entT t j 0) + 1)).toNat * (szz (lvT t (entT t j 0) + 1)).toNat) := by
  have h0 := (h 0 (by omega)).1.2
  rw [← clP_T (j := j + 1) (by omega)]
  unfold clP
  rw [show ((j : Int) + 2).toNat = j + 2 by omega, ptQ_new]
  unfold mkP makQ
  simp only
  rw [lvP_T (by simpa using (show entT t j ((0 : Nat) : Int) < (j : Int) + 2 by omega))]
  rfl
/-- Every part has as many cells as its level says. -/
theorem clT_lenN {t : List Int} : ∀ (N : Nat) (n : Int), (∀ i : Nat, i < N → okJ t i) → 0 ≤ n → n ≤ (N : Int) + 1 → (clT t n).length = 2 ^ lvT t n * 2 ^ lvT t n
  | 0, n, _, h0, h1 => by
    rcases show n = 0 ∨ n = 1 by omega with rfl | rfl <;> rfl
  | N + 1, n, ht, h0, h1 => by
    by_cases hn : n ≤ (N : Int) + 1
    · exact clT_lenN N n (fun i hi => ht i (by omega)) h0 hn
    · obtain rfl : n = (N : Int) + 2 := by omega
      have hj := ht N (by omega)
      rw [clT_new hj, mkL_length, szz_nat, lvT_new (by have := (hj 0 (by omega)).1.2; simp only [Int.natCast_zero] at this; omega)]
theorem clT_len (ht : okQ t) (N : Nat) (n : Int) (h0 : 0 ≤ n) (h1 : n ≤ (N : Int) + 1) (h2 : N ≤ t.length / 4) : (clT t n).length = 2 ^ lvT t n * 2 ^ lvT t n :=
  clT_lenN N n (fun i hi => ht i (by omega)) h0 h1
theorem at_bndG (h : ∀ x ∈ l, 0 ≤ x ∧ x ≤ 1) (i : Int) : 0 ≤ at_ 0 l i ∧ at_ 0 l i ≤ 1 := by
  unfold at_
  by_cases hi : i.toNat < l.length
  · have e : l.getD i.toNat 0 = l[i.toNat] := by simp [List.getD_eq_getElem?_getD, hi]
    rw [e]; exact h _ (List.getElem_mem hi)
  · have e : l.getD i.toNat 0 = 0 := by simp [List.getD_eq_getElem?_getD, List.getElem?_eq_none (show l.length ≤ i.toNat by omega)]
    rw [e]; omega
/-- Every part's cells are 0 or 1. -/
theorem div01 {z m : Int} (hz : 1 ≤ z) (h0 : 0 ≤ m) (h1 : m < z * 2) : m / z = 0 ∨ m / z = 1 := by
  have a := Int.ediv_nonneg h0 (show 0 ≤ z by omega)
  have b : m / z < 2 := Int.ediv_lt_of_lt_mul (by omega) (by rw [Int.mul_comm]; exact h1)
  omega
theorem at_clT01 {t : List Int} (ht : okQ t) : ∀ (N : Nat) (n x : Int), n ≤ (N : Int) + 1 → N ≤ t.length / 4 → 0 ≤ n → 0 ≤ at_ 0 (clT t n) x ∧ at_ 0 (clT t n) x ≤ 1
  | 0, n, x, h1, _, h0 => by
    rcases show n = 0 ∨ n = 1 by omega with rfl | rfl
    · exact at_bndG (show ∀ y ∈ [(0 : Int)], _ by simp) x
    · exact at_bndG (show ∀ y ∈ [(1 : Int)], _ by simp) x
  | N + 1, n, x, h1, h2, h0 => by
    by_cases hn : n ≤ (N : Int) + 1
    · exact at_clT01 ht N n x hn (by omega) h0
    · obtain rfl : n = (N : Int) + 2 := by omega
      have hj := ht N (by omega)
      rw [clT_new hj]
      refine at_bndG ?_ x
      intro y hy
      simp only [mkL, List.mem_map, List.mem_range] at hy
      obtain ⟨m, hm, rfl⟩ := hy
      have hz := szz_pos (lvT t (entT t N 0))
      have zz := szz_succ (lvT t (entT t N 0))
      generalize hs : szz (lvT t (entT t N 0)) = z at hz zz ⊢
      generalize hs2 : szz (lvT t (entT t N 0) + 1) = w at zz hm ⊢
      subst zz
      have e0 : (0 : Int) ≤ (m : Int) / (z * 2) := Int.ediv_nonneg (by omega) (by omega)
      have hzn : z.toNat * z.toNat * 4 = (z * 2).toNat * (z * 2).toNat := by
        rw [show (z * 2).toNat = z.toNat * 2 by omega]
        rw [Nat.mul_mul_mul_comm]
      have e1 : (m : Int) / (z * 2) < z * 2 := by
        apply Int.ediv_lt_of_lt_mul (by omega)
        have : ((m : Nat) : Int) < (((z * 2).toNat * (z * 2).toNat : Nat) : Int) := by exact_mod_cast hm
        rw [Int.natCast_mul, show (((z * 2).toNat : Nat) : Int) = z * 2 by omega] at this
        exact this
      have k0 : (0 : Int) ≤ (m : Int) % (z * 2) := Int.emod_nonneg _ (by omega)
      have k1 : (m : Int) % (z * 2) < z * 2 := Int.emod_lt_of_pos _ (by omega)
      have d0 := div01 hz e0 e1
      have d1 := div01 hz k0 k1
      have hq : ∃ q : Nat, q < 4 ∧ (m : Int) / (z * 2) / z * 2 + (m : Int) % (z * 2) / z = (q : Int) := ⟨((m : Int) / (z * 2) / z * 2 + (m : Int) % (z * 2) / z).toNat, by omega, by omega⟩
      obtain ⟨q, hq4, hq⟩ := hq
      rw [hq]
      have hb := (hj q hq4).1
      rw [clP_T (by omega)]
      exact at_clT01 ht N _ _ (by omega) (by omega) (by omega)
/-! What a tree that is told looks like. -/
theorem entT_app {q : Int} (h : j < t.length / 4) (q0 : 0 ≤ q) (q4 : q < 4) : entT (t ++ f) j q = entT t j q := by
  unfold entT at_
  simp only [List.getD_eq_getElem?_getD]
  rw [List.getElem?_append_left (by omega)]
theorem lvT_app {t f : List Int} (ht : okQ t) : ∀ (N : Nat) (n : Int), 0 ≤ n → n ≤ (N : Int) + 1 → N ≤ t.length / 4 → lvT (t ++ f) n = lvT t n
  | 0, n, h0, h1, _ => by
    rcases show n = 0 ∨ n = 1 by omega with rfl | rfl <;> rfl
  | N + 1, n, h0, h1, h2 => by
    by_cases hn : n ≤ (N : Int) + 1
    · exact lvT_app ht N n h0 hn (by omega)
    · obtain rfl : n = (N : Int) + 2 := by omega
      have hj := (ht N (by omega) 0 (by omega)).1
      simp only [Int.natCast_zero] at hj
      have e := entT_app (f := f) (show N < t.length / 4 by omega) (show (0 : Int) ≤ 0 by omega) (by omega)
      rw [lvT_new (t := t ++ f) (by rw [e]; omega), lvT_new (t := t) (by omega), e, lvT_app ht N _ (by omega) (by omega) (by omega)]
/-- What telling keeps. -/
structure GrwQ (t t' : List Int) : Prop where
  pre : ∃ s, t' = t ++ s
  len : t'.length % 4 = 0
  ok : okQ t'
theorem GrwQ.len_le (h : GrwQ t t') : t.length ≤ t'.length := by
  obtain ⟨s, rfl⟩ := h.pre; simp
theorem GrwQ.trans {u : List Int} (h : GrwQ t t') (g : GrwQ t' u) : GrwQ t u := ⟨by
  obtain ⟨s, rfl⟩ := h.pre; obtain ⟨s', rfl⟩ := g.pre; exact ⟨s ++ s', by simp⟩, g.len, g.ok⟩
def GoodN (t : List Int) (e : Nat) (n : Int) : Prop := 0 ≤ n ∧ n < (t.length : Int) / 4 + 2 ∧ lvT t n = e
theorem GoodN.grow (ht : okQ t) (h : GoodN t e n) (g : GrwQ t t') : GoodN t' e n := by
  have := g.len_le
  obtain ⟨s, rfl⟩ := g.pre
  exact ⟨h.1, by have := h.2.1; omega, by rw [lvT_app ht (t.length / 4) n h.1 (by have := h.2.1; omega) (by omega)]; exact h.2.2⟩
theorem fourQ_good {g : Int → Int → List Int → Int × List Int} {h i k : Int} {t : List Int} {e : Nat} (hg : ∀ i k t, t.length % 4 = 0 → okQ t → GrwQ t (g i k t).2 ∧ GoodN (g i k t).2 e (g i k t).1) (ht : t.length % 4 = 0) (hk : okQ t) : ∀ q, GrwQ t (fourQ g h i k t q).2 ∧ ∀ n ∈ (fourQ g h i k t q).1, GoodN (fourQ g h i k t q).2 e n
  | 0 => ⟨⟨⟨[], by simp [fourQ]⟩, ht, hk⟩, by simp [fourQ]⟩
  | q + 1 => by
    obtain ⟨h1, h2⟩ := fourQ_good (h := h) (i := i) (k := k) hg ht hk q
    obtain ⟨h3, h4⟩ := hg (i + (q : Int) / 2 * h) (k + (q : Int) % 2 * h) _ h1.len h1.ok
    refine ⟨h1.trans h3, fun n hn => ?_⟩
    simp only [fourQ, List.mem_append, List.mem_singleton] at hn
    rcases hn with hn | rfl
    · exact (h2 n hn).grow h1.ok h3
    · exact h4
theorem chQ_ent (h : chQ t j = f) {q : Nat} (hq : q < 4) : entT t j q = at_ 0 f q := by
  subst h
  unfold entT at_ chQ
  simp only [List.getD_eq_getElem?_getD]
  rw [show (4 * (j : Int) + (q : Int)).toNat = 4 * j + q by omega, show ((q : Int)).toNat = q by omega]
  rw [List.getElem?_take_of_lt hq, List.getElem?_drop]
theorem at_memQ {q : Nat} (h : q < l.length) : at_ 0 l (q : Int) ∈ l := by
  unfold at_
  have e : l.getD (q : Int).toNat 0 = l[q] := by simp [List.getD_eq_getElem?_getD, h]
  rw [e]; exact List.getElem_mem h
theorem putQ_good (ht : t.length % 4 = 0) (hk : okQ t) (hf : f.length = 4) (he : e ≤ 3) (h : ∀ n ∈ f, GoodN t e n) : GrwQ t (putQ t f).2 ∧ GoodN (putQ t f).2 (e + 1) (putQ t f).1 := by
  by_cases hx : ∃ j : Nat, j < t.length / 4 ∧ chQ t j = f
  · obtain ⟨j, hj, hp⟩ : ∃ j : Nat, (j < t.length / 4 ∧ chQ t j = f) ∧ ∀ s : Nat, s < j → ¬ (s < t.length / 4 ∧ chQ t s = f) := by
      obtain ⟨j0, h0⟩ := hx
      induction j0 using Nat.strongRecOn with
      | _ j0 ih =>
        by_cases hh : ∃ s, s < j0 ∧ s < t.length / 4 ∧ chQ t s = f
        · obtain ⟨s, hs, h1⟩ := hh; exact ih s hs h1
        · exact ⟨j0, h0, fun s hs h1 => hh ⟨s, hs, h1⟩⟩
    rw [putQ_at hj.1 hj.2 (fun s hs hc => hp s hs ⟨by omega, hc⟩)]
    refine ⟨⟨⟨[], by simp⟩, ht, hk⟩, by omega, by dsimp only; omega, ?_⟩
    have b := (hk j hj.1 0 (by omega)).1
    have e0 := chQ_ent hj.2 (q := 0) (by omega)
    simp only [Int.natCast_zero] at b e0
    dsimp only
    rw [lvT_new (by omega), e0]
    have := (h _ (at_memQ (l := f) (q := 0) (by omega))).2.2
    simp only [Int.natCast_zero] at this
    rw [this]
  · have hn : ∀ j : Nat, j < t.length / 4 → chQ t j ≠ f := fun j hj hc => hx ⟨j, hj, hc⟩
    rw [putQ_none hn]
    have ent : ∀ q : Nat, q < 4 → entT (t ++ f) (t.length / 4) q = at_ 0 f q := fun q hq => by
      unfold entT at_
      simp only [List.getD_eq_getElem?_getD]
      rw [List.getElem?_append_right (by omega)]
      congr 2
      omega
    have good : ∀ q : Nat, q < 4 → GoodN t e (at_ 0 f q) := fun q hq => h _ (at_memQ (by omega))
    have lv : ∀ q : Nat, q < 4 → lvT (t ++ f) (at_ 0 f q) = e := fun q hq => by
      have := good q hq
      rw [lvT_app hk (t.length / 4) _ this.1 (by have := this.2.1; omega) (by omega)]; exact this.2.2
    have hok : okQ (t ++ f) := fun j hj q hq => by
      by_cases hj4 : j < t.length / 4
      · obtain ⟨a, b, c⟩ := hk j hj4 q hq
        have a0 := (hk j hj4 0 (by omega)).1
        have e1 := entT_app (f := f) hj4 (show (0 : Int) ≤ (q : Int) by omega) (by omega)
        have e2 := entT_app (f := f) hj4 (show (0 : Int) ≤ 0 by omega) (by omega)
        simp only [Int.natCast_zero] at a0
        rw [e1, e2, lvT_app hk (t.length / 4) _ a.1 (by omega) (by omega), lvT_app hk (t.length / 4) _ a0.1 (by omega) (by omega)]
        exact ⟨a, b, c⟩
      · obtain rfl : j = t.length / 4 := by rw [List.length_append, hf] at hj; omega
        have e0 := ent 0 (by omega); have l0 := lv 0 (by omega)
        simp only [Int.natCast_zero] at e0 l0
        rw [ent q hq, e0, lv q hq, l0]
        have := good q hq
        exact ⟨⟨this.1, by have := this.2.1; omega⟩, rfl, he⟩
    refine ⟨⟨⟨f, rfl⟩, by simp only [List.length_append]; omega, hok⟩, by dsimp only; omega, by simp only [List.length_append]; omega, ?_⟩
    dsimp only
    have e0 := ent 0 (by omega); have l0 := lv 0 (by omega); have g0 := good 0 (by omega)
    simp only [Int.natCast_zero] at e0 l0 g0
    rw [show (t.length : Int) / 4 + 2 = ((t.length / 4 : Nat) : Int) + 2 by omega, lvT_new (by rw [e0]; have := g0.2.1; omega), e0, l0]
theorem telF_good {c : Int} {l : List Int} (hl : ∀ x, 0 ≤ at_ 0 l x ∧ at_ 0 l x ≤ 1) : ∀ e, e ≤ 4 → ∀ i k t, t.length % 4 = 0 → okQ t → GrwQ t (telF c l e i k t).2 ∧ GoodN (telF c l e i k t).2 e (telF c l e i k t).1
  | 0, _, i, k, t, ht, hk => by
    refine ⟨⟨⟨[], by simp [telF]⟩, ht, hk⟩, ?_⟩
    have := hl (i * c + k)
    refine ⟨this.1, by show at_ 0 l (i * c + k) < _; simp only [telF]; omega, ?_⟩
    show lvT t (at_ 0 l (i * c + k)) = 0
    rcases show at_ 0 l (i * c + k) = 0 ∨ at_ 0 l (i * c + k) = 1 by omega with h | h <;> rw [h] <;> rfl
  | e + 1, he, i, k, t, ht, hk => by
    obtain ⟨h1, h2⟩ := fourQ_good (h := szz e) (i := i) (k := k) (fun i k t => telF_good hl e (by omega) i k t) ht hk 4
    have h3 := fourQ_len1 (g := telF c l e) (h := szz e) (i := i) (k := k) (t := t) 4
    obtain ⟨h4, h5⟩ := putQ_good h1.len h1.ok h3 (by omega) h2
    exact ⟨h1.trans h4, h5⟩
theorem okQ_nil : okQ [] := fun j hj => absurd hj (by simp)
/-! A field is filled. -/
theorem place_lt {r x y : Int} (x0 : 0 ≤ x) (x1 : x < r) (y0 : 0 ≤ y) (y1 : y < c) : 0 ≤ x * c + y ∧ x * c + y < r * c := by
  have a := Int.mul_nonneg x0 (show 0 ≤ c by omega)
  have b := Int.mul_le_mul_of_nonneg_right (show x + 1 ≤ r by omega) (show 0 ≤ c by omega)
  rw [Int.add_mul, Int.one_mul] at b
  omega
theorem at_mkG {g : Int → Int → Int} {N : Nat} {i k : Int} (hi : 0 ≤ i) (hk : 0 ≤ k) (hkc : k < c) (h : i * c + k < N) : at_ 0 (mkL c g N) (i * c + k) = g i k := by
  have h0 := Int.mul_nonneg hi (show 0 ≤ c by omega)
  obtain ⟨j, hj⟩ : ∃ j : Nat, i * c + k = (j : Int) := ⟨(i * c + k).toNat, by omega⟩
  have d := divmod (c := c) (i := i) (k := k) (by omega) hk hkc
  rw [hj] at d ⊢
  have hl : j < (mkL c g N).length := by rw [mkL_length]; omega
  have e : at_ 0 (mkL c g N) (j : Int) = (mkL c g N)[j] := by unfold at_; simp [List.getD_eq_getElem?_getD, hl]
  rw [e]
  simp [mkL, d.1, d.2]
/-! The whole. -/
def topT (t : List Int) : Int := (t.length : Int) / 4 + 1
def rngT (t : List Int) : Prop := ∀ j : Nat, j < t.length → 0 ≤ at_ 0 t (j : Int) ∧ at_ 0 t (j : Int) ≤ (j : Int) / 4 + 1
theorem rngT.ent (h : rngT t) {j q : Nat} (hj : j < t.length / 4) (hq : q < 4) : 0 ≤ entT t j q ∧ entT t j q ≤ (j : Int) + 1 := by
  have := h (4 * j + q) (by omega)
  unfold entT
  rw [show ((4 * j + q : Nat) : Int) = 4 * (j : Int) + (q : Int) by omega] at this
  omega
/-- A list of a square is told by its places. -/
theorem sq_ext {m : List Int} (h1 : (l.length : Int) = c * c) (h2 : (m.length : Int) = c * c) (c1 : 1 ≤ c) (h : ∀ x y, 0 ≤ x → x < c → 0 ≤ y → y < c → at_ 0 l (x * c + y) = at_ 0 m (x * c + y)) : l = m := by
  apply List.ext_getElem (by omega)
  intro j a b
  have e1 := Int.emod_nonneg (j : Int) (show c ≠ 0 by omega)
  have e2 := Int.emod_lt_of_pos (j : Int) (show 0 < c by omega)
  have e3 := Int.ediv_nonneg (show (0 : Int) ≤ (j : Int) by omega) (show 0 ≤ c by omega)
  have e4 : (j : Int) / c < c := Int.ediv_lt_of_lt_mul (by omega) (by omega)
  have := h _ _ e3 e4 e1 e2
  rw [show (j : Int) / c * c + (j : Int) % c = (j : Int) by rw [Int.mul_comm]; exact Int.mul_ediv_add_emod _ _] at this
  unfold at_ at this
  simpa [List.getD_eq_getElem?_getD, a, b] using this
/-- A tree that a field has. -/
def tfP (t : List Int) : Prop := (t.length ≠ 0 ∧ t.length ≤ 1024 ∧ t.length % 4 = 0) ∧ okQ t ∧ (2 ≤ lvT t (topT t) ∧ lvT t (topT t) ≤ 4) ∧ treL (szz (lvT t (topT t))) (szz (lvT t (topT t))) (clT t (topT t)) = t
instance (t : List Int) : Decidable (tfP t) := by unfold tfP; infer_instance
theorem sz_of (h : 2 ≤ e ∧ e ≤ 4) : szz e = 4 ∨ szz e = 8 ∨ szz e = 16 := by
  rcases show e = 2 ∨ e = 3 ∨ e = 4 by omega with rfl | rfl | rfl <;> decide
/-- What is filled is what the tree says, when the tree is its tree. -/
theorem sq_clT (ht : okQ t) (h4 : t.length % 4 = 0) (he : 2 ≤ lvT t (topT t) ∧ lvT t (topT t) ≤ 4) : sqP (szz (lvT t (topT t))) (szz (lvT t (topT t))) (clT t (topT t)) := by
  have hlen := clT_len ht (t.length / 4) (topT t) (by unfold topT; omega) (by unfold topT; omega) (by omega)
  have hs := sz_of he
  refine ⟨⟨⟨by omega, by omega⟩, by rw [hlen, Int.natCast_mul, szz_cast], fun x hx => ?_⟩, rfl, hs⟩
  obtain ⟨j, hj, rfl⟩ := List.getElem_of_mem hx
  have := at_clT01 ht (t.length / 4) (topT t) (j : Int) (by unfold topT; omega) (by omega) (by unfold topT; omega)
  unfold at_ at this
  simpa [List.getD_eq_getElem?_getD, hj] using this
theorem lvT_low (h0 : 0 ≤ n) (h : n ≤ 1) : lvT t n = 0 := by
  rcases show n = 0 ∨ n = 1 by omega with rfl | rfl <;> rfl
end Go.Proofs.Ythmdmbbdjbhcoaa
/- The reference's reading of a tree: sizes, and filling. -/
namespace Go.Proofs.Ythmdmbbdjbhcoaa
open HL
set_option maxRecDepth 100000
set_option linter.unusedVariables false
theorem tre_len {r c : Int} {l : List Int} (h : sqP r c l) : (treL r c l).length ≤ 1000 := by
  have := treP_len (r := r) (c := c) (l := l)
  rwa [selL_t h] at this
end Go.Proofs.Ythmdmbbdjbhcoaa
/- A field is read back from its own quarters; an inner part is a part of a run: by plain law. -/
namespace Go.Proofs.Ythmdmbbdjbhcoaa
open HL
variable {n c i k : Int} {l t : List Int} {e : Nat}
set_option maxRecDepth 100000
/-! Runs and inner parts. -/
theorem run_pl {b s : List Int} {n : Int} {l : List Int} (hs : sidesF n n) (hl : (l.length : Int) = n * n) : ∀ (q : Nat) (i k : Int), (q : Int) ≤ i → i < n - q → (q : Int) ≤ k → k < n - q → at_ 0 (rnL false b s n n l q) (i * n + k) = pl b s q (flatF n n l) i k
  | 0, i, k, h1, h2, h3, h4 => by
    have q1 := hs.1
    exact (Rep.field (by omega) (by omega) hl).2 i k (by omega) (by omega) (by omega) (by omega)
  | q + 1, i, k, h1, h2, h3, h4 => by
    have q1 := hs.1
    have ih := run_pl (b := b) (s := s) hs hl q
    have h0 := Rep.mk (r := n) (c := n) (g := nxG false b s n n (rnL false b s n n l q)) (by omega) (by omega)
    have e := h0.2 i k (by omega) (by omega) (by omega) (by omega)
    rw [rnL_succ]
    unfold nxL
    rw [e]
    unfold nxG
    rw [ih i k (by omega) (by omega) (by omega) (by omega), arF_plN, plN_congr (g := flatF n n (rnL false b s n n l q)) (h := pl b s q (flatF n n l)) (fun x y a1 a2 a3 a4 => by
      unfold flatF
      rw [if_pos (by omega)]
      exact ih x y (by omega) (by omega) (by omega) (by omega))]
    rfl
theorem far_run {b s : List Int} (hn : n = 4 ∨ n = 8 ∨ n = 16) (hl : (l.length : Int) = n * n) : farL b s n l = mkL (n / 2) (cutG n (rnL false b s n n l (n / 4).toNat) (n / 4) (n / 4)) ((n / 2).toNat * (n / 2).toNat) := by
  have h0 := Rep.mk (r := n / 2) (c := n / 2) (g := cutG n (rnL false b s n n l (n / 4).toNat) (n / 4) (n / 4)) (by omega) (by omega)
  have h1 : Rep (n / 2) (n / 2) (mkL (n / 2) (cutG n (rnL false b s n n l (n / 4).toNat) (n / 4) (n / 4)) ((n / 2).toNat * (n / 2).toNat)) (fun i k => pl b s (n / 4).toNat (flatF n n l) (i + n / 4) (k + n / 4)) := Rep.congr (fun i k a1 a2 a3 a4 => by
    have e : cutG n (rnL false b s n n l (n / 4).toNat) (n / 4) (n / 4) i k = at_ 0 (rnL false b s n n l (n / 4).toNat) ((i + n / 4) * n + (k + n / 4)) := by
      unfold cutG
      rw [show (n / 4 + i) * n + n / 4 + k = (i + n / 4) * n + (k + n / 4) by rw [Int.add_comm (n / 4) i]; omega]
    rw [e]
    exact run_pl (by constructor <;> omega) hl _ _ _ (by omega) (by omega) (by omega) (by omega)) h0
  have := h1.eq (by omega) (by omega)
  unfold farL
  exact this.symm
/-! Reading back. -/
theorem clT_app {t f : List Int} (ht : okQ t) : ∀ (N : Nat) (n : Int), 0 ≤ n → n ≤ (N : Int) + 1 → N ≤ t.length / 4 → ptQ (t ++ f) N = ptQ t N ∧ clT (t ++ f) n = clT t n
  | 0, n, h0, h1, _ => by
    refine ⟨rfl, ?_⟩
    rcases show n = 0 ∨ n = 1 by omega with rfl | rfl <;> rfl
  | N + 1, n, h0, h1, h2 => by
    have ih := clT_app (f := f) ht N 0 (by omega) (by omega) (by omega)
    have e0 := entT_app (f := f) (show N < t.length / 4 by omega) (show (0 : Int) ≤ 0 by omega) (by omega)
    have ok := ht N (by omega)
    have eP : ptQ (t ++ f) (N + 1) = ptQ t (N + 1) := by
      show ptQ (t ++ f) N ++ [mkP (ptQ (t ++ f) N) (t ++ f) N] = ptQ t N ++ [mkP (ptQ t N) t N]
      rw [ih.1]
      congr 2
      unfold mkP
      rw [e0]
      congr 1
      apply List.map_congr_left
      intro m hm
      have hm := List.mem_range.mp hm
      have zp := szz_pos (lvP (ptQ t N) (entT t N 0))
      have zz := szz_succ (lvP (ptQ t N) (entT t N 0))
      unfold makQ
      generalize szz (lvP (ptQ t N) (entT t N 0)) = z at zp zz ⊢
      generalize szz (lvP (ptQ t N) (entT t N 0) + 1) = w at zz hm ⊢
      subst zz
      have k0 : (0 : Int) ≤ (m : Int) % (z * 2) := Int.emod_nonneg _ (by omega)
      have k1 : (m : Int) % (z * 2) < z * 2 := Int.emod_lt_of_pos _ (by omega)
      have i0 : (0 : Int) ≤ (m : Int) / (z * 2) := Int.ediv_nonneg (by omega) (by omega)
      have i1 : (m : Int) / (z * 2) < z * 2 := by
        apply Int.ediv_lt_of_lt_mul (by omega)
        have : ((m : Nat) : Int) < (((z * 2).toNat * (z * 2).toNat : Nat) : Int) := by exact_mod_cast hm
        rw [Int.natCast_mul, show (((z * 2).toNat : Nat) : Int) = z * 2 by omega] at this
        exact this
      have d0 := div01 zp i0 i1
      have d1 := div01 zp k0 k1
      rw [entT_app (show N < t.length / 4 by omega) (by omega) (by omega)]
    refine ⟨eP, ?_⟩
    rw [← clP_T (t := t ++ f) (j := N + 1) (by omega), ← clP_T (t := t) (j := N + 1) (by omega), eP]
/-- A part's cells are those of a field's block. -/
def RB (c : Int) (l t : List Int) (e : Nat) (n i k : Int) : Prop := ∀ x y, 0 ≤ x → x < szz e → 0 ≤ y → y < szz e → at_ 0 (clT t n) (x * szz e + y) = at_ 0 l ((i + x) * c + (k + y))
theorem RB.grow {t' : List Int} (ht : okQ t) (hn : GoodN t e n) (g : GrwQ t t') (h : RB c l t e n i k) : RB c l t' e n i k := by
  obtain ⟨s, rfl⟩ := g.pre
  have := (clT_app (f := s) ht (t.length / 4) n hn.1 (by have := hn.2.1; omega) (by omega)).2
  intro x y x0 x1 y0 y1
  rw [this]
  exact h x y x0 x1 y0 y1
theorem RB.four {j : Nat} (ht : okQ t) (hj : j < t.length / 4) (hl : lvT t (entT t j 0) = e) (h : ∀ q : Nat, q < 4 → RB c l t e (entT t j q) (i + (q : Int) / 2 * szz e) (k + (q : Int) % 2 * szz e)) : RB c l t (e + 1) ((j : Int) + 2) i k := by
  have ok := ht j hj
  have zz := szz_succ e
  have zp := szz_pos e
  intro x y x0 x1 y0 y1
  have kx := div01 zp x0 (by omega)
  have ky := div01 zp y0 (by omega)
  have mx0 := Int.emod_nonneg x (show szz e ≠ 0 by omega)
  have mx1 := Int.emod_lt_of_pos x (show 0 < szz e by omega)
  have my0 := Int.emod_nonneg y (show szz e ≠ 0 by omega)
  have my1 := Int.emod_lt_of_pos y (show 0 < szz e by omega)
  obtain ⟨q, hq4, hqx, hqy⟩ : ∃ q : Nat, q < 4 ∧ (q : Int) / 2 = x / szz e ∧ (q : Int) % 2 = y / szz e := ⟨(x / szz e * 2 + y / szz e).toNat, by omega, by omega, by omega⟩
  have hX : x = (q : Int) / 2 * szz e + x % szz e := by rw [hqx, Int.mul_comm]; exact (Int.mul_ediv_add_emod x (szz e)).symm
  have hY : y = (q : Int) % 2 * szz e + y % szz e := by rw [hqy, Int.mul_comm]; exact (Int.mul_ediv_add_emod y (szz e)).symm
  have hh := h q hq4 (x % szz e) (y % szz e) mx0 mx1 my0 my1
  rw [show i + (q : Int) / 2 * szz e + x % szz e = i + x by omega, show k + (q : Int) % 2 * szz e + y % szz e = k + y by omega] at hh
  rw [← hh, clT_new ok, hl]
  have hw : x * szz (e + 1) + y < (((szz (e + 1)).toNat * (szz (e + 1)).toNat : Nat) : Int) := by
    rw [Int.natCast_mul, show (((szz (e + 1)).toNat : Nat) : Int) = szz (e + 1) by omega]
    exact (place_lt x0 x1 y0 y1).2
  rw [at_mkG x0 y0 y1 hw]
  have hpq : x / szz e * 2 + y / szz e = (q : Int) := by rw [← hqx, ← hqy]; omega
  rw [hpq, clP_T (by have := (ok q hq4).1.2; omega)]
/-- Levels below a bound. -/
def LB (t : List Int) (e : Nat) : Prop := ∀ n : Int, 0 ≤ n → n < (t.length : Int) / 4 + 2 → lvT t n ≤ e
theorem LB.mono {d : Nat} (h : LB t e) (he : e ≤ d) : LB t d := fun n a b => Nat.le_trans (h n a b) he
theorem fourQ_at {g : Int → Int → List Int → Int × List Int} {h i k : Int} {t : List Int} {P : List Int → Int → Int → Int → Prop} (m : Nat)
    (hs : ∀ q : Nat, q < m → P (fourQ g h i k t (q + 1)).2 (g (i + (q : Int) / 2 * h) (k + (q : Int) % 2 * h) (fourQ g h i k t q).2).1 (i + (q : Int) / 2 * h) (k + (q : Int) % 2 * h))
    (hg : ∀ p : Nat, p < m → ∀ n x y, P (fourQ g h i k t p).2 n x y → P (fourQ g h i k t (p + 1)).2 n x y) : ∀ p, p ≤ m → ∀ q : Nat, q < p → P (fourQ g h i k t p).2 (at_ 0 (fourQ g h i k t p).1 (q : Int)) (i + (q : Int) / 2 * h) (k + (q : Int) % 2 * h)
  | 0, _, q, hq => by omega
  | p + 1, hp, q, hq => by
    have hlen := fourQ_len1 (g := g) (h := h) (i := i) (k := k) (t := t) p
    by_cases e : q = p
    · subst e
      have : at_ 0 (fourQ g h i k t (q + 1)).1 (q : Int) = (g (i + (q : Int) / 2 * h) (k + (q : Int) % 2 * h) (fourQ g h i k t q).2).1 := by
        unfold at_
        simp [fourQ, List.getD_eq_getElem?_getD, hlen]
      rw [this]
      exact hs q (by omega)
    · have ih := fourQ_at m hs hg p (by omega) q (by omega)
      have : at_ 0 (fourQ g h i k t (p + 1)).1 (q : Int) = at_ 0 (fourQ g h i k t p).1 (q : Int) := by
        unfold at_
        simp only [fourQ, List.getD_eq_getElem?_getD, Int.toNat_natCast]
        rw [List.getElem?_append_left (by rw [hlen]; omega)]
      rw [this]
      exact hg p (by omega) _ _ _ ih
theorem putQ_back {F : List Int} (ht : t.length % 4 = 0) (hk : okQ t) (hf : F.length = 4) (he : e ≤ 3) (hg : ∀ n ∈ F, GoodN t e n) (hb : ∀ q : Nat, q < 4 → RB c l t e (at_ 0 F (q : Int)) (i + (q : Int) / 2 * szz e) (k + (q : Int) % 2 * szz e)) :
    RB c l (putQ t F).2 (e + 1) (putQ t F).1 i k ∧ (∀ d, e + 1 ≤ d → LB t d → LB (putQ t F).2 d) ∧ (LB t e → putQ t F = ((t.length : Int) / 4 + 2, t ++ F)) := by
  have G := putQ_good ht hk hf he hg
  have g0 := hg _ (at_memQ (l := F) (q := 0) (by omega))
  simp only [Int.natCast_zero] at g0
  by_cases hx : ∃ j : Nat, j < t.length / 4 ∧ chQ t j = F
  · obtain ⟨j, hj, hp⟩ : ∃ j : Nat, (j < t.length / 4 ∧ chQ t j = F) ∧ ∀ s : Nat, s < j → ¬ (s < t.length / 4 ∧ chQ t s = F) := by
      obtain ⟨j0, h0⟩ := hx
      induction j0 using Nat.strongRecOn with
      | _ j0 ih =>
        by_cases hh : ∃ s, s < j0 ∧ s < t.length / 4 ∧ chQ t s = F
        · obtain ⟨s, hs, h1⟩ := hh; exact ih s hs h1
        · exact ⟨j0, h0, fun s hs h1 => hh ⟨s, hs, h1⟩⟩
    have eq := putQ_at hj.1 hj.2 (fun s hs hc => hp s hs ⟨by omega, hc⟩)
    have ent : ∀ q : Nat, q < 4 → entT t j q = at_ 0 F q := fun q hq => chQ_ent hj.2 hq
    have e0 := ent 0 (by omega)
    simp only [Int.natCast_zero] at e0
    have hl : lvT t (entT t j 0) = e := by rw [e0]; exact g0.2.2
    rw [eq]
    refine ⟨RB.four hk hj.1 hl (fun q hq => by rw [ent q hq]; exact hb q hq), fun d _ h => h, fun h => ?_⟩
    exfalso
    have := h ((j : Int) + 2) (by omega) (by omega)
    rw [lvT_new (by rw [e0]; have := g0.2.1; have b := (hk j hj.1 0 (by omega)).1; simp only [Int.natCast_zero] at b; rw [e0] at b; omega), hl] at this
    omega
  · have hn : ∀ j : Nat, j < t.length / 4 → chQ t j ≠ F := fun j hj hc => hx ⟨j, hj, hc⟩
    have eq := putQ_none hn
    rw [eq] at G ⊢
    have gr := G.1
    have ent : ∀ q : Nat, q < 4 → entT (t ++ F) (t.length / 4) q = at_ 0 F q := fun q hq => by
      unfold entT at_
      simp only [List.getD_eq_getElem?_getD]
      rw [List.getElem?_append_right (by omega)]
      congr 2
      omega
    have e0 := ent 0 (by omega)
    simp only [Int.natCast_zero] at e0
    have hl : lvT (t ++ F) (entT (t ++ F) (t.length / 4) 0) = e := by rw [e0]; exact (g0.grow hk gr).2.2
    refine ⟨?_, fun d hd h n n0 n1 => ?_, fun _ => rfl⟩
    · have := RB.four (c := c) (l := l) (i := i) (k := k) gr.ok (j := t.length / 4) (by rw [List.length_append, hf]; omega) hl (fun q hq => by
        rw [ent q hq]
        exact (hb q hq).grow hk (hg _ (at_memQ (by omega))) gr)
      rw [show ((t.length / 4 : Nat) : Int) + 2 = (t.length : Int) / 4 + 2 by omega] at this
      exact this
    · by_cases hh : n < (t.length : Int) / 4 + 2
      · rw [lvT_app hk (t.length / 4) n n0 (by omega) (by omega)]
        exact h n n0 hh
      · have : n = (t.length : Int) / 4 + 2 := by simp only [List.length_append, hf] at n1; omega
        rw [this, G.2.2.2]; exact hd
theorem fourQ_LB {g : Int → Int → List Int → Int × List Int} {h i k : Int} {t : List Int} {d : Nat} (hg : ∀ i k t, t.length % 4 = 0 → okQ t → LB t d → LB (g i k t).2 d) (hok : ∀ q, (fourQ g h i k t q).2.length % 4 = 0 ∧ okQ (fourQ g h i k t q).2) (hl : LB t d) : ∀ q, LB (fourQ g h i k t q).2 d
  | 0 => hl
  | q + 1 => hg _ _ _ (hok q).1 (hok q).2 (fourQ_LB hg hok hl q)
theorem telF_back {c : Int} {l : List Int} (hl : ∀ x, 0 ≤ at_ 0 l x ∧ at_ 0 l x ≤ 1) : ∀ e, e ≤ 4 → ∀ i k t, t.length % 4 = 0 → okQ t → RB c l (telF c l e i k t).2 e (telF c l e i k t).1 i k ∧ (∀ d, e ≤ d → LB t d → LB (telF c l e i k t).2 d)
  | 0, _, i, k, t, ht, hk => by
    refine ⟨fun x y x0 x1 y0 y1 => ?_, fun d _ h => h⟩
    have hs : szz 0 = 1 := rfl
    rw [hs] at x1 y1
    obtain rfl : x = 0 := by omega
    obtain rfl : y = 0 := by omega
    rw [Int.add_zero i, Int.add_zero k]
    show at_ 0 (clT t (at_ 0 l (i * c + k))) (0 * szz 0 + 0) = _
    have := hl (i * c + k)
    rcases show at_ 0 l (i * c + k) = 0 ∨ at_ 0 l (i * c + k) = 1 by omega with h | h <;> rw [h] <;> rfl
  | e + 1, he, i, k, t, ht, hk => by
    have tg := telF_good (c := c) hl e (by omega)
    have tb := telF_back (c := c) hl e (by omega)
    have F4 := fourQ_good (h := szz e) (i := i) (k := k) (fun i k t => tg i k t) ht hk
    have f1 := fourQ_len1 (g := telF c l e) (h := szz e) (i := i) (k := k) (t := t) 4
    have hb := fourQ_at (g := telF c l e) (h := szz e) (i := i) (k := k) (t := t) (P := fun t n x y => GoodN t e n ∧ RB c l t e n x y) 4
      (fun q _ => ⟨(tg _ _ _ (F4 q).1.len (F4 q).1.ok).2, (tb _ _ _ (F4 q).1.len (F4 q).1.ok).1⟩)
      (fun p _ n x y hP => by
        have g := (tg (i + (p : Int) / 2 * szz e) (k + (p : Int) % 2 * szz e) _ (F4 p).1.len (F4 p).1.ok).1
        exact ⟨hP.1.grow (F4 p).1.ok g, hP.2.grow (F4 p).1.ok hP.1 g⟩) 4 (by omega)
    have pb := putQ_back (c := c) (l := l) (i := i) (k := k) (F4 4).1.len (F4 4).1.ok f1 (by omega) (F4 4).2 (fun q hq => (hb q hq).2)
    refine ⟨pb.1, fun d hd h => pb.2.1 d hd ?_⟩
    exact fourQ_LB (fun i k t h1 h2 h3 => (tb i k t h1 h2).2 d (by omega) h3) (fun q => ⟨(F4 q).1.len, (F4 q).1.ok⟩) h 4
/-- The root is told last. -/
theorem tel_top (hl : ∀ x, 0 ≤ at_ 0 l x ∧ at_ 0 l x ≤ 1) (e : Nat) (he : e + 1 ≤ 4) : (telF c l (e + 1) 0 0 []).1 = topT (telF c l (e + 1) 0 0 []).2 ∧ (telF c l (e + 1) 0 0 []).2.length ≠ 0 := by
  have tg := telF_good (c := c) hl e (by omega)
  have tb := telF_back (c := c) hl e (by omega)
  have F4 := fourQ_good (h := szz e) (i := 0) (k := 0) (t := []) (fun i k t => tg i k t) rfl okQ_nil
  have f1 := fourQ_len1 (g := telF c l e) (h := szz e) (i := 0) (k := 0) (t := []) 4
  have hb := fourQ_at (g := telF c l e) (h := szz e) (i := 0) (k := 0) (t := []) (P := fun t n x y => GoodN t e n ∧ RB c l t e n x y) 4
    (fun q _ => ⟨(tg _ _ _ (F4 q).1.len (F4 q).1.ok).2, (tb _ _ _ (F4 q).1.len (F4 q).1.ok).1⟩)
    (fun p _ n x y hP => by
      have g := (tg (0 + (p : Int) / 2 * szz e) (0 + (p : Int) % 2 * szz e) _ (F4 p).1.len (F4 p).1.ok).1
      exact ⟨hP.1.grow (F4 p).1.ok g, hP.2.grow (F4 p).1.ok hP.1 g⟩) 4 (by omega)
  have pb := putQ_back (c := c) (l := l) (i := 0) (k := 0) (F4 4).1.len (F4 4).1.ok f1 (by omega) (F4 4).2 (fun q hq => (hb q hq).2)
  have h0 : LB [] e := fun n n0 n1 => by
    simp at n1
    rw [lvT_low n0 (by omega)]; omega
  have lb := fourQ_LB (g := telF c l e) (h := szz e) (i := 0) (k := 0) (fun i k t h1 h2 h3 => (tb i k t h1 h2).2 e (by omega) h3) (fun q => ⟨(F4 q).1.len, (F4 q).1.ok⟩) h0 4
  have eq := pb.2.2 lb
  have et : telF c l (e + 1) 0 0 [] = putQ (fourQ (telF c l e) (szz e) 0 0 [] 4).2 (fourQ (telF c l e) (szz e) 0 0 [] 4).1 := rfl
  have hm := (F4 4).1.len
  rw [et, eq]
  unfold topT
  simp only [List.length_append, f1]
  omega
/-- A square is read back from its own tree. -/
theorem tree_back {r : Int} (h : sqP r c l) : tfP (treL r c l) ∧ clT (treL r c l) (topT (treL r c l)) = l ∧ szz (lvT (treL r c l) (topT (treL r c l))) = r := by
  obtain ⟨hf, rfl, hr⟩ := h
  have hs : sqP r r l := ⟨hf, rfl, hr⟩
  have h01 : ∀ x, 0 ≤ at_ 0 l x ∧ at_ 0 l x ≤ 1 := fun x => at_bndG hf.2.2 x
  obtain ⟨e, he, hE, hsz, h2⟩ : ∃ e : Nat, lgN r - 1 = e + 1 ∧ e + 1 ≤ 4 ∧ szz (e + 1) = r ∧ 2 ≤ e + 1 := by
    rcases hr with rfl | rfl | rfl
    · exact ⟨1, rfl, by omega, rfl, by omega⟩
    · exact ⟨2, rfl, by omega, rfl, by omega⟩
    · exact ⟨3, rfl, by omega, rfl, by omega⟩
  have et : treL r r l = (telF r l (e + 1) 0 0 []).2 := by unfold treL; rw [he]
  have tg := telF_good (c := r) h01 (e + 1) hE 0 0 [] rfl okQ_nil
  have tb := (telF_back (c := r) h01 (e + 1) hE 0 0 [] rfl okQ_nil).1
  obtain ⟨t1, t2⟩ := tel_top (c := r) h01 e hE
  have tl := tre_len hs
  rw [← et] at tg tb t1 t2
  rw [t1] at tg tb
  have hlv := tg.2.2.2
  have hsz' : szz (lvT (treL r r l) (topT (treL r r l))) = r := by rw [hlv]; exact hsz
  have hcl : clT (treL r r l) (topT (treL r r l)) = l := by
    have hlen := clT_len tg.1.ok ((treL r r l).length / 4) (topT (treL r r l)) (by unfold topT; omega) (by unfold topT; omega) (by omega)
    have zp := szz_pos (e + 1)
    refine sq_ext (c := r) (by rw [hlen, Int.natCast_mul, szz_cast, hsz']) hf.2.1 (by omega) (fun x y x0 x1 y0 y1 => ?_)
    have := tb x y x0 (by omega) y0 (by omega)
    rw [hsz, Int.zero_add, Int.zero_add] at this
    exact this
  refine ⟨⟨⟨t2, by omega, tg.1.len⟩, tg.1.ok, by rw [hlv]; omega, by rw [hsz', hcl]⟩, hcl, hsz'⟩
end Go.Proofs.Ythmdmbbdjbhcoaa
/- How many different parts of a size a square has, by its tree: by plain law. -/
namespace Go.Proofs.Ythmdmbbdjbhcoaa
open HL
variable {t F : List Int} {j e : Nat} {c i k : Int}
set_option maxRecDepth 100000
theorem pig {R : Nat → Nat → Prop} : ∀ {A B : List Nat}, A.Nodup → (∀ x ∈ A, ∃ y, y ∈ B ∧ R x y) → (∀ x x' y, x ∈ A → x' ∈ A → R x y → R x' y → x = x') → A.length ≤ B.length
  | [], _, _, _, _ => Nat.zero_le _
  | x :: A, B, hn, h, hi => by
    obtain ⟨y, hy, hr⟩ := h x (List.mem_cons_self ..)
    have hn' := List.nodup_cons.mp hn
    have := pig (R := R) (A := A) (B := B.erase y) hn'.2 (fun x' hx' => by
      obtain ⟨y', hy', hr'⟩ := h x' (List.mem_cons_of_mem _ hx')
      refine ⟨y', ?_, hr'⟩
      have hne : y' ≠ y := fun e => by
        subst e
        have := hi x x' y' (List.mem_cons_self ..) (List.mem_cons_of_mem _ hx') hr hr'
        subst this
        exact hn'.1 hx'
      exact (List.mem_erase_of_ne hne).mpr hy') (fun a b c ha hb => hi a b c (List.mem_cons_of_mem _ ha) (List.mem_cons_of_mem _ hb))
    rw [List.length_erase_of_mem hy] at this
    have := List.length_pos_of_mem hy
    simp only [List.length_cons]
    omega
/-! Different quarters. -/
def DQ (t : List Int) : Prop := ∀ i j : Nat, i < j → j < t.length / 4 → chQ t i ≠ chQ t j
theorem chQ_app (h : j < t.length / 4) : chQ (t ++ F) j = chQ t j := by
  unfold chQ
  rw [List.drop_append_of_le_length (by omega), List.take_append_of_le_length (by rw [List.length_drop]; omega)]
theorem chQ_last (h : t.length % 4 = 0) (hf : F.length = 4) : chQ (t ++ F) (t.length / 4) = F := by
  unfold chQ
  rw [show 4 * (t.length / 4) = t.length by omega, List.drop_left, ← hf, List.take_length]
theorem putQ_dq (ht : t.length % 4 = 0) (hf : F.length = 4) (h : DQ t) : DQ (putQ t F).2 := by
  unfold putQ
  split
  · exact h
  · rename_i hn
    have hx : ∀ j : Nat, j < t.length / 4 → chQ t j ≠ F := fun j hj hc => by
      obtain ⟨j', hj', hp⟩ : ∃ j : Nat, (j < t.length / 4 ∧ chQ t j = F) ∧ ∀ s : Nat, s < j → ¬ (s < t.length / 4 ∧ chQ t s = F) := by
        have h0 : j < t.length / 4 ∧ chQ t j = F := ⟨hj, hc⟩
        clear hj hc
        induction j using Nat.strongRecOn with
        | _ j0 ih =>
          by_cases hh : ∃ s, s < j0 ∧ s < t.length / 4 ∧ chQ t s = F
          · obtain ⟨s, hs, h1⟩ := hh; exact ih s hs h1
          · exact ⟨j0, h0, fun s hs h1 => hh ⟨s, hs, h1⟩⟩
      exact hn (by rw [fndQ_at hj'.1 hj'.2 (fun s hs hc => hp s hs ⟨by omega, hc⟩)]; omega)
    intro i j hij hj
    simp only [List.length_append, hf] at hj
    by_cases hh : j < t.length / 4
    · rw [chQ_app hh, chQ_app (by omega)]; exact h i j hij hh
    · obtain rfl : j = t.length / 4 := by omega
      rw [chQ_last ht hf, chQ_app hij]
      exact hx i hij
theorem telF_dq {c : Int} {l : List Int} : ∀ e i k t, t.length % 4 = 0 → DQ t → DQ (telF c l e i k t).2
  | 0, _, _, _, _, h => h
  | e + 1, i, k, t, ht, h => by
    have F4 := fourQ_len2 (h := szz e) (i := i) (k := k) (telF_len c l e) ht
    have f1 := fourQ_len1 (g := telF c l e) (h := szz e) (i := i) (k := k) (t := t) 4
    have : ∀ q, DQ (fourQ (telF c l e) (szz e) i k t q).2 := by
      intro q
      induction q with
      | zero => exact h
      | succ q ih => exact telF_dq e _ _ _ (F4 q).1 ih
    exact putQ_dq (F4 4).1 f1 (this 4)
/-- A part's cells in a part of its. -/
theorem cl_quarter {q : Nat} (ok : okJ t j) (hl : lvT t (entT t j 0) = e) (hq : q < 4) {x y : Int} (x0 : 0 ≤ x) (x1 : x < szz e) (y0 : 0 ≤ y) (y1 : y < szz e) :
    at_ 0 (clT t ((j : Int) + 2)) (((q : Int) / 2 * szz e + x) * szz (e + 1) + ((q : Int) % 2 * szz e + y)) = at_ 0 (clT t (entT t j q)) (x * szz e + y) := by
  have zz := szz_succ e
  have zp := szz_pos e
  have a : (q : Int) / 2 = 0 ∨ (q : Int) / 2 = 1 := by omega
  have b : (q : Int) % 2 = 0 ∨ (q : Int) % 2 = 1 := by omega
  have hX : 0 ≤ (q : Int) / 2 * szz e + x ∧ (q : Int) / 2 * szz e + x < szz (e + 1) := by rcases a with a | a <;> rw [a] <;> omega
  have hY : 0 ≤ (q : Int) % 2 * szz e + y ∧ (q : Int) % 2 * szz e + y < szz (e + 1) := by rcases b with b | b <;> rw [b] <;> omega
  rw [clT_new ok, hl]
  have hw : ((q : Int) / 2 * szz e + x) * szz (e + 1) + ((q : Int) % 2 * szz e + y) < (((szz (e + 1)).toNat * (szz (e + 1)).toNat : Nat) : Int) := by
    rw [Int.natCast_mul, show (((szz (e + 1)).toNat : Nat) : Int) = szz (e + 1) by omega]
    exact (place_lt hX.1 hX.2 hY.1 hY.2).2
  rw [at_mkG hX.1 hY.1 hY.2 hw]
  have dx : ((q : Int) / 2 * szz e + x) / szz e = (q : Int) / 2 ∧ ((q : Int) / 2 * szz e + x) % szz e = x := divmod (by omega) x0 x1
  have dy : ((q : Int) % 2 * szz e + y) / szz e = (q : Int) % 2 ∧ ((q : Int) % 2 * szz e + y) % szz e = y := divmod (by omega) y0 y1
  rw [dx.1, dx.2, dy.1, dy.2, show (q : Int) / 2 * 2 + (q : Int) % 2 = (q : Int) by omega, clP_T (by have := (ok q hq).1.2; omega)]
/-- Parts with the same cells are the same. -/
theorem cl_inj {t : List Int} (ht : okQ t) (h4 : t.length % 4 = 0) (hd : DQ t) : ∀ (e : Nat) (n m : Int), GoodN t e n → GoodN t e m → clT t n = clT t m → n = m
  | 0, n, m, hn, hm, h => by
    have low : ∀ n : Int, GoodN t 0 n → n = 0 ∨ n = 1 := fun n hn => by
      have := hn.1
      by_cases h : n ≤ 1
      · omega
      · exfalso
        obtain ⟨j, hj⟩ : ∃ j : Nat, n = (j : Int) + 2 := ⟨(n - 2).toNat, by omega⟩
        have a := hn.2.2
        have b := (ht j (by have := hn.2.1; omega) 0 (by omega)).1
        simp only [Int.natCast_zero] at b
        rw [hj, lvT_new (by omega)] at a
        omega
    rcases low n hn with rfl | rfl <;> rcases low m hm with rfl | rfl
    · rfl
    · exact absurd (show [(0 : Int)] = [1] from h) (by decide)
    · exact absurd (show [(1 : Int)] = [0] from h) (by decide)
    · rfl
  | e + 1, n, m, hn, hm, h => by
    have up : ∀ n : Int, GoodN t (e + 1) n → ∃ j : Nat, n = (j : Int) + 2 ∧ j < t.length / 4 ∧ lvT t (entT t j 0) = e := fun n hn => by
      have h2 : 2 ≤ n := by
        by_cases h : n < 2
        · have := hn.1
          have a := hn.2.2
          rw [lvT_low hn.1 (by omega)] at a
          omega
        · omega
      obtain ⟨j, hj⟩ : ∃ j : Nat, n = (j : Int) + 2 := ⟨(n - 2).toNat, by omega⟩
      have hjt : j < t.length / 4 := by have := hn.2.1; omega
      have b := (ht j hjt 0 (by omega)).1
      simp only [Int.natCast_zero] at b
      have a := hn.2.2
      rw [hj, lvT_new (by omega)] at a
      exact ⟨j, hj, hjt, by omega⟩
    obtain ⟨j, rfl, hj, lj⟩ := up n hn
    obtain ⟨j', rfl, hj', lj'⟩ := up m hm
    have ok := ht j hj
    have ok' := ht j' hj'
    have zp := szz_pos e
    have good : ∀ j : Nat, j < t.length / 4 → lvT t (entT t j 0) = e → ∀ q : Nat, q < 4 → GoodN t e (entT t j q) := fun j hj lj q hq => by
      obtain ⟨a, b, _⟩ := ht j hj q hq
      exact ⟨a.1, by omega, by rw [b, lj]⟩
    have ent : ∀ q : Nat, q < 4 → entT t j q = entT t j' q := fun q hq => by
      have g := good j hj lj q hq
      have g' := good j' hj' lj' q hq
      refine cl_inj ht h4 hd e _ _ g g' ?_
      have L : ∀ n, GoodN t e n → ((clT t n).length : Int) = szz e * szz e := fun n hn => by
        rw [clT_len ht (t.length / 4) n hn.1 (by have := hn.2.1; omega) (by omega), Int.natCast_mul, szz_cast, hn.2.2]
      refine sq_ext (c := szz e) (L _ g) (L _ g') (by omega) (fun x y x0 x1 y0 y1 => ?_)
      rw [← cl_quarter ok lj hq x0 x1 y0 y1, ← cl_quarter ok' lj' hq x0 x1 y0 y1, h]
    have hc : chQ t j = chQ t j' := by
      have len : ∀ j : Nat, j < t.length / 4 → (chQ t j).length = 4 := fun j hj => by unfold chQ; rw [List.length_take, List.length_drop]; omega
      apply List.ext_getElem (by rw [len j hj, len j' hj'])
      intro q a b
      have hq : q < 4 := by rw [len j hj] at a; exact a
      have e1 := chQ_ent (t := t) (j := j) rfl hq
      have e2 := chQ_ent (t := t) (j := j') rfl hq
      have := ent q hq
      rw [e1, e2] at this
      unfold at_ at this
      simpa [List.getD_eq_getElem?_getD, a, b] using this
    rcases Nat.lt_trichotomy j j' with g | g | g
    · exact absurd hc (hd j j' g hj')
    · rw [g]
    · exact absurd hc.symm (hd j' j g hj)
/-! Blocks. -/
theorem szz_add (d x : Nat) : szz (d + x) = szz x * szz d := by
  unfold szz
  rw [Nat.add_comm, Int.pow_add]
/-- A block's place. -/
def Al (c : Int) (d : Nat) (i k : Int) : Prop := ∃ a b : Nat, i = (a : Int) * szz d ∧ k = (b : Int) * szz d ∧ i + szz d ≤ c ∧ k + szz d ≤ c
theorem Al.quarter (h : Al c (e + 1) i k) {q : Nat} (hq : q < 4) : Al c e (i + (q : Int) / 2 * szz e) (k + (q : Int) % 2 * szz e) := by
  obtain ⟨a, b, rfl, rfl, h1, h2⟩ := h
  have zz := szz_succ e
  have zp := szz_pos e
  have A : (q : Int) / 2 = 0 ∨ (q : Int) / 2 = 1 := by omega
  have B : (q : Int) % 2 = 0 ∨ (q : Int) % 2 = 1 := by omega
  refine ⟨2 * a + q / 2, 2 * b + q % 2, ?_, ?_, ?_, ?_⟩
  · rw [← zz, Int.natCast_add, Int.add_mul, Int.natCast_mul, show ((q / 2 : Nat) : Int) = (q : Int) / 2 by omega, Int.mul_comm (szz e) 2, ← Int.mul_assoc, Int.mul_comm (a : Int) 2]; rfl
  · rw [← zz, Int.natCast_add, Int.add_mul, Int.natCast_mul, show ((q % 2 : Nat) : Int) = (q : Int) % 2 by omega, Int.mul_comm (szz e) 2, ← Int.mul_assoc, Int.mul_comm (b : Int) 2]; rfl
  · rcases A with A | A <;> rw [A] <;> omega
  · rcases B with B | B <;> rw [B] <;> omega
/-- Every part is a block. -/
def Src (c : Int) (l t : List Int) : Prop := ∀ n : Int, 2 ≤ n → n < (t.length : Int) / 4 + 2 → ∃ i k, Al c (lvT t n) i k ∧ RB c l t (lvT t n) n i k
/-- A block is told. -/
def Cov (c : Int) (l t : List Int) (d : Nat) (i k : Int) : Prop := ∃ n, GoodN t d n ∧ RB c l t d n i k
theorem Cov.grow {c : Int} {l t t' : List Int} {d : Nat} {i k : Int} (ht : okQ t) (g : GrwQ t t') (h : Cov c l t d i k) : Cov c l t' d i k := by
  obtain ⟨n, h1, h2⟩ := h
  exact ⟨n, h1.grow ht g, h2.grow ht h1 g⟩
theorem putQ_src {l : List Int} (ht : t.length % 4 = 0) (hk : okQ t) (hf : F.length = 4) (he : e ≤ 3) (hg : ∀ n ∈ F, GoodN t e n) (hb : RB c l (putQ t F).2 (e + 1) (putQ t F).1 i k) (ha : Al c (e + 1) i k) (h : Src c l t) : Src c l (putQ t F).2 := by
  have G := putQ_good ht hk hf he hg
  by_cases hx : 0 ≤ fndQ t F
  · have : (putQ t F).2 = t := by unfold putQ; rw [if_pos hx]
    rw [this]; exact h
  · have e1 : putQ t F = ((t.length : Int) / 4 + 2, t ++ F) := by unfold putQ; rw [if_neg hx]
    rw [e1] at G hb ⊢
    intro n n2 n1
    by_cases hh : n < (t.length : Int) / 4 + 2
    · obtain ⟨i', k', a, b⟩ := h n n2 hh
      have el := lvT_app (f := F) hk (t.length / 4) n (by omega) (by omega) (by omega)
      rw [el]
      exact ⟨i', k', a, b.grow hk ⟨by omega, hh, rfl⟩ G.1⟩
    · have : n = (t.length : Int) / 4 + 2 := by simp only [List.length_append, hf] at n1; omega
      subst this
      rw [G.2.2.2]
      exact ⟨i, k, ha, hb⟩
theorem telF_blk {c : Int} {l : List Int} (hl : ∀ x, 0 ≤ at_ 0 l x ∧ at_ 0 l x ≤ 1) : ∀ e, e ≤ 4 → ∀ i k t, t.length % 4 = 0 → okQ t → Al c e i k → (Src c l t → Src c l (telF c l e i k t).2) ∧ (∀ d, d ≤ e → ∀ a b : Nat, i ≤ (a : Int) * szz d → (a : Int) * szz d + szz d ≤ i + szz e → k ≤ (b : Int) * szz d → (b : Int) * szz d + szz d ≤ k + szz e → Cov c l (telF c l e i k t).2 d ((a : Int) * szz d) ((b : Int) * szz d))
  | 0, he, i, k, t, ht, hk, ha => by
    refine ⟨fun h => h, fun d hd a b a0 a1 b0 b1 => ?_⟩
    obtain rfl : d = 0 := by omega
    have tg := telF_good (c := c) hl 0 (by omega) i k t ht hk
    have tb := telF_back (c := c) hl 0 (by omega) i k t ht hk
    rw [show (a : Int) * szz 0 = i by omega, show (b : Int) * szz 0 = k by omega]
    exact ⟨_, tg.2, tb.1⟩
  | e + 1, he, i, k, t, ht, hk, ha => by
    have zz := szz_succ e
    have zp := szz_pos e
    have tg := telF_good (c := c) hl e (by omega)
    have tb := telF_back (c := c) hl e (by omega)
    have F4 := fourQ_good (h := szz e) (i := i) (k := k) (fun i k t => tg i k t) ht hk
    have f1 := fourQ_len1 (g := telF c l e) (h := szz e) (i := i) (k := k) (t := t) 4
    have hg := telF_good (c := c) hl (e + 1) he i k t ht hk
    have hb := telF_back (c := c) hl (e + 1) he i k t ht hk
    have grow : ∀ q : Nat, q < 4 → GrwQ (fourQ (telF c l e) (szz e) i k t q).2 (fourQ (telF c l e) (szz e) i k t (q + 1)).2 := fun q _ => (tg _ _ _ (F4 q).1.len (F4 q).1.ok).1
    have step := fun (q : Nat) (hq : q < 4) => telF_blk hl e (by omega) (i + (q : Int) / 2 * szz e) (k + (q : Int) % 2 * szz e) _ (F4 q).1.len (F4 q).1.ok (ha.quarter hq)
    have pg := putQ_good (F4 4).1.len (F4 4).1.ok f1 (show e ≤ 3 by omega) (F4 4).2
    refine ⟨fun hs => ?_, fun d hd a b a0 a1 b0 b1 => ?_⟩
    · have : ∀ q, q ≤ 4 → Src c l (fourQ (telF c l e) (szz e) i k t q).2 := by
        intro q
        induction q with
        | zero => intro _; exact hs
        | succ q ih => intro hq; exact (step q (by omega)).1 (ih (by omega))
      exact putQ_src (F4 4).1.len (F4 4).1.ok f1 (show e ≤ 3 by omega) (F4 4).2 hb.1 ha (this 4 (by omega))
    · by_cases hde : d = e + 1
      · subst hde
        rw [show (a : Int) * szz (e + 1) = i by omega, show (b : Int) * szz (e + 1) = k by omega]
        exact ⟨_, hg.2, hb.1⟩
      · obtain ⟨x, rfl⟩ := Nat.le.dest (show d ≤ e by omega)
        have zd := szz_pos d
        obtain ⟨A, B, hA, hB, _, _⟩ := ha
        have hz : szz (d + x) = szz x * szz d := szz_add d x
        have cutA : (a : Int) * szz d + szz d ≤ i + szz (d + x) ∨ i + szz (d + x) ≤ (a : Int) * szz d := by
          have e1 : i + szz (d + x) = ((A : Int) * 2 * szz x + szz x) * szz d := by
            rw [hA, ← zz, hz, Int.add_mul]
            congr 1
            rw [Int.mul_comm (szz x * szz d) 2, ← Int.mul_assoc, ← Int.mul_assoc]
          rw [e1, show (a : Int) * szz d + szz d = ((a : Int) + 1) * szz d by rw [Int.add_mul, Int.one_mul]]
          by_cases hc : (a : Int) + 1 ≤ (A : Int) * 2 * szz x + szz x
          · exact .inl (Int.mul_le_mul_of_nonneg_right hc (by omega))
          · exact .inr (Int.mul_le_mul_of_nonneg_right (by omega) (by omega))
        have cutB : (b : Int) * szz d + szz d ≤ k + szz (d + x) ∨ k + szz (d + x) ≤ (b : Int) * szz d := by
          have e1 : k + szz (d + x) = ((B : Int) * 2 * szz x + szz x) * szz d := by
            rw [hB, ← zz, hz, Int.add_mul]
            congr 1
            rw [Int.mul_comm (szz x * szz d) 2, ← Int.mul_assoc, ← Int.mul_assoc]
          rw [e1, show (b : Int) * szz d + szz d = ((b : Int) + 1) * szz d by rw [Int.add_mul, Int.one_mul]]
          by_cases hc : (b : Int) + 1 ≤ (B : Int) * 2 * szz x + szz x
          · exact .inl (Int.mul_le_mul_of_nonneg_right hc (by omega))
          · exact .inr (Int.mul_le_mul_of_nonneg_right (by omega) (by omega))
        have go : ∀ q : Nat, q < 4 → i + (q : Int) / 2 * szz (d + x) ≤ (a : Int) * szz d → (a : Int) * szz d + szz d ≤ i + (q : Int) / 2 * szz (d + x) + szz (d + x) → k + (q : Int) % 2 * szz (d + x) ≤ (b : Int) * szz d → (b : Int) * szz d + szz d ≤ k + (q : Int) % 2 * szz (d + x) + szz (d + x) → Cov c l (telF c l (d + x + 1) i k t).2 d ((a : Int) * szz d) ((b : Int) * szz d) := fun q hq h1 h2 h3 h4 => by
          have c0 := (step q hq).2 d (by omega) a b h1 h2 h3 h4
          have up : ∀ p, q + 1 ≤ p → p ≤ 4 → Cov c l (fourQ (telF c l (d + x)) (szz (d + x)) i k t p).2 d ((a : Int) * szz d) ((b : Int) * szz d) := by
            intro p
            induction p with
            | zero => intro h; omega
            | succ p ih =>
              intro h h'
              by_cases e : p = q
              · subst e; exact c0
              · exact (ih (by omega) (by omega)).grow (F4 p).1.ok (grow p (by omega))
          exact (up 4 (by omega) (by omega)).grow (F4 4).1.ok pg.1
        rcases cutA with ca | ca <;> rcases cutB with cb | cb
        · exact go 0 (by omega) (by omega) (by omega) (by omega) (by omega)
        · exact go 1 (by omega) (by omega) (by omega) (by omega) (by omega)
        · exact go 2 (by omega) (by omega) (by omega) (by omega) (by omega)
        · exact go 3 (by omega) (by omega) (by omega) (by omega) (by omega)
end Go.Proofs.Ythmdmbbdjbhcoaa
/- The numbers of kinds and the length of a tree, by plain law. -/
namespace Go.Proofs.Ythmdmbbdjbhcoaa
open HL
variable {n k d a M : Nat} {t l : List Int} {c r : Int}
set_option maxRecDepth 100000
def fstI (G : Nat → List Int) (n : Nat) : List Nat := (List.range n).filter fun k => decide (¬ dupW G k)
theorem dsK_fst {G : Nat → List Int} : ∀ n, (dsK G n).length = (fstI G n).length
  | 0 => rfl
  | n + 1 => by
    have ih := dsK_fst (G := G) n
    show (if dupW G n then dsK G n else dsK G n ++ [bytesS .empty (G n)]).length = _
    unfold fstI at ih ⊢
    rw [List.range_succ, List.filter_append, List.length_append, ← ih]
    by_cases h : dupW G n
    · rw [if_pos h, List.filter_cons_of_neg (by simpa using h)]; simp
    · rw [if_neg h, List.filter_cons_of_pos (by simpa using h)]; simp
theorem fstI_mem {G : Nat → List Int} : k ∈ fstI G n ↔ k < n ∧ ¬ dupW G k := by simp [fstI]
theorem fstI_nodup (G : Nat → List Int) (n : Nat) : (fstI G n).Nodup := List.nodup_range.filter _
theorem fstI_inj {G : Nat → List Int} {k' : Nat} (h : k ∈ fstI G n) (h' : k' ∈ fstI G n) (e : G k = G k') : k = k' := by
  have a := (fstI_mem.mp h).2
  have b := (fstI_mem.mp h').2
  rcases Nat.lt_trichotomy k k' with g | g | g
  · exact absurd ⟨k, g, e⟩ b
  · exact g
  · exact absurd ⟨k', g, e.symm⟩ a
theorem fstI_ex {G : Nat → List Int} : ∀ k, k < n → ∃ k0, k0 ∈ fstI G n ∧ G k0 = G k := by
  intro k
  induction k using Nat.strongRecOn with
  | _ k ih =>
    intro hk
    by_cases h : dupW G k
    · obtain ⟨i, hi, he⟩ := h
      obtain ⟨k0, h1, h2⟩ := ih i hi (by omega)
      exact ⟨k0, h1, h2.trans he⟩
    · exact ⟨k, fstI_mem.mpr ⟨hk, h⟩, rfl⟩
/-- The quarters of a level. -/
def NL (t : List Int) (d : Nat) : List Nat := (List.range (t.length / 4)).filter fun j => decide (lvT t ((j : Int) + 2) = d)
theorem NL_mem {j : Nat} : j ∈ NL t d ↔ j < t.length / 4 ∧ lvT t ((j : Int) + 2) = d := by simp [NL]
theorem NL_nodup (t : List Int) (d : Nat) : (NL t d).Nodup := List.nodup_range.filter _
theorem blk_eq {n : Int} {b : Nat} (ht : okQ t) (hn : GoodN t d n) (h : RB c l t d n ((a : Int) * szz d) ((b : Int) * szz d)) : clT t n = mkL (szz d) (cutG c l (szz d * (a : Int)) (szz d * (b : Int))) ((szz d).toNat * (szz d).toNat) := by
  have zp := szz_pos d
  have L1 : ((clT t n).length : Int) = szz d * szz d := by rw [clT_len ht (t.length / 4) n hn.1 (by have := hn.2.1; omega) (by omega), Int.natCast_mul, szz_cast, hn.2.2]
  have L2 : ((mkL (szz d) (cutG c l (szz d * (a : Int)) (szz d * (b : Int))) ((szz d).toNat * (szz d).toNat)).length : Int) = szz d * szz d := by rw [mkL_length, Int.natCast_mul, Int.toNat_of_nonneg (by omega)]
  refine sq_ext L1 L2 (by omega) (fun x y x0 x1 y0 y1 => ?_)
  have hw : x * szz d + y < (((szz d).toNat * (szz d).toNat : Nat) : Int) := by
    rw [Int.natCast_mul, Int.toNat_of_nonneg (by omega)]
    exact (place_lt x0 x1 y0 y1).2
  rw [h x y x0 x1 y0 y1, at_mkG x0 y0 y1 hw]
  unfold cutG
  rw [Int.mul_comm (szz d) (a : Int), Int.mul_comm (szz d) (b : Int), Int.add_assoc]
theorem tree_all (h : sqP r c l) : (treL r r l).length % 4 = 0 ∧ okQ (treL r r l) ∧ DQ (treL r r l) ∧ Src r l (treL r r l) ∧ LB (treL r r l) (lgN r - 1) ∧ ∀ d, d ≤ lgN r - 1 → ∀ a b : Nat, (a : Int) * szz d + szz d ≤ r → (b : Int) * szz d + szz d ≤ r → Cov r l (treL r r l) d ((a : Int) * szz d) ((b : Int) * szz d) := by
  obtain ⟨hf, rfl, hr⟩ := h
  have h01 : ∀ x, 0 ≤ at_ 0 l x ∧ at_ 0 l x ≤ 1 := fun x => at_bndG hf.2.2 x
  obtain ⟨hE, hsz⟩ : lgN r - 1 ≤ 4 ∧ szz (lgN r - 1) = r := by rcases hr with rfl | rfl | rfl <;> decide
  have tg := telF_good (c := r) h01 (lgN r - 1) hE 0 0 [] rfl okQ_nil
  have td := telF_dq (c := r) (l := l) (lgN r - 1) 0 0 [] rfl (fun i j _ hj => absurd hj (by simp))
  have tb := telF_back (c := r) h01 (lgN r - 1) hE 0 0 [] rfl okQ_nil
  have al : Al r (lgN r - 1) 0 0 := ⟨0, 0, by simp, by simp, by omega, by omega⟩
  have tk := telF_blk (c := r) h01 (lgN r - 1) hE 0 0 [] rfl okQ_nil al
  refine ⟨tg.1.len, tg.1.ok, td, tk.1 (fun n h2 h1 => by simp at h1; omega), tb.2 _ (Nat.le_refl _) (fun n n0 n1 => by simp at n1; rw [lvT_low n0 (by omega)]; omega), fun d hd a b h1 h2 => ?_⟩
  have zd := szz_pos d
  have a0 := Int.mul_nonneg (show (0 : Int) ≤ (a : Int) by omega) (show 0 ≤ szz d by omega)
  have b0 := Int.mul_nonneg (show (0 : Int) ≤ (b : Int) by omega) (show 0 ≤ szz d by omega)
  exact tk.2 d hd a b a0 (by omega) b0 (by omega)
theorem div_parts (h : k < M * M) : k / M < M ∧ k % M < M ∧ k / M * M + k % M = k := by
  have hM : 0 < M := Nat.pos_of_ne_zero fun e => by subst e; omega
  exact ⟨Nat.div_lt_of_lt_mul h, Nat.mod_lt _ hM, by rw [Nat.mul_comm]; exact Nat.div_add_mod k M⟩
theorem in_sq {z m : Int} (hz : 1 ≤ z) (h : z * m = r) (hM : m = (M : Int)) : a < M ↔ (a : Int) * z + z ≤ r := by
  subst h hM
  rw [show (a : Int) * z + z = z * ((a : Int) + 1) by rw [Int.mul_add, Int.mul_one, Int.mul_comm]]
  constructor
  · intro g; exact Int.mul_le_mul_of_nonneg_left (by omega) (by omega)
  · intro g
    have := Int.le_of_mul_le_mul_left g (by omega)
    omega
/-- As many kinds as quarters of a level. -/
theorem knd_cnt (h : sqP r c l) {d : Nat} (d1 : 1 ≤ d) (d2 : d ≤ lgN r - 1) : kndN r c l d = (NL (treL r r l) d).length := by
  obtain ⟨h4, ok, dq, src, lb, cov⟩ := tree_all h
  obtain ⟨hf, rfl, hr⟩ := h
  have lg3 : 3 ≤ lgN r := by unfold lgN; split <;> (try split) <;> omega
  obtain ⟨_, zp, _, hz⟩ := szz_ok hr (e := d) (by omega)
  obtain ⟨zm, m1, m2⟩ := hz (by omega)
  generalize ht : treL r r l = t at *
  unfold kndN
  rw [dsK_fst]
  obtain ⟨M, hM⟩ : ∃ M : Nat, r / szz d = (M : Int) := ⟨(r / szz d).toNat, by omega⟩
  have hMn : (r / szz d).toNat = M := by omega
  rw [hMn]
  have bAt : ∀ a b : Nat, b < M → mkL (szz d) (cutG r l (szz d * (a : Int)) (szz d * (b : Int))) ((szz d).toNat * (szz d).toNat) = blkW r l (szz d) (r / szz d) (a * M + b) := fun a b hb => by
    have := blkW_at (c := r) (z := szz d) (m := r / szz d) (l := l) (a := a) (b := b) (by omega) (by omega)
    rw [hMn] at this
    exact this
  apply Nat.le_antisymm
  · refine pig (R := fun k j => clT t ((j : Int) + 2) = blkW r l (szz d) (r / szz d) k) (fstI_nodup _ _) (fun k hk => ?_) (fun k k' j hk hk' e e' => fstI_inj hk hk' (e.symm.trans e'))
    obtain ⟨k1, k2, k3⟩ := div_parts (fstI_mem.mp hk).1
    obtain ⟨n, gn, rb⟩ := cov d d2 (k / M) (k % M) ((in_sq zp zm hM).mp k1) ((in_sq zp zm hM).mp k2)
    have e := blk_eq ok gn rb
    rw [bAt _ _ k2, k3] at e
    have n2 : 2 ≤ n := by
      by_cases g : 2 ≤ n
      · exact g
      · exfalso
        have := gn.2.2
        rw [lvT_low gn.1 (by omega)] at this
        omega
    refine ⟨(n - 2).toNat, NL_mem.mpr ⟨by have := gn.2.1; omega, ?_⟩, ?_⟩
    · rw [show (((n - 2).toNat : Nat) : Int) + 2 = n by omega]; exact gn.2.2
    · rw [show (((n - 2).toNat : Nat) : Int) + 2 = n by omega]; exact e
  · refine pig (R := fun j k => clT t ((j : Int) + 2) = blkW r l (szz d) (r / szz d) k) (NL_nodup _ _) (fun j hj => ?_) (fun j j' k hj hj' e e' => ?_)
    · obtain ⟨j1, j2⟩ := NL_mem.mp hj
      obtain ⟨i, k, ⟨a, b, rfl, rfl, ha, hb⟩, rb⟩ := src ((j : Int) + 2) (by omega) (by omega)
      rw [j2] at rb ha hb
      have gn : GoodN t d ((j : Int) + 2) := ⟨by omega, by omega, j2⟩
      have e := blk_eq ok gn rb
      have aM := (in_sq zp zm hM).mpr ha
      have bM := (in_sq zp zm hM).mpr hb
      rw [bAt _ _ bM] at e
      have hk : a * M + b < M * M := by
        have := Nat.mul_le_mul_right M (show a + 1 ≤ M by omega)
        rw [Nat.add_mul, Nat.one_mul] at this
        omega
      obtain ⟨k0, h1, h2⟩ := fstI_ex (G := blkW r l (szz d) (r / szz d)) (n := M * M) _ hk
      exact ⟨k0, h1, e.trans h2.symm⟩
    · obtain ⟨j1, j2⟩ := NL_mem.mp hj
      obtain ⟨j1', j2'⟩ := NL_mem.mp hj'
      have := cl_inj ok h4 dq d _ _ ⟨by omega, by omega, j2⟩ ⟨by omega, by omega, j2'⟩ (e.trans e'.symm)
      omega
/-- Sums. -/
def sumT (F : Nat → Nat) : Nat → Nat
  | 0 => 0
  | n + 1 => sumT F n + F n
theorem sumT_add {F G K : Nat → Nat} (h : ∀ d, K d = F d + G d) : ∀ n, sumT K n = sumT F n + sumT G n
  | 0 => rfl
  | n + 1 => by
    simp only [sumT, sumT_add h n, h n]; omega
theorem sumT_one {F : Nat → Nat} {v : Nat} (h : ∀ d, F d = if v = d + 1 then 1 else 0) (h1 : 1 ≤ v) : ∀ n, sumT F n = if v ≤ n then 1 else 0
  | 0 => by rw [if_neg (by omega)]; rfl
  | n + 1 => by
    simp only [sumT, sumT_one h h1 n, h n]
    by_cases a : v ≤ n
    · rw [if_pos a, if_neg (by omega), if_pos (by omega)]
    · by_cases b : v = n + 1
      · rw [if_neg a, if_pos b, if_pos (by omega)]
      · rw [if_neg a, if_neg b, if_neg (by omega)]
theorem sumT_zero {F : Nat → Nat} (h : ∀ d, F d = 0) : ∀ n, sumT F n = 0
  | 0 => rfl
  | n + 1 => by simp only [sumT, sumT_zero h n, h n]
theorem sumT_congr {F G : Nat → Nat} : ∀ n, (∀ d, d < n → F d = G d) → sumT F n = sumT G n
  | 0, _ => rfl
  | n + 1, h => by simp only [sumT, sumT_congr n (fun d hd => h d (by omega)), h n (by omega)]
theorem sumT_filter {f : Nat → Nat} {E : Nat} : ∀ (L : List Nat), (∀ j ∈ L, 1 ≤ f j ∧ f j ≤ E) → sumT (fun d => (L.filter fun j => decide (f j = d + 1)).length) E = L.length
  | [], _ => sumT_zero (fun _ => rfl) E
  | x :: L, h => by
    have ih := sumT_filter L (fun j hj => h j (List.mem_cons_of_mem _ hj))
    have hx := h x (List.mem_cons_self ..)
    rw [sumT_add (F := fun d => if f x = d + 1 then 1 else 0) (G := fun d => (L.filter fun j => decide (f j = d + 1)).length) (fun d => by
      by_cases g : f x = d + 1
      · rw [List.filter_cons_of_pos (by simpa using g), if_pos g, List.length_cons]; omega
      · rw [List.filter_cons_of_neg (by simpa using g), if_neg g]; omega), ih, sumT_one (v := f x) (fun _ => rfl) hx.1, if_pos hx.2, List.length_cons]
    omega
/-- The sum of all kinds but the least. -/
def sumK (r c : Int) (l : List Int) (n : Nat) : Nat := sumT (fun d => kndN r c l (d + 1)) n
theorem sumK_succ : sumK r c l (n + 1) = sumK r c l n + kndN r c l (n + 1) := rfl
theorem lg_bnd (r : Int) : 3 ≤ lgN r ∧ lgN r ≤ 5 := by unfold lgN; split <;> (try split) <;> omega
theorem sumK_tree (h : sqP r c l) : 4 * (sumK r c l (lgN r - 1) : Int) = ((treL r c l).length : Int) := by
  obtain ⟨h4, ok, dq, src, lb, cov⟩ := tree_all h
  have hrc := h.2.1
  subst hrc
  have e : sumK r r l (lgN r - 1) = sumT (fun d => (NL (treL r r l) (d + 1)).length) (lgN r - 1) := sumT_congr _ (fun d hd => knd_cnt h (by omega) (by omega))
  have e2 := sumT_filter (f := fun j => lvT (treL r r l) ((j : Int) + 2)) (E := lgN r - 1) (List.range ((treL r r l).length / 4)) (fun j hj => by
    have hj := List.mem_range.mp hj
    have b := (ok j hj 0 (by omega)).1
    simp only [Int.natCast_zero] at b
    refine ⟨?_, lb _ (by omega) (by omega)⟩
    rw [lvT_new (by omega)]; omega)
  rw [List.length_range] at e2
  have e3 : sumK r r l (lgN r - 1) = (treL r r l).length / 4 := e.trans e2
  omega
theorem knd_last (h : sqP r c l) : kndN r c l (lgN r - 1) = 1 := by
  obtain ⟨hf, rfl, hr⟩ := h
  have : (r / szz (lgN r - 1)).toNat = 1 := by rcases hr with rfl | rfl | rfl <;> decide
  unfold kndN
  rw [this, dsK_fst]
  rfl
theorem knd_first (h : sqP r c l) : 1 ≤ kndN r c l 0 ∧ kndN r c l 0 ≤ 2 := by
  obtain ⟨hf, rfl, hr⟩ := h
  have h01 : ∀ x, 0 ≤ at_ 0 l x ∧ at_ 0 l x ≤ 1 := fun x => at_bndG hf.2.2 x
  have hs : szz 0 = 1 := rfl
  unfold kndN
  rw [dsK_fst, hs]
  constructor
  · have hm : 1 ≤ (r / 1).toNat * (r / 1).toNat := Nat.mul_le_mul (show 1 ≤ (r / 1).toNat by omega) (show 1 ≤ (r / 1).toNat by omega)
    exact List.length_pos_of_mem (fstI_mem.mpr ⟨hm, fun ⟨i, hi, _⟩ => by omega⟩)
  · refine pig (B := [0, 1]) (R := fun k y => blkW r l 1 (r / 1) k = [(y : Int)]) (fstI_nodup _ _) (fun k _ => ?_) (fun k k' y hk hk' e e' => fstI_inj hk hk' (e.trans e'.symm))
    have e : ∃ v, blkW r l 1 (r / 1) k = [at_ 0 l v] := ⟨_, rfl⟩
    obtain ⟨v, hv⟩ := e
    have b := h01 v
    rcases show at_ 0 l v = 0 ∨ at_ 0 l v = 1 by omega with g | g
    · exact ⟨0, by simp, by rw [hv, g]; rfl⟩
    · exact ⟨1, by simp, by rw [hv, g]; rfl⟩
end Go.Proofs.Ythmdmbbdjbhcoaa
/- Fields that are read back from their quarters. -/
namespace Go.Proofs.Ythmdmbbdjbhcoaa
open HL
set_option maxRecDepth 100000
end Go.Proofs.Ythmdmbbdjbhcoaa
/- Ranges over functions: a rule by an invariant; slices.Chunk. -/
namespace Go.Proofs.Ythmdmbbdjbhcoaa
open HL
variable {H : Hp} {c r : Nat} {l : List Int} {vc : Value} {K : Value → Hp → Prop}
set_option maxRecDepth 100000
namespace HL
/-- A range over an iterator that gives N times something: what holds ahead of each round. -/
theorem rgE_i {fv : Value} {ps : List Nat} {body : (Exit → S → Hp → Prop) → S → Hp → Prop} {Q : Exit → S → Hp → Prop} {σ : S} (N : Nat) (arg : Nat → List Value) (I : Nat → Hp → Prop) (hfv : match fv with | .func (.func _) _ _ => True | _ => False) (hps : ∀ t, (arg t).length = ps.length) (h0 : I 0 H)
    (hb : ∀ t A σ' (Q' : Exit → S → Hp → Prop), t < N → σ' = ups σ ps (arg t) → (∀ σ'' B, I (t + 1) B → Q' .normal σ'' B) → (∀ σ'' B, Q .ret σ B → Q' .ret σ'' B) → (∀ id σ'' B, Q (.exit id) σ B → Q' (.exit id) σ'' B) → I t A → body Q' σ' A)
    (hend : ∀ A, I N A → Q .normal σ A)
    (hcall : ∀ (yv : Value) (J : Nat → Hp → Prop) (St : Hp → Prop) (H1 : Hp) (K : Value → Hp → Prop), (∀ t A, J t A → ∃ A' b o, A = A'.put b o ∧ A' b = none ∧ I t A') → J 0 H1 →
      (∀ t A (Z : Value → Hp → Prop), t < N → J t A → (∀ B, J (t + 1) B → Z (.bool true) B) → (∀ B, St B → Z (.bool false) B) → callV prg yv (arg t) A Z) → (∀ A, J N A → K (.tuple #[]) A) → (∀ A, St A → K (.tuple #[]) A) → callV prg fv [yv] H1 K) :
    rgE prg fv ps body Q σ H := by
  refine ⟨hfv, fun l X hl hy => ?_⟩
  refine hcall _ (fun t A => ∃ A', A = A'.put l (X none) ∧ A' l = none ∧ I t A') (fun A => ∃ A' j, A = A'.put l (X j) ∧ A' l = none ∧ jmpQ Q σ A' j) _ _ ?_ ⟨H, rfl, hl, h0⟩ ?_ ?_ ?_
  · rintro t A ⟨A', rfl, hn, hI⟩
    exact ⟨A', l, X none, rfl, hn, hI⟩
  · rintro t A Z ht ⟨A', rfl, hn, hI⟩ hT hF
    refine hy (arg t) A' Z (hps t) hn (hb t A' _ _ ht rfl (fun σ'' B hB hBl => ?_) (fun σ'' B hB hBl => ?_) (fun id σ'' B hB hBl => ?_) hI)
    · exact hT _ ⟨B, rfl, hBl, hB⟩
    · exact hF _ ⟨B, some .ret, rfl, hBl, hB⟩
    · exact hF _ ⟨B, some (.exit id), rfl, hBl, hB⟩
  · rintro A ⟨A', rfl, hn, hI⟩
    exact ⟨A', none, rfl, hn, hend A' hI⟩
  · rintro A ⟨A', j, rfl, hn, hj⟩
    exact ⟨A', j, rfl, hn, hj⟩
/-- A piece of a slice, with no room behind it. -/
def chV (v : Value) (lo c : Nat) : Value := (vSl3 1 v (some (.int .i64 (lo : Int))) (some (.int .i64 ((lo : Int) + (c : Int)))) (some (.int .i64 ((lo : Int) + (c : Int))))).getD undef
theorem chV_sl {α : Type} {enc : α → Value} {v : Value} {l : List α} (h : Sl enc H v l) {lo c : Nat} (h1 : lo + c ≤ l.length) :
    vSl3 1 v (some (.int .i64 (lo : Int))) (some (.int .i64 ((lo : Int) + (c : Int)))) (some (.int .i64 ((lo : Int) + (c : Int)))) = some (chV v lo c) ∧ Sl enc H (chV v lo c) ((l.drop lo).take c) := by
  obtain ⟨a, k, rfl, hc, hr⟩ := h
  have e0 : bnd (some (.int .i64 ((lo : Int) + (c : Int)))) k k = some (lo + c) := by simp only [bnd]; rw [if_pos ⟨by omega, by omega⟩]; congr 1
  have e1 : bnd (some (.int .i64 ((lo : Int) + (c : Int)))) (lo + c) (lo + c) = some (lo + c) := by simp only [bnd]; rw [if_pos ⟨by omega, by omega⟩]; congr 1
  have e2 : bnd (some (.int .i64 (lo : Int))) (lo + c) 0 = some lo := by simp only [bnd]; rw [if_pos ⟨by omega, by omega⟩]; simp
  have e : vSl3 1 (.slice a l.length k) (some (.int .i64 (lo : Int))) (some (.int .i64 ((lo : Int) + (c : Int)))) (some (.int .i64 ((lo : Int) + (c : Int)))) = some (.slice (if lo + c = lo then a else a.map (·.add (lo * 1))) (lo + c - lo) (lo + c - lo)) := by
    simp only [vSl3, e0, e1, e2]
  refine ⟨by unfold chV; rw [e]; rfl, ?_⟩
  unfold chV
  rw [e]
  show Sl enc H (.slice _ _ _) _
  have hl : ((l.drop lo).take c).length = c := by simp; omega
  refine ⟨_, _, by rw [hl]; congr 1; omega, by rw [hl]; omega, fun i hi' => ?_⟩
  rw [hl] at hi'
  obtain ⟨ad, rfl, hh⟩ := hr (lo + i) (by omega)
  rw [if_neg (by omega)]
  refine ⟨ad.add (lo * 1), rfl, ?_⟩
  have e4 : (ad.add (lo * 1)).add i = ad.add (lo + i) := by
    rw [Nat.mul_one]
    unfold Addr.add
    by_cases hx : lo = 0
    · rw [if_pos hx, hx, Nat.zero_add]
    · by_cases hy : i = 0
      · subst hy; simp
      · rw [if_neg hx, if_neg hy, if_neg (by omega)]; simp [Nat.add_assoc]
  rw [e4, hh]
  simp
end HL
/-- A row of a list. -/
def rowL (c : Nat) (l : List Int) (i : Nat) : List Int := (l.drop (i * c)).take c
theorem rowL_len (hl : l.length = r * c) {i : Nat} (hi : i < r) : (rowL c l i).length = c := by
  unfold rowL
  have := Nat.mul_le_mul_right c (show i + 1 ≤ r by omega)
  rw [Nat.add_mul, Nat.one_mul] at this
  simp; omega
theorem C.c57 {n : Int} (hv : Sl eI H vc l) (hn : 1 ≤ n)
    (hk : ∀ ps pn H', Cel H' ps [vc] → Cel H' pn [.int .i64 n] → Nw H ps → Nw H pn → Apart ps pn → Le H H' → K (.func (.func 119) #[] #[ps, pn]) H') :
    HT prg 79 [vc, .int .i64 n].toArray H K := by
 refine R.q79 ?_
 unfold F.q79
 rw [hv.cells]
 refine nw_i (fun ps H2 ops nps le2 => ?_)
 refine nw_i (fun pn H4 opn npn le4 => ?_)
 refine ob_i (opn.ld0 rfl) (ob_i (vInt_lss _ _ _) ?_)
 rw [decide_eq_false (show ¬ n < 1 by omega)]
 exact cnd_f1 (hk ps pn H4 (ops.le le4) opn nps (npn.le le2) (ops.apart npn) (le2.trans le4))

theorem C.c58 {yv ps pn : Value} {H0 : Hp} {J : Nat → Hp → Prop} {St : Hp → Prop} (hv : Sl eI H0 vc l) (hl : l.length = r * c) (c1 : 1 ≤ c) (c2 : c ≤ 1000000) (l2 : l.length ≤ 1000000)
    (hb : ∀ t A, J t A → Cel A ps [vc] ∧ Cel A pn [.int .i64 (c : Int)]) (h0 : J 0 H)
    (hst : ∀ t A (Z : Value → Hp → Prop), t < r → J t A → (∀ B, J (t + 1) B → Z (.bool true) B) → (∀ B, St B → Z (.bool false) B) → callV prg yv [chV vc (t * c) c] A Z)
    (hk : ∀ A, J r A → K (.tuple #[]) A) (hs : ∀ A, St A → K (.tuple #[]) A) :
    HT prg 119 [yv, ps, pn].toArray H K := by
 refine R.q119 ?_
 unfold F.q119
 refine ⟨fun n σ H' => ∃ t : Nat, n = r - t ∧ t ≤ r ∧ σ 0 = yv ∧ σ 1 = ps ∧ σ 2 = pn ∧ σ 4 = .int .i64 ((t * c : Nat) : Int) ∧ J t H', ⟨_, 0, rfl, by omega, rfl, rfl, rfl, congrArg (Value.int .i64) (by simp), h0⟩, ?_⟩
 rintro n σ H1 ⟨t, rfl, ht, g0, g1, g2, g4, hJ⟩
 simp only [g0, g1, g2, g4]
 obtain ⟨ops, opn⟩ := hb t H1 hJ
 refine ob_i (ops.ld0 rfl) (ob_i hv.len (ob_i (vInt_lss _ _ _) (cnd_d (fun hlt => ?_) (fun hge => ?_))))
 have htr : t < r := Nat.lt_of_not_le fun hh => by
    have := Nat.mul_le_mul_right c hh
    omega
 have hm := Nat.mul_le_mul_right c (show t + 1 ≤ r by omega)
 rw [Nat.add_mul, Nat.one_mul] at hm
 refine ob_i (opn.ld0 rfl) (ob_i (ops.ld0 rfl) ?_)
 obtain ⟨x, _, hx2, _, _, hx5, _⟩ := hv.cut (lo := ((t * c : Nat) : Int)) (hi := (l.length : Int)) (by omega) (by omega) (by omega)
 refine ob_i (hx2 rfl) (ob_i hx5.len ?_)
 have hmin : vMx false (.int .i64 (c : Int)) [.int .i64 (((l.drop ((t * c : Nat) : Int).toNat).take ((l.length : Int).toNat - ((t * c : Nat) : Int).toNat)).length : Int)] = some (.int .i64 (c : Int)) := by
    simp only [vMx]
    rw [if_neg]
    rw [List.length_take, List.length_drop, Int.toNat_natCast, Int.toNat_natCast]
    omega
 refine ob_i hmin (ob_i (ops.ld0 rfl) (ob_i (vInt_add (by omega) (by omega)) (ob_i (vInt_add (by omega) (by omega)) (ob_i (chV_sl hv (lo := t * c) (c := c) (by omega)).1 (hst t H1 _ htr hJ (fun B hB => ?_) (fun B hB => ?_))))))
 refine ob_i (a := .bool false) rfl ?_
 refine cnd_f1 ?_
 obtain ⟨ops, opn⟩ := hb _ B hB
 refine ob_i (opn.ld0 rfl) (ob_i (vInt_add (by omega) (by omega)) ?_)
 exact nxt (r - (t + 1)) (by omega) ⟨t + 1, rfl, by omega, g0, g1, g2, congrArg (Value.int .i64) (by rw [Nat.add_mul, Nat.one_mul]; omega), hB⟩
 refine ob_i (a := .bool true) rfl ?_
 exact cnd_t1 (hs B hB)
 obtain rfl : t = r := by
    have := Nat.le_antisymm ht (Nat.le_of_not_lt fun hh => by
      have hm := Nat.mul_le_mul_right c (show t + 1 ≤ r by omega)
      rw [Nat.add_mul, Nat.one_mul] at hm
      omega)
    exact this
 exact hk _ hJ

end Go.Proofs.Ythmdmbbdjbhcoaa
/- Parts in a family, one behind the other. -/
namespace Go.Proofs.Ythmdmbbdjbhcoaa
open HL
variable {H : Hp} {u x y v : Value} {t : List Int} {j i q a : Nat} {h : Int}
set_option maxRecDepth 100000
namespace HL
theorem Fam.two_of {r c r' c' : Int} {l m : List Int} (h : OwnE 3 encFv H u [⟨r, c, x⟩, ⟨r', c', y⟩]) (hx : Own eI H x l) (hy : Own eI H y m) (ap : Apart u x) (aq : Apart u y) (axy : Apart x y) :
    ∃ S : Rg, Fam H u S [⟨r, c, l⟩, ⟨r', c', m⟩] ∧ ∀ b, S b → bk u = some b ∨ bk x = some b ∨ bk y = some b :=
  ⟨fun b => bk u = some b ∨ bk x = some b ∨ bk y = some b, ⟨[⟨r, c, x⟩, ⟨r', c', y⟩], h, ⟨⟨rfl, rfl, hx⟩, ⟨rfl, rfl, hy⟩, trivial⟩, by simp; exact ⟨ap, aq⟩, by simpa using axy, fun b => by simp⟩, fun b hb => hb⟩
theorem Fam.elO {S : Rg} {fs : List FdL} {f : FdL} (h : Fam H v S fs) {i : Int} (i0 : 0 ≤ i) (i1 : i < fs.length) (e : at_ fd0 fs i = f) :
    ∃ P x, vIx 3 v (.int .i64 i) = some P ∧ CelR H P [.int .i64 f.r, .int .i64 f.c, x] ∧ Own eI H x f.l ∧ (∀ b, bk P = some b → S b) ∧ (∀ b, bk x = some b → S b) := by
  obtain ⟨L, h1, h2, h3, h4, h5⟩ := h
  obtain ⟨n, rfl⟩ := Int.eq_ofNat_of_zero_le i0
  have hl := h2.len
  have hn : n < L.length := by omega
  obtain ⟨g1, g2, g3⟩ := h2.get hn
  obtain ⟨a, c, rfl, ho, hb, hc⟩ := h1.blk encFv_n (by omega) hn
  have hx := at_get fv0 hn
  subst e
  refine ⟨.pointer (some (a.add (n * 3))), (at_ fv0 L (n : Int)).v, ?_, ⟨_, rfl, by rw [add_block]; exact ho, fun j hj => ?_⟩, g3, fun b hb2 => ?_, fun b hb2 => ?_⟩
  · simp only [vIx]
    rw [if_pos (by omega)]; rfl
  · simp only [List.length_cons, List.length_nil] at hj
    rw [add_add, hc j (by omega), ← hx]
    simp only [encFv]
    have hj3 : j = 0 ∨ j = 1 ∨ j = 2 := by omega
    rcases hj3 with rfl | rfl | rfl
    · simp [g1]
    · simp [g2]
    · simp
  · simp only [bk, add_block, Option.some.injEq] at hb2
    subst hb2
    exact (h5 _).mpr (.inl hb)
  · exact (h5 _).mpr (.inr ⟨_, at_mem fv0 L (by omega) (by omega), hb2⟩)
theorem Apt.of_three {α : Type} [Bks α] {z : α} {u x y : Value} {S : Rg} (hS : ∀ b, S b → bk u = some b ∨ bk x = some b ∨ bk y = some b) (hu : Apt z u) (hx : Apt z x) (hy : Apt z y) : Apt z S := fun b h1 h2 => by
  rcases hS b h2 with h | h | h
  · exact hu b h1 h
  · exact hx b h1 h
  · exact hy b h1 h
theorem Nws.of_three {S : Rg} (hS : ∀ b, S b → bk u = some b ∨ bk x = some b ∨ bk y = some b) (hu : Nw H u) (hx : Nw H x) (hy : Nw H y) : Nws H S := fun b h => by
  rcases hS b h with h | h | h
  · exact hu b h
  · exact hx b h
  · exact hy b h
end HL
/-- The parts as fields. -/
def famT (t : List Int) (j : Nat) : List FdL := (ptQ t j).map fun x => ⟨szz x.1, szz x.1, x.2⟩
theorem famT_len (t : List Int) (j : Nat) : (famT t j).length = j + 2 := by simp [famT, ptQ_len]
theorem famT_at {n : Int} (h0 : 0 ≤ n) (h : n < (j : Int) + 2) : at_ fd0 (famT t j) n = ⟨szz (lvT t n), szz (lvT t n), clT t n⟩ := by
  have a := lvP_T (t := t) (j := j) h
  have b := clP_T (t := t) (j := j) h
  have hl : n.toNat < (ptQ t j).length := by rw [ptQ_len]; omega
  rw [← a, ← b]
  unfold lvP clP at_ famT
  simp [List.getD_eq_getElem?_getD, hl]
/-- What a new part's cells are. -/
def gT (t : List Int) (j : Nat) : Int → Int → Int := makQ (ptQ t j) t j (szz (lvT t (entT t j 0)))
theorem famT_succ (h0 : entT t j 0 < (j : Int) + 2) (hh : h = szz (lvT t (entT t j 0))) : famT t (j + 1) = famT t j ++ [⟨2 * h, 2 * h, mkL (2 * h) (gT t j) ((2 * h).toNat * (2 * h).toNat)⟩] := by
  have zz := szz_succ (lvT t (entT t j 0))
  rw [hh, show 2 * szz (lvT t (entT t j 0)) = szz (lvT t (entT t j 0) + 1) by omega]
  show (ptQ t j ++ [mkP (ptQ t j) t j]).map _ = _
  rw [List.map_append]
  congr 1
  simp only [List.map_cons, List.map_nil, mkP, gT, lvP_T h0]
theorem famT_zero (t : List Int) : famT t 0 = [⟨1, 1, [0]⟩, ⟨1, 1, [1]⟩] := rfl
/-- The entries of a chunk. -/
theorem row_ent (hq : q < 4) : at_ 0 (rowL 4 t i) (q : Int) = entT t i q := by
  unfold rowL entT at_
  simp only [List.getD_eq_getElem?_getD]
  rw [show (4 * (i : Int) + (q : Int)).toNat = i * 4 + q by omega, show ((q : Int)).toNat = q by omega]
  rw [List.getElem?_take_of_lt hq, List.getElem?_drop]
theorem row_ent0 : at_ 0 (rowL 4 t i) 0 = entT t i 0 := row_ent (q := 0) (by omega)
def okK (t : List Int) (i q : Nat) : Prop := (0 ≤ entT t i q ∧ entT t i q ≤ (i : Int) + 1) ∧ lvT t (entT t i q) = lvT t (entT t i 0) ∧ lvT t (entT t i q) ≤ 3
theorem okK_snoc (hm : ∀ p : Nat, p < q → okK t i p) (h : okK t i q) : ∀ p : Nat, p < q + 1 → okK t i p := fun p hp => by
  by_cases e : p = q
  · subst e; exact h
  · exact hm p (by omega)
theorem ent_first (hm : ∀ p : Nat, p < q → okK t i p) (h : 0 ≤ entT t i q ∧ entT t i q ≤ (i : Int) + 1) : 0 ≤ entT t i 0 ∧ entT t i 0 ≤ (i : Int) + 1 := by
  by_cases e : q = 0
  · subst e; simpa using h
  · have := (hm 0 (by omega)).1; simpa using this
theorem szz_inj {b : Nat} (h : szz a = szz b) : a = b := by
  rw [← szz_cast, ← szz_cast] at h
  have h' : 2 ^ a = 2 ^ b := by exact_mod_cast h
  rcases Nat.lt_trichotomy a b with c | c | c
  · have := Nat.pow_lt_pow_right (show 1 < 2 by omega) c; omega
  · exact c
  · have := Nat.pow_lt_pow_right (show 1 < 2 by omega) c; omega
theorem szz_le8 (h : ¬ 8 < szz a) : a ≤ 3 := by
  by_cases hh : a ≤ 3
  · exact hh
  · exfalso
    have h2 : 2 ^ 4 ≤ 2 ^ a := Nat.pow_le_pow_right (by omega) (by omega)
    have := szz_cast a
    omega
theorem szz_8 (h : a ≤ 3) : szz a ≤ 8 := by
  rcases show a = 0 ∨ a = 1 ∨ a = 2 ∨ a = 3 by omega with rfl | rfl | rfl | rfl <;> decide
theorem sz_lv {e : Nat} (h : szz e = 4 ∨ szz e = 8 ∨ szz e = 16) : 2 ≤ e ∧ e ≤ 4 := by
  rcases h with h | h | h
  · rw [szz_inj (h.trans (show (4 : Int) = szz 2 from rfl))]; omega
  · rw [szz_inj (h.trans (show (8 : Int) = szz 3 from rfl))]; omega
  · rw [szz_inj (h.trans (show (16 : Int) = szz 4 from rfl))]; omega
theorem top_le (ht : okQ t) (h4 : t.length % 4 = 0) (h0 : t.length ≠ 0) : lvT t (topT t) ≤ 4 ∧ (clT t (topT t)).length ≤ 256 := by
  obtain ⟨j, hj⟩ : ∃ j, t.length / 4 = j + 1 := ⟨t.length / 4 - 1, by omega⟩
  have ok := ht j (by omega) 0 (by omega)
  simp only [Int.natCast_zero] at ok
  have e : topT t = (j : Int) + 2 := by unfold topT; omega
  have hl : lvT t (topT t) ≤ 4 := by rw [e, lvT_new (by omega)]; omega
  refine ⟨hl, ?_⟩
  rw [clT_len ht (t.length / 4) (topT t) (by unfold topT; omega) (by unfold topT; omega) (by omega)]
  have h16 : 2 ^ lvT t (topT t) ≤ 2 ^ 4 := Nat.pow_le_pow_right (by omega) hl
  exact Nat.mul_le_mul h16 h16
theorem okJ_snoc (hm : ∀ p : Nat, p < i → okJ t p) (h : okJ t i) : ∀ p : Nat, p < i + 1 → okJ t p := fun p hp => by
  by_cases e : p = i
  · subst e; exact h
  · exact hm p (by omega)
theorem C.c59 {i k : Int} {po pq ph z : Value} {Sv : Rg} {K : Value → Hp → Prop} (hpo : Cel H po [v]) (hpq : Cel H pq [z]) (hph : Cel H ph [.int .i64 h]) (hv : Fam H v Sv (famT t j)) (hz : Sl eI H z (rowL 4 t j)) (hzl : (rowL 4 t j).length = 4) (ok0 : ∀ p : Nat, p < j + 1 → okJ t p) (hh : h = szz (lvT t (entT t j 0)))
    (i0 : 0 ≤ i) (i1 : i < 2 * h) (k0 : 0 ≤ k) (k1 : k < 2 * h) (hk : ∀ H', Le H H' → K (.int .i64 (gT t j i k)) H') : HT prg 82 [.int .i64 i, .int .i64 k, po, pq, ph].toArray H K := by
 have ok := ok0 j (by omega)
 have zp := szz_pos (lvT t (entT t j 0))
 have l0 := (ok 0 (by omega)).2.2
 simp only [Int.natCast_zero] at l0
 have z8 := szz_8 l0
 have di := div01 (z := h) (m := i) (by omega) i0 (by omega)
 have dk := div01 (z := h) (m := k) (by omega) k0 (by omega)
 have mi0 := Int.emod_nonneg i (show h ≠ 0 by omega)
 have mi1 := Int.emod_lt_of_pos i (show 0 < h by omega)
 have mk0 := Int.emod_nonneg k (show h ≠ 0 by omega)
 have mk1 := Int.emod_lt_of_pos k (show 0 < h by omega)
 obtain ⟨q, hq4, hq⟩ : ∃ q : Nat, q < 4 ∧ i / h * 2 + k / h = (q : Int) := ⟨(i / h * 2 + k / h).toNat, by omega, by omega⟩
 obtain ⟨a, b, c⟩ := ok q hq4
 have e := row_ent (t := t) (i := j) hq4
 refine R.q82 ?_
 unfold F.q82
 refine ob_i (hpo.ld0 rfl) (ob_i (hpq.ld0 rfl) (ob_i (hph.ld0 rfl) (ob_i (vInt_quoN (by omega) (by omega) (by omega)) (ob_i (vInt_mul (by omega) (by omega)) (ob_i (hph.ld0 rfl) (ob_i (vInt_quoN (by omega) (by omega) (by omega)) (ob_i (vInt_add (by omega) (by omega)) ?_)))))))
 rw [hq]
 refine ob_i (hz.ix (by omega) (by omega)) (ob_i (hz.ld 0 (by omega) (by omega)) ?_)
 rw [e]
 obtain ⟨P, y, e1, oP, oy, _, _⟩ := hv.el (i := entT t j q) a.1 (by rw [famT_len]; omega) (famT_at a.1 (by omega))
 refine ob_i e1 (ob_i (oP.ldn rfl) (ob_i (hph.ld0 rfl) (ob_i (vInt_remN (by omega) (by omega)) (ob_i (hph.ld0 rfl) (ob_i (vInt_remN (by omega) (by omega)) ?_)))))
 replace oy : Ro eI H y (clT t (entT t j q)) := oy
 have hlen := clT_lenN j (entT t j q) (fun p hp => ok0 p (by omega)) a.1 a.2
 have hL : ((clT t (entT t j q)).length : Int) = h * h := by rw [hlen, Int.natCast_mul, szz_cast, b, ← hh]
 have hpl := place_lt (c := h) (r := h) mi0 mi1 mk0 mk1
 have hm0 := Int.mul_nonneg mi0 (show 0 ≤ h by omega)
 have hmm := Int.mul_le_mul_of_nonneg_right (show h ≤ 8 by omega) (show 0 ≤ h by omega)
 have hbh : szz (lvT t (entT t j q)) = h := by rw [b, hh]
 simp only [hbh]
 refine C.c11 oy.sl hm0 (by omega) (by omega) (by omega) (by omega) (fun H' le => ⟨le, ?_⟩)
 have hr := hk H' le
 unfold gT makQ at hr
 rw [← hh, hq, clP_T (by omega)] at hr
 exact hr

end Go.Proofs.Ythmdmbbdjbhcoaa
/- Fields that are read back from their quarters, by the program. -/
namespace Go.Proofs.Ythmdmbbdjbhcoaa
open HL
set_option maxRecDepth 100000
theorem C.c60 {vt : Value} {t : List Int}  {H : Hp} {K : Value → Hp → Prop} (hvt0 : Sl eI H vt t) (k1 : t.length ≤ 9223372036854775807)
    (hk : ∀ u1 H', Own eI H' u1 (selL (tfP t) (clT t (topT t))) → Nw H u1 → Le H H' → K (.tuple #[(.agg #[(.int .i64 (selI (tfP t) (szz (lvT t (topT t))))), (.int .i64 (selI (tfP t) (szz (lvT t (topT t))))), u1]), (.bool (decide (tfP t)))]) H') : HT prg 37 [vt].toArray H K := by
 have lE := Le.refl H
 refine R.q37 ?_
 unfold F.q37
 refine nw_i (fun p2 H1 op2 nn2 le3 => ?_)
 have np2 := nn2.le lE
 replace op2 : Cel H1 p2 [(.int .i64 (0)), (.int .i64 (0)), (.slice none 0 0)] := op2
 refine nw_i (fun p3 H4 op3 nn5 le6 => ?_)
 have ap2Xp3 := op2.apart nn5
 replace lE := lE.trans le3
 have np3 := nn5.le lE
 replace op3 : Cel H4 p3 [(.bool false)] := op3
 replace lE := lE.trans le6
 refine ob_i ((hvt0.le lE).len) (ob_i (vInt_eql _ _ _) ?_)
 by_cases hc7 : (((t).length : Int)) = 0
 refine hQT hc7 (hQT hc7 (hQT hc7 (ob_i (vPick_et (decide_eq_true hc7) _ _) (gop_st (gop_st (gop_st (gop_st (ob_i (vPick_t _ _) (cnd_t1 ?_)))))))))
 refine ob_i (a := (.agg #[(.int .i64 (0)), (.int .i64 (0)), (.slice none 0 0)])) (by rfl) ?_
 replace op2 := op2.le le6
 refine op2.stn (ws := [(.int .i64 (0)), (.int .i64 (0)), (.slice none 0 0)]) rfl rfl (oc1 rfl (oc1 rfl (oc1 rfl oc0))) (fun H8 op2 off9 => ?_)
 replace op3 := op3.off off9 ap2Xp3.symm
 refine op3.st0 (by simp) rfl rfl (fun H10 op3 off11 => ?_)
 replace op3 : Cel H10 p3 [(.bool false)] := op3
 replace op2 := op2.off off11 ap2Xp3
 refine ob_i (op2.ldn rfl) (ob_i (op3.ld0 rfl) ?_)
 have hok : ¬ (tfP t) := by intro h; have h0 := h.1; first | (exfalso; omega) | exact absurd (sq_clT h.2.1 h0.2.2 h.2.2.1) (by assumption) | exact absurd h.2.2.2 (by assumption)
 replace lE := off11.le (off9.le lE np2) np3
 exact keq (K := K) (by rw [show ((selI (tfP t) (szz (lvT t (topT t)))) : Int) = (0) from by first | exact selI_t hok | exact selI_f hok]; rw [decide_eq_false (show ¬ (tfP t) from by exact hok)]) (hk  (.slice none 0 0) _ (Own.cast (show [] = selL (tfP t) (clT t (topT t)) by exact (selL_f hok).symm) (Own.nil_of none)) (fun b hb => by simp [bk] at hb)  lE)
 refine gQF hc7 (gQF hc7 (ob_i ((hvt0.le lE).len) (gQF hc7 (ob_i (vInt_gtr _ _ _) (ob_i (vPick_ef (decide_eq_false hc7) _ _) ?_)))))
 by_cases hc12 : 1024 < (((t).length : Int))
 refine hQT hc12 (hQT hc12 (hQT hc12 (hQT hc12 (ob_i (vPick_et (decide_eq_true hc12) _ _) (cnd_t1 (ob_i (a := (.agg #[(.int .i64 (0)), (.int .i64 (0)), (.slice none 0 0)])) (by rfl) ?_))))))
 replace op2 := op2.le le6
 refine op2.stn (ws := [(.int .i64 (0)), (.int .i64 (0)), (.slice none 0 0)]) rfl rfl (oc1 rfl (oc1 rfl (oc1 rfl oc0))) (fun H13 op2 off14 => ?_)
 replace op3 := op3.off off14 ap2Xp3.symm
 refine op3.st0 (by simp) rfl rfl (fun H15 op3 off16 => ?_)
 replace op3 : Cel H15 p3 [(.bool false)] := op3
 replace op2 := op2.off off16 ap2Xp3
 refine ob_i (op2.ldn rfl) (ob_i (op3.ld0 rfl) ?_)
 have hok : ¬ (tfP t) := by intro h; have h0 := h.1; first | (exfalso; omega) | exact absurd (sq_clT h.2.1 h0.2.2 h.2.2.1) (by assumption) | exact absurd h.2.2.2 (by assumption)
 replace lE := off16.le (off14.le lE np2) np3
 exact keq (K := K) (by rw [show ((selI (tfP t) (szz (lvT t (topT t)))) : Int) = (0) from by first | exact selI_t hok | exact selI_f hok]; rw [decide_eq_false (show ¬ (tfP t) from by exact hok)]) (hk  (.slice none 0 0) _ (Own.cast (show [] = selL (tfP t) (clT t (topT t)) by exact (selL_f hok).symm) (Own.nil_of none)) (fun b hb => by simp [bk] at hb)  lE)
 refine gQF hc12 (gQF hc12 (ob_i ((hvt0.le lE).len) (gQF hc12 (ob_i (vInt_remN (by omega) (by omega)) (gQF hc12 (ob_i (vInt_neq _ _ _) (ob_i (vPick_ef (decide_eq_false hc12) _ _) (cnd_d (fun hg17 => ?_) (fun hg17 => ?_)))))))))
 refine ob_i (a := (.agg #[(.int .i64 (0)), (.int .i64 (0)), (.slice none 0 0)])) (by rfl) ?_
 replace op2 := op2.le le6
 refine op2.stn (ws := [(.int .i64 (0)), (.int .i64 (0)), (.slice none 0 0)]) rfl rfl (oc1 rfl (oc1 rfl (oc1 rfl oc0))) (fun H18 op2 off19 => ?_)
 replace op3 := op3.off off19 ap2Xp3.symm
 refine op3.st0 (by simp) rfl rfl (fun H20 op3 off21 => ?_)
 replace op3 : Cel H20 p3 [(.bool false)] := op3
 replace op2 := op2.off off21 ap2Xp3
 refine ob_i (op2.ldn rfl) (ob_i (op3.ld0 rfl) ?_)
 have hok : ¬ (tfP t) := by intro h; have h0 := h.1; first | (exfalso; omega) | exact absurd (sq_clT h.2.1 h0.2.2 h.2.2.1) (by assumption) | exact absurd h.2.2.2 (by assumption)
 replace lE := off21.le (off19.le lE np2) np3
 exact keq (K := K) (by rw [show ((selI (tfP t) (szz (lvT t (topT t)))) : Int) = (0) from by first | exact selI_t hok | exact selI_f hok]; rw [decide_eq_false (show ¬ (tfP t) from by exact hok)]) (hk  (.slice none 0 0) _ (Own.cast (show [] = selL (tfP t) (clT t (topT t)) by exact (selL_f hok).symm) (Own.nil_of none)) (fun b hb => by simp [bk] at hb)  lE)
 refine bS_i (enc := eI) (l := [0]) (by omega) rfl (by kernel_rfl) (fun u22 H23 ou22 nn24 le26 => ?_)
 replace op2 := op2.le le6
 have ap2Xu22 := op2.apart nn24
 have ap3Xu22 := op3.apart nn24
 have nu22 := nn24.le lE
 refine ob_i (a := (.agg #[(.int .i64 (1)), (.int .i64 (1)), u22])) (by obtain ⟨_, _, _, rfl⟩ := ou22.isSl; rfl) ?_
 refine bS_i (enc := eI) (l := [1]) (by omega) rfl (by kernel_rfl) (fun u27 H28 ou27 nn29 le31 => ?_)
 replace op2 := op2.le le26
 have ap2Xu27 := op2.apart nn29
 replace op3 := op3.le le26
 have ap3Xu27 := op3.apart nn29
 have au22Xu27 := ou22.apart nn29
 replace lE := lE.trans le26
 have nu27 := nn29.le lE
 refine ob_i (a := (.agg #[(.int .i64 (1)), (.int .i64 (1)), u27])) (by obtain ⟨_, _, _, rfl⟩ := ou27.isSl; rfl) ?_
 refine bSE_i (enc := encFv) (n := 3) (l := ([⟨1, 1, u22⟩, ⟨1, 1, u27⟩] : List Fv)) (by omega) rfl encFv_n (by kernel_rfl) (fun fm H32 ofm nn33 le35 => ?_)
 replace op2 := op2.le le31
 have ap2Xfm := op2.apart nn33
 replace op3 := op3.le le31
 have ap3Xfm := op3.apart nn33
 replace ou22 := ou22.le le31
 have au22Xfm := ou22.apart nn33
 have au27Xfm := ou27.apart nn33
 replace lE := lE.trans le31
 have nfm := nn33.le lE
 replace ou22 := ou22.le le35
 replace ou27 := ou27.le le35
 obtain ⟨Sfm, of36, hS36⟩ := Fam.two_of ofm ou22 ou27 au22Xfm.symm au27Xfm.symm au22Xu27
 replace ap2Xfm : Apt p2 Sfm := Apt.of_three hS36 ap2Xfm ap2Xu22 ap2Xu27
 replace ap3Xfm : Apt p3 Sfm := Apt.of_three hS36 ap3Xfm ap3Xu22 ap3Xu27
 replace nfm : Nws H Sfm := Nws.of_three hS36 nfm nu22 nu27
 replace ofm : Fam H32 fm Sfm ([⟨1, 1, [0]⟩, ⟨1, 1, [1]⟩]) := of36
 refine nw_i (fun po H37 opo nn38 le39 => ?_)
 replace op2 := op2.le le35
 have ap2Xpo := op2.apart nn38
 replace op3 := op3.le le35
 have ap3Xpo := op3.apart nn38
 have afmXpo : Apt Sfm po := Apt.of_nw ofm.known nn38
 replace lE := lE.trans le35
 have npo := nn38.le lE
 replace opo : Cel H37 po [(.slice none 0 0)] := opo
 replace ofm := ofm.le le39
 refine opo.st0 (by simp) ofm.one ofm.cells (fun H40 opo off41 => ?_)
 replace opo : Cel H40 po [fm] := opo
 refine jn_i (fun σ' H' => ∃ v, ∃ Sv, σ' 0 = vt ∧ σ' 2 = p2 ∧ σ' 3 = p3 ∧ σ' 4 = po ∧ Cel H' p2 [(.int .i64 (0)), (.int .i64 (0)), (.slice none 0 0)] ∧ Cel H' p3 [(.bool false)] ∧ Cel H' po [v] ∧ Fam H' v Sv (famT t (t.length / 4)) ∧ Nws H Sv ∧ Apt p2 Sv ∧ Apt p3 Sv ∧ Apt po Sv ∧ Le H H' ∧ okQ t) (fun σ42 H42 hP => ?_) (fun J42 hJ42 => ?_)
 replace op2 := (op2.le le39).off off41 ap2Xpo
 replace op3 := (op3.le le39).off off41 ap3Xpo
 replace lE := off41.le (lE.trans le39) npo
 obtain ⟨v, Sv, g0L42, g2L42, g3L42, g4L42, op2, op3, opo, ov, nv, ap2Xv, ap3Xv, apoXv, lE, hm0⟩ := hP
 try simp only [g0L42, g2L42, g3L42, g4L42]
 have fl := famT_len t (t.length / 4)
 refine ob_i (opo.ld0 rfl) (ob_i (opo.ld0 rfl) (ob_i (ov.len) (ob_i (vInt_sub (by omega) (by omega)) ?_)))
 obtain ⟨P43, y44, hb45a, oP43, oy44, hb45p, hb45x⟩ := ov.elO (i := (((famT t (t.length / 4)).length : Int)) - 1) (f := ⟨szz (lvT t (topT t)), szz (lvT t (topT t)), clT t (topT t)⟩) (by omega) (by first | omega | (simp; omega)) (by rw [show ((((famT t (t.length / 4)).length : Int)) - 1) = topT t by rw [famT_len]; unfold topT; omega]; exact famT_at (by unfold topT; omega) (by unfold topT; omega))
 have ap2Xy44 : Apart p2 y44 := fun b h1 h2 => ap2Xv b h1 (hb45x b h2)
 have ap3Xy44 : Apart p3 y44 := fun b h1 h2 => ap3Xv b h1 (hb45x b h2)
 have ny44 : Nw H y44 := fun b h => nv b (hb45x b h)
 replace oP43 : CelR H42 P43 [(.int .i64 (szz (lvT t (topT t)))), (.int .i64 (szz (lvT t (topT t)))), y44] := oP43
 replace oy44 : Own eI H42 y44 (clT t (topT t)) := oy44
 refine ob_i (hb45a) (ob_i (oP43.ldn rfl) (nw_i (fun p9 H46 op9 nn47 le48 => ?_)))
 have ap2Xp9 := op2.apart nn47
 have ap3Xp9 := op3.apart nn47
 have ay44Xp9 := oy44.apart nn47
 have np9 := nn47.le lE
 replace oy44 := oy44.le le48
 refine op9.stn (ws := [(.int .i64 (szz (lvT t (topT t)))), (.int .i64 (szz (lvT t (topT t)))), y44]) rfl rfl (oc1 rfl (oc1 rfl (oc1 oy44.one oc0))) (fun H49 op9 off50 => ?_)
 refine ob_i (op9.ldn rfl) ?_
 replace oy44 := oy44.off off50 ay44Xp9
 refine C.c40 oy44.sl (by have := (top_le hm0 (by omega) (by omega)).2; omega) (fun   H51    le52 => ?_)
 refine ob_nd (fun hc53 => ?_) (fun hc53 => ?_)
 refine gop_rf ?_
 replace op9 := op9.le le52
 refine ob_i (op9.ldn rfl) (gop_rf ?_)
 replace oy44 := oy44.le le52
 refine C.c55 oy44.sl (by assumption) (fun  u56 H54 ou56 nn57  le55 => ?_)
 refine gop_rf (gop_rf ?_)
 replace lE := ((off50.le (lE.trans le48) np9).trans le52).trans le55
 refine C.c19 ou56.sl (hvt0.le lE) (by have := tre_len (by assumption : sqP _ _ _); omega) ?_
 refine gop_rf (ob_nd (fun hc58 => ?_) (fun hc58 => ?_))
 refine ob_i (vPick_f _ _) (cnd_f1 ?_)
 replace op9 := op9.le le55
 refine ob_i (op9.ldn rfl) ?_
 replace op2 := (((op2.le le48).off off50 ap2Xp9).le le52).le le55
 replace oy44 := oy44.le le55
 refine op2.stn (ws := [(.int .i64 (szz (lvT t (topT t)))), (.int .i64 (szz (lvT t (topT t)))), y44]) rfl rfl (oc1 rfl (oc1 rfl (oc1 oy44.one oc0))) (fun H59 op2 off60 => ?_)
 replace op3 := ((((op3.le le48).off off50 ap3Xp9).le le52).le le55).off off60 ap2Xp3.symm
 refine op3.st0 (by simp) rfl rfl (fun H61 op3 off62 => ?_)
 replace op3 : Cel H61 p3 [(.bool true)] := op3
 replace op2 := op2.off off62 ap2Xp3
 refine ob_i (op2.ldn rfl) (ob_i (op3.ld0 rfl) ?_)
 have hok : tfP t := by exact ⟨⟨by omega, by omega, by omega⟩, hm0, sz_lv (show sqP (szz (lvT t (topT t))) (szz (lvT t (topT t))) (clT t (topT t)) by assumption).2.2, by assumption⟩
 replace oy44 := (oy44.off off60 ap2Xy44.symm).off off62 ap3Xy44.symm
 replace lE := off62.le (off60.le lE np2) np3
 exact keq (K := K) (by rw [show ((selI (tfP t) (szz (lvT t (topT t)))) : Int) = (szz (lvT t (topT t))) from by first | exact selI_t hok | exact selI_f hok]; rw [decide_eq_true (show (tfP t) from by exact hok)]) (hk  y44 _ (Own.cast (show clT t (topT t) = selL (tfP t) (clT t (topT t)) by exact (selL_t hok).symm) oy44) ny44  lE)
 refine ob_i (vPick_f _ _) (cnd_t1 (ob_i (a := (.agg #[(.int .i64 (0)), (.int .i64 (0)), (.slice none 0 0)])) (by rfl) ?_))
 replace op2 := (((op2.le le48).off off50 ap2Xp9).le le52).le le55
 refine op2.stn (ws := [(.int .i64 (0)), (.int .i64 (0)), (.slice none 0 0)]) rfl rfl (oc1 rfl (oc1 rfl (oc1 rfl oc0))) (fun H63 op2 off64 => ?_)
 replace op3 := ((((op3.le le48).off off50 ap3Xp9).le le52).le le55).off off64 ap2Xp3.symm
 refine op3.st0 (by simp) rfl rfl (fun H65 op3 off66 => ?_)
 replace op3 : Cel H65 p3 [(.bool false)] := op3
 replace op2 := op2.off off66 ap2Xp3
 refine ob_i (op2.ldn rfl) (ob_i (op3.ld0 rfl) ?_)
 have hok : ¬ (tfP t) := by intro h; have h0 := h.1; first | (exfalso; omega) | exact absurd (sq_clT h.2.1 h0.2.2 h.2.2.1) (by assumption) | exact absurd h.2.2.2 (by assumption)
 replace lE := off66.le (off64.le lE np2) np3
 exact keq (K := K) (by rw [show ((selI (tfP t) (szz (lvT t (topT t)))) : Int) = (0) from by first | exact selI_t hok | exact selI_f hok]; rw [decide_eq_false (show ¬ (tfP t) from by exact hok)]) (hk  (.slice none 0 0) _ (Own.cast (show [] = selL (tfP t) (clT t (topT t)) by exact (selL_f hok).symm) (Own.nil_of none)) (fun b hb => by simp [bk] at hb)  lE)
 refine gop_st (gop_st (gop_st (gop_st (gop_st (ob_i (vPick_t _ _) (cnd_t1 (ob_i (a := (.agg #[(.int .i64 (0)), (.int .i64 (0)), (.slice none 0 0)])) (by rfl) ?_)))))))
 replace op2 := ((op2.le le48).off off50 ap2Xp9).le le52
 refine op2.stn (ws := [(.int .i64 (0)), (.int .i64 (0)), (.slice none 0 0)]) rfl rfl (oc1 rfl (oc1 rfl (oc1 rfl oc0))) (fun H67 op2 off68 => ?_)
 replace op3 := (((op3.le le48).off off50 ap3Xp9).le le52).off off68 ap2Xp3.symm
 refine op3.st0 (by simp) rfl rfl (fun H69 op3 off70 => ?_)
 replace op3 : Cel H69 p3 [(.bool false)] := op3
 replace op2 := op2.off off70 ap2Xp3
 refine ob_i (op2.ldn rfl) (ob_i (op3.ld0 rfl) ?_)
 have hok : ¬ (tfP t) := by intro h; have h0 := h.1; first | (exfalso; omega) | exact absurd (sq_clT h.2.1 h0.2.2 h.2.2.1) (by assumption) | exact absurd h.2.2.2 (by assumption)
 replace lE := off70.le (off68.le ((off50.le (lE.trans le48) np9).trans le52) np2) np3
 exact keq (K := K) (by rw [show ((selI (tfP t) (szz (lvT t (topT t)))) : Int) = (0) from by first | exact selI_t hok | exact selI_f hok]; rw [decide_eq_false (show ¬ (tfP t) from by exact hok)]) (hk  (.slice none 0 0) _ (Own.cast (show [] = selL (tfP t) (clT t (topT t)) by exact (selL_f hok).symm) (Own.nil_of none)) (fun b hb => by simp [bk] at hb)  lE)
 replace lE := off41.le (lE.trans le39) npo
 refine C.c57 (hvt0.le lE) (by omega) (fun ps71 pn72 H73 ops71 opn72 nn75 nn76 aps71Xpn72 le74 => ?_)
 replace ofm := ofm.off off41 afmXpo
 have afmXps71 : Apt Sfm ps71 := Apt.of_nw ofm.known nn75
 have apoXps71 := opo.apart nn75
 have afmXpn72 : Apt Sfm pn72 := Apt.of_nw ofm.known nn76
 have apoXpn72 := opo.apart nn76
 replace ops71 : Cel H73 ps71 [vt] := ops71
 replace opn72 : Cel H73 pn72 [(.int .i64 (4))] := opn72
 replace op2 := ((op2.le le39).off off41 ap2Xpo).le le74
 replace op3 := ((op3.le le39).off off41 ap3Xpo).le le74
 replace ofm := ofm.le le74
 replace opo := opo.le le74
 replace lE := lE.trans le74
 refine rgE_i ((t.length / 4)) (fun (i : Nat) => [chV vt (i * 4) 4]) (fun (i : Nat) H' => ∃ v, ∃ Sv, Cel H' p2 [(.int .i64 (0)), (.int .i64 (0)), (.slice none 0 0)] ∧ Cel H' p3 [(.bool false)] ∧ Cel H' po [v] ∧ Cel H' ps71 [vt] ∧ Cel H' pn72 [(.int .i64 (4))] ∧ Fam H' v Sv (famT t i) ∧ Nws H Sv ∧ Apt p2 Sv ∧ Apt p3 Sv ∧ Apt po Sv ∧ Apt ps71 Sv ∧ Apt pn72 Sv ∧ Le H H' ∧ (∀ p : Nat, p < i → okJ t p)) trivial (fun _ => rfl) ⟨fm, _, op2, op3, opo, ops71, opn72, (Fam.cast (famT_zero t).symm ofm), nfm, ap2Xfm, ap3Xfm, afmXpo.symm, afmXps71.symm, afmXpn72.symm, lE, (fun p hp => by omega)⟩ (fun i H77 σ77 Q77 hiN hσ77 qn77 qr77 qx77 hI77 => ?_) (fun H77 hI77 => ?_) (fun yv J St H1 K1 hJ h0 hst hk1 hs1 => ?_)
 obtain ⟨v, Sv, op2, op3, opo, ops71, opn72, ov, nv, ap2Xv, ap3Xv, apoXv, aps71Xv, apn72Xv, lE, hm0⟩ := hI77
 have hz780 : Sl eI H (chV vt (i * 4) 4) (rowL 4 t i) := (chV_sl hvt0 (lo := i * 4) (c := 4) (by omega)).2
 obtain ⟨z78, ez78⟩ : ∃ z, z = chV vt (i * 4) 4 := ⟨_, rfl⟩
 rw [← ez78] at hz780
 have rz78 : (rowL 4 t i).length = 4 := rowL_len (r := (t.length / 4)) (by omega) (by omega)
 have g2L77 : σ77 2 = p2 := by rw [hσ77]; exact rfl
 have g3L77 : σ77 3 = p3 := by rw [hσ77]; exact rfl
 have g4L77 : σ77 4 = po := by rw [hσ77]; exact rfl
 have g32L77 : σ77 32 = z78 := by rw [hσ77, ← ez78]; rfl
 try simp only [g2L77, g3L77, g4L77, g32L77]
 have fl := famT_len t i
 refine nw_i (fun pq H79 opq nn80 le81 => ?_)
 have ap2Xpq := op2.apart nn80
 have ap3Xpq := op3.apart nn80
 have apoXpq := opo.apart nn80
 have aps71Xpq := ops71.apart nn80
 have apn72Xpq := opn72.apart nn80
 have avXpq : Apt Sv pq := Apt.of_nw ov.known nn80
 have npq := nn80.le lE
 replace opq : Cel H79 pq [(.slice none 0 0)] := opq
 replace lE := lE.trans le81
 refine opq.st0 (by simp) (hz780.le lE).one (hz780.le lE).cells (fun H82 opq off83 => ?_)
 replace opq : Cel H82 pq [z78] := opq
 refine jn_i (fun σ' H' => σ' 4 = po ∧ σ' 5 = pq ∧ Cel H' p2 [(.int .i64 (0)), (.int .i64 (0)), (.slice none 0 0)] ∧ Cel H' p3 [(.bool false)] ∧ Cel H' po [v] ∧ Cel H' ps71 [vt] ∧ Cel H' pn72 [(.int .i64 (4))] ∧ Fam H' v Sv (famT t i) ∧ Cel H' pq [z78] ∧ Le H H' ∧ okJ t i) (fun σ84 H84 hP => ?_) (fun J84 hJ84 => ?_)
 replace op2 := (op2.le le81).off off83 ap2Xpq
 replace op3 := (op3.le le81).off off83 ap3Xpq
 replace opo := (opo.le le81).off off83 apoXpq
 replace ops71 := (ops71.le le81).off off83 aps71Xpq
 replace opn72 := (opn72.le le81).off off83 apn72Xpq
 replace ov := (ov.le le81).off off83 avXpq
 replace lE := off83.le lE npq
 obtain ⟨g4L84, g5L84, op2, op3, opo, ops71, opn72, ov, opq, lE, hok⟩ := hP
 try simp only [g4L84, g5L84]
 have zp := szz_pos (lvT t (at_ 0 (rowL 4 t i) 0))
 have l3 : lvT t (at_ 0 (rowL 4 t i) 0) ≤ 3 := by rw [row_ent0]; have := (hok 0 (by omega)).2.2; simpa using this
 have z8 := szz_8 l3
 refine ob_i (opo.ld0 rfl) (ob_i (opq.ld0 rfl) (ob_i ((hz780.le lE).ix (by omega) (by omega)) (ob_i ((hz780.le lE).ld 0 (by omega) (by omega)) ?_)))
 have hr0 : 0 ≤ (at_ 0 (rowL 4 t i) 0) ∧ (at_ 0 (rowL 4 t i) 0) ≤ (i : Int) + 1 := by rw [row_ent0]; first | exact ent_first hq0 (by rw [← row_ent (by omega)]; omega) | (have := (hok 0 (by omega)).1; simpa using this)
 obtain ⟨P85, y86, hb87a, oP85, oy86, hb87p, hb87x⟩ := ov.el (i := at_ 0 (rowL 4 t i) (0)) (f := ⟨szz (lvT t (at_ 0 (rowL 4 t i) (0))), szz (lvT t (at_ 0 (rowL 4 t i) (0))), clT t (at_ 0 (rowL 4 t i) (0))⟩) (by omega) (by first | omega | (simp; omega)) (famT_at (by omega) (by omega))
 replace oP85 : CelR H84 P85 [(.int .i64 (szz (lvT t (at_ 0 (rowL 4 t i) (0))))), (.int .i64 (szz (lvT t (at_ 0 (rowL 4 t i) (0))))), y86] := oP85
 replace oy86 : Ro eI H84 y86 (clT t (at_ 0 (rowL 4 t i) (0))) := oy86
 refine ob_i (hb87a) (ob_i (oP85.fa 0) (ob_i (oP85.ld 0 rfl) (nw_i (fun ph H88 oph nn89 le90 => ?_))))
 have ap2Xph := op2.apart nn89
 have ap3Xph := op3.apart nn89
 have apoXph := opo.apart nn89
 have aps71Xph := ops71.apart nn89
 have apn72Xph := opn72.apart nn89
 have avXph : Apt Sv ph := Apt.of_nw ov.known nn89
 have apqXph := opq.apart nn89
 have nph := nn89.le lE
 replace oph : Cel H88 ph [(.int .i64 (0))] := oph
 refine oph.st0 (by simp) rfl rfl (fun H91 oph off92 => ?_)
 replace oph : Cel H91 ph [(.int .i64 (szz (lvT t (at_ 0 (rowL 4 t i) (0)))))] := oph
 replace opo := (opo.le le90).off off92 apoXph
 refine ob_i (opo.ld0 rfl) (ob_i (oph.ld0 rfl) (ob_i (vInt_mul (by omega) (by omega)) (ob_i (oph.ld0 rfl) (ob_i (vInt_mul (by omega) (by omega)) (C.c13 (g := gT t i) (by omega) (by omega) (by omega) (by omega) (fun H97c i97 k97 Z leZ hi97 hk97 hZ => ?_) (fun u93 H94 ou93 nn95 le96 => ?_))))))
 refine ⟨by kernel_rfl, ?_⟩
 have lZ := Le.refl H97c
 replace ov := ((ov.le le90).off off92 avXph).le leZ
 replace opq := ((opq.le le90).off off92 apqXph).le leZ
 replace lE := (off92.le (lE.trans le90) nph).trans leZ
 replace opo := opo.le leZ
 replace oph := oph.le leZ
 refine C.c59 (t := t) (j := i) opo opq oph ov (hz780.le lE) rz78 (okJ_snoc hm0 hok) (congrArg (fun x => szz (lvT t x)) row_ent0) (by omega) (by omega) (by omega) (by omega) (fun H98 le99 => ?_)
 replace lZ := lZ.trans le99
 exact hZ _ lZ
 replace op2 := (op2.le le90).off off92 ap2Xph
 have ap2Xu93 := op2.apart nn95
 replace op3 := (op3.le le90).off off92 ap3Xph
 have ap3Xu93 := op3.apart nn95
 have apoXu93 := opo.apart nn95
 replace ops71 := (ops71.le le90).off off92 aps71Xph
 have aps71Xu93 := ops71.apart nn95
 replace opn72 := (opn72.le le90).off off92 apn72Xph
 have apn72Xu93 := opn72.apart nn95
 replace ov := (ov.le le90).off off92 avXph
 have avXu93 : Apt Sv u93 := Apt.of_nw ov.known nn95
 replace lE := off92.le (lE.trans le90) nph
 have nu93 := nn95.le lE
 refine ⟨le96, ?_⟩
 refine bSE_one (enc := encFv) (x := (⟨2 * (szz (lvT t (at_ 0 (rowL 4 t i) (0)))), 2 * (szz (lvT t (at_ 0 (rowL 4 t i) (0)))), u93⟩ : Fv)) rfl rfl (by omega) (by omega) rfl (fun u100 H101 ou100 nn102 le104 => ?_) rfl
 replace ov := (ov.le le96).le le104
 replace ou93 := ou93.le le104
 refine Fam.push ov rfl (ou100.sl encFv_n) ou93 avXu93.symm (by omega) (by first | omega | (simp; omega)) (fun u109 Su109 H105 ou109 off106 hb107 hx108 oxu93 => ?_)
 replace op2 := (op2.le le96).le le104
 have ap2Xu109 : Apt p2 Su109 := Apt.push op2.known ap2Xv ap2Xu93 hb107
 replace op3 := (op3.le le96).le le104
 have ap3Xu109 : Apt p3 Su109 := Apt.push op3.known ap3Xv ap3Xu93 hb107
 replace opo := (opo.le le96).le le104
 have apoXu109 : Apt po Su109 := Apt.push opo.known apoXv apoXu93 hb107
 replace ops71 := (ops71.le le96).le le104
 have aps71Xu109 : Apt ps71 Su109 := Apt.push ops71.known aps71Xv aps71Xu93 hb107
 replace opn72 := (opn72.le le96).le le104
 have apn72Xu109 : Apt pn72 Su109 := Apt.push opn72.known apn72Xv apn72Xu93 hb107
 replace lE := (lE.trans le96).trans le104
 have nu109 : Nws H Su109 := Nws.push lE nv nu93 hb107
 replace ou93 := oxu93.ro
 replace opo := opo.offS off106 apoXv
 refine opo.st0 (by simp) ou109.one ou109.cells (fun H110 opo off111 => ?_)
 replace opo : Cel H110 po [u109] := opo
 replace op2 := (op2.offS off106 ap2Xv).off off111 ap2Xpo
 replace op3 := (op3.offS off106 ap3Xv).off off111 ap3Xpo
 replace ops71 := (ops71.offS off106 aps71Xv).off off111 apoXps71.symm
 replace opn72 := (opn72.offS off106 apn72Xv).off off111 apoXpn72.symm
 replace lE := off111.le (off106.le lE nv) npo
 replace ou109 := ou109.off off111 apoXu109.symm
 exact qn77 _ _ ⟨u109, _, op2, op3, opo, ops71, opn72, (Fam.cast (famT_succ (by have := (hok 0 (by omega)).1.2; simp only [Int.natCast_zero] at this; omega) (congrArg (fun x => szz (lvT t x)) row_ent0)).symm ou109), nu109, ap2Xu109, ap3Xu109, apoXu109, aps71Xu109, apn72Xu109, lE, (okJ_snoc hm0 hok)⟩
 refine ob_i (opq.ld0 rfl) ?_
 replace lE := off83.le lE npq
 refine ob_i ((hz780.le lE).len) ?_
 replace op2 := (op2.le le81).off off83 ap2Xpq
 replace op3 := (op3.le le81).off off83 ap3Xpq
 replace opo := (opo.le le81).off off83 apoXpq
 replace ops71 := (ops71.le le81).off off83 aps71Xpq
 replace opn72 := (opn72.le le81).off off83 apn72Xpq
 replace ov := (ov.le le81).off off83 avXpq
 refine ⟨fun n' σ' H' => ∃ q : Nat, n' = 4 - q ∧ q ≤ 4 ∧ σ' 2 = p2 ∧ σ' 3 = p3 ∧ σ' 4 = po ∧ σ' 5 = pq ∧ σ' 33 = z78 ∧ σ' 34 = (.int .i64 (((rowL 4 t i).length : Int))) ∧ σ' 35 = (.int .i64 ((q : Int))) ∧ Cel H' p2 [(.int .i64 (0)), (.int .i64 (0)), (.slice none 0 0)] ∧ Cel H' p3 [(.bool false)] ∧ Cel H' po [v] ∧ Cel H' ps71 [vt] ∧ Cel H' pn72 [(.int .i64 (4))] ∧ Fam H' v Sv (famT t i) ∧ Cel H' pq [z78] ∧ Le H H' ∧ (∀ p : Nat, p < q → okK t i p),
    ⟨_, 0, rfl, by omega, g2L77, g3L77, g4L77, rfl, rfl, rfl, (congrArg (Value.int .i64) (by first | omega | rfl | (simp; done))), op2, op3, opo, ops71, opn72, ov, opq, lE, (fun p hp => by omega)⟩, ?_⟩
 rintro n112 σ112 H112 ⟨q, rfl, hqN, g2L112, g3L112, g4L112, g5L112, g33L112, g34L112, g35L112, op2, op3, opo, ops71, opn72, ov, opq, lE, hq0⟩
 try simp only [g2L112, g3L112, g4L112, g5L112, g33L112, g34L112, g35L112]
 refine ob_i (vInt_lss _ _ _) (cnd_d (fun hg113 => ?_) (fun hg113 => ?_))
 have tq := hg113
 refine ob_i ((hz780.le lE).ix (by omega) (by omega)) (ob_i ((hz780.le lE).ld 0 (by omega) (by omega)) (ob_i (opo.ld0 rfl) (ob_i (ov.len) (ob_i (vInt_sub (by omega) (by omega)) (C.c1  ?_)))))
 refine ⟨Le.refl _, ?_⟩
 refine ob_nd (fun hc114 => ?_) (fun hc114 => ?_)
 refine gop_rf (ob_i (opo.ld0 rfl) (gop_rf (gop_rf ?_)))
 obtain ⟨P115, y116, hb117a, oP115, oy116, hb117p, hb117x⟩ := ov.el (i := at_ 0 (rowL 4 t i) ((q : Int))) (f := ⟨szz (lvT t (at_ 0 (rowL 4 t i) ((q : Int)))), szz (lvT t (at_ 0 (rowL 4 t i) ((q : Int)))), clT t (at_ 0 (rowL 4 t i) ((q : Int)))⟩) (by omega) (by first | omega | (simp; omega)) (famT_at (by omega) (by omega))
 replace oP115 : CelR H112 P115 [(.int .i64 (szz (lvT t (at_ 0 (rowL 4 t i) ((q : Int)))))), (.int .i64 (szz (lvT t (at_ 0 (rowL 4 t i) ((q : Int)))))), y116] := oP115
 replace oy116 : Ro eI H112 y116 (clT t (at_ 0 (rowL 4 t i) ((q : Int)))) := oy116
 refine ob_i (hb117a) (gop_rf (ob_i (oP115.fa 0) (gop_rf (ob_i (oP115.ld 0 rfl) (gop_rf (ob_i (opo.ld0 rfl) (gop_rf (ob_i (opq.ld0 rfl) (gop_rf ?_)))))))))
 refine ob_i ((hz780.le lE).ix (by omega) (by omega)) (gop_rf (ob_i ((hz780.le lE).ld 0 (by omega) (by omega)) (gop_rf ?_)))
 have hr0 : 0 ≤ (at_ 0 (rowL 4 t i) 0) ∧ (at_ 0 (rowL 4 t i) 0) ≤ (i : Int) + 1 := by rw [row_ent0]; first | exact ent_first hq0 (by rw [← row_ent (by omega)]; omega) | (have := (hok 0 (by omega)).1; simpa using this)
 obtain ⟨P118, y119, hb120a, oP118, oy119, hb120p, hb120x⟩ := ov.el (i := at_ 0 (rowL 4 t i) (0)) (f := ⟨szz (lvT t (at_ 0 (rowL 4 t i) (0))), szz (lvT t (at_ 0 (rowL 4 t i) (0))), clT t (at_ 0 (rowL 4 t i) (0))⟩) (by omega) (by first | omega | (simp; omega)) (famT_at (by omega) (by omega))
 replace oP118 : CelR H112 P118 [(.int .i64 (szz (lvT t (at_ 0 (rowL 4 t i) (0))))), (.int .i64 (szz (lvT t (at_ 0 (rowL 4 t i) (0))))), y119] := oP118
 replace oy119 : Ro eI H112 y119 (clT t (at_ 0 (rowL 4 t i) (0))) := oy119
 refine ob_i (hb120a) (gop_rf (ob_i (oP118.fa 0) (gop_rf (ob_i (oP118.ld 0 rfl) (gop_rf (ob_i (vInt_neq _ _ _) (ob_i (vPick_f _ _) ?_)))))))
 by_cases hc121 : (szz (lvT t (at_ 0 (rowL 4 t i) ((q : Int))))) ≠ (szz (lvT t (at_ 0 (rowL 4 t i) (0))))
 refine hQT hc121 (hQT hc121 (hQT hc121 (hQT hc121 (hQT hc121 (hQT hc121 (ob_i (vPick_et (decide_eq_true hc121) _ _) (cnd_t1 (ob_i (a := (.agg #[(.int .i64 (0)), (.int .i64 (0)), (.slice none 0 0)])) (by rfl) ?_))))))))
 refine op2.stn (ws := [(.int .i64 (0)), (.int .i64 (0)), (.slice none 0 0)]) rfl rfl (oc1 rfl (oc1 rfl (oc1 rfl oc0))) (fun H122 op2 off123 => ?_)
 replace op3 := op3.off off123 ap2Xp3.symm
 refine op3.st0 (by simp) rfl rfl (fun H124 op3 off125 => ?_)
 replace op3 : Cel H124 p3 [(.bool false)] := op3
 refine qr77 _ _ ?_
 show ob (vLoadN 3 p2 H124) (fun w0 => ob (vLoad p3 H124) (fun w1 => K (.tuple #[w0, w1]) H124))
 replace op2 := op2.off off125 ap2Xp3
 refine ob_i (op2.ldn rfl) (ob_i (op3.ld0 rfl) ?_)
 have hok : ¬ (tfP t) := by intro h; obtain ⟨k1, k2, k3⟩ := h.2.1 i (by omega) q (by omega); have er := row_ent (t := t) (i := i) (q := q) (by omega); rw [← er] at k1 k2 k3; rw [← row_ent0] at k2; first | (exfalso; omega) | (exact absurd (congrArg szz k2) hc121) | (have := szz_8 k3; exfalso; omega)
 replace lE := off125.le (off123.le lE np2) np3
 exact keq (K := K) (by rw [show ((selI (tfP t) (szz (lvT t (topT t)))) : Int) = (0) from by first | exact selI_t hok | exact selI_f hok]; rw [decide_eq_false (show ¬ (tfP t) from by exact hok)]) (hk  (.slice none 0 0) _ (Own.cast (show [] = selL (tfP t) (clT t (topT t)) by exact (selL_f hok).symm) (Own.nil_of none)) (fun b hb => by simp [bk] at hb)  lE)
 refine gQF hc121 (ob_i (opo.ld0 rfl) (gQF hc121 (gQF hc121 ?_)))
 obtain ⟨P126, y127, hb128a, oP126, oy127, hb128p, hb128x⟩ := ov.el (i := at_ 0 (rowL 4 t i) ((q : Int))) (f := ⟨szz (lvT t (at_ 0 (rowL 4 t i) ((q : Int)))), szz (lvT t (at_ 0 (rowL 4 t i) ((q : Int)))), clT t (at_ 0 (rowL 4 t i) ((q : Int)))⟩) (by omega) (by first | omega | (simp; omega)) (famT_at (by omega) (by omega))
 replace oP126 : CelR H112 P126 [(.int .i64 (szz (lvT t (at_ 0 (rowL 4 t i) ((q : Int)))))), (.int .i64 (szz (lvT t (at_ 0 (rowL 4 t i) ((q : Int)))))), y127] := oP126
 replace oy127 : Ro eI H112 y127 (clT t (at_ 0 (rowL 4 t i) ((q : Int)))) := oy127
 refine ob_i (hb128a) (gQF hc121 (ob_i (oP126.fa 0) (gQF hc121 (ob_i (oP126.ld 0 rfl) (gQF hc121 (ob_i (vInt_gtr _ _ _) (ob_i (vPick_ef (decide_eq_false hc121) _ _) (cnd_d (fun hg129 => ?_) (fun hg129 => ?_)))))))))
 refine ob_i (a := (.agg #[(.int .i64 (0)), (.int .i64 (0)), (.slice none 0 0)])) (by rfl) ?_
 refine op2.stn (ws := [(.int .i64 (0)), (.int .i64 (0)), (.slice none 0 0)]) rfl rfl (oc1 rfl (oc1 rfl (oc1 rfl oc0))) (fun H130 op2 off131 => ?_)
 replace op3 := op3.off off131 ap2Xp3.symm
 refine op3.st0 (by simp) rfl rfl (fun H132 op3 off133 => ?_)
 replace op3 : Cel H132 p3 [(.bool false)] := op3
 refine qr77 _ _ ?_
 show ob (vLoadN 3 p2 H132) (fun w0 => ob (vLoad p3 H132) (fun w1 => K (.tuple #[w0, w1]) H132))
 replace op2 := op2.off off133 ap2Xp3
 refine ob_i (op2.ldn rfl) (ob_i (op3.ld0 rfl) ?_)
 have hok : ¬ (tfP t) := by intro h; obtain ⟨k1, k2, k3⟩ := h.2.1 i (by omega) q (by omega); have er := row_ent (t := t) (i := i) (q := q) (by omega); rw [← er] at k1 k2 k3; rw [← row_ent0] at k2; first | (exfalso; omega) | (exact absurd (congrArg szz k2) hg129) | (have := szz_8 k3; exfalso; omega)
 replace lE := off133.le (off131.le lE np2) np3
 exact keq (K := K) (by rw [show ((selI (tfP t) (szz (lvT t (topT t)))) : Int) = (0) from by first | exact selI_t hok | exact selI_f hok]; rw [decide_eq_false (show ¬ (tfP t) from by exact hok)]) (hk  (.slice none 0 0) _ (Own.cast (show [] = selL (tfP t) (clT t (topT t)) by exact (selL_f hok).symm) (Own.nil_of none)) (fun b hb => by simp [bk] at hb)  lE)
 refine ob_i (vInt_add (by omega) (by omega)) ?_
 exact nxt (4 - (q + 1)) (by omega) ⟨q + 1, rfl, by omega, g2L112, g3L112, g4L112, g5L112, g33L112, g34L112, (congrArg (Value.int .i64) (by first | omega | rfl | (simp; done))), op2, op3, opo, ops71, opn72, ov, opq, lE, (okK_snoc hq0 ⟨by rw [← row_ent (by omega)]; omega, by rw [← row_ent (by omega), ← row_ent0]; exact szz_inj (Decidable.not_not.mp hc121), by rw [← row_ent (by omega)]; exact szz_le8 hg129⟩)⟩
 refine gop_st (gop_st (gop_st (gop_st (gop_st (gop_st (gop_st (gop_st (gop_st (gop_st ?_)))))))))
 refine gop_st (gop_st (gop_st (ob_i (vPick_t _ _) (gop_st (gop_st (gop_st (gop_st (gop_st (gop_st ?_)))))))))
 refine ob_i (vPick_t _ _) (cnd_t1 (ob_i (a := (.agg #[(.int .i64 (0)), (.int .i64 (0)), (.slice none 0 0)])) (by rfl) ?_))
 refine op2.stn (ws := [(.int .i64 (0)), (.int .i64 (0)), (.slice none 0 0)]) rfl rfl (oc1 rfl (oc1 rfl (oc1 rfl oc0))) (fun H134 op2 off135 => ?_)
 replace op3 := op3.off off135 ap2Xp3.symm
 refine op3.st0 (by simp) rfl rfl (fun H136 op3 off137 => ?_)
 replace op3 : Cel H136 p3 [(.bool false)] := op3
 refine qr77 _ _ ?_
 show ob (vLoadN 3 p2 H136) (fun w0 => ob (vLoad p3 H136) (fun w1 => K (.tuple #[w0, w1]) H136))
 replace op2 := op2.off off137 ap2Xp3
 refine ob_i (op2.ldn rfl) (ob_i (op3.ld0 rfl) ?_)
 have hok : ¬ (tfP t) := by intro h; obtain ⟨k1, k2, k3⟩ := h.2.1 i (by omega) q (by omega); have er := row_ent (t := t) (i := i) (q := q) (by omega); rw [← er] at k1 k2 k3; rw [← row_ent0] at k2; first | (exfalso; omega) | (exact absurd (congrArg szz k2) hc114) | (have := szz_8 k3; exfalso; omega)
 replace lE := off137.le (off135.le lE np2) np3
 exact keq (K := K) (by rw [show ((selI (tfP t) (szz (lvT t (topT t)))) : Int) = (0) from by first | exact selI_t hok | exact selI_f hok]; rw [decide_eq_false (show ¬ (tfP t) from by exact hok)]) (hk  (.slice none 0 0) _ (Own.cast (show [] = selL (tfP t) (clT t (topT t)) by exact (selL_f hok).symm) (Own.nil_of none)) (fun b hb => by simp [bk] at hb)  lE)
 have tq := hg113
 exact hJ84 _ _ ⟨g4L112, g5L112, op2, op3, opo, ops71, opn72, ov, opq, lE, (fun p hp => hq0 p (by omega))⟩
 obtain ⟨v, Sv, op2, op3, opo, ops71, opn72, ov, nv, ap2Xv, ap3Xv, apoXv, aps71Xv, apn72Xv, lE, hm0⟩ := hI77
 have fl := famT_len t (t.length / 4)
 exact hJ42 _ _ ⟨v, _, rfl, rfl, rfl, rfl, op2, op3, opo, ov, nv, ap2Xv, ap3Xv, apoXv, lE, hm0⟩
 refine ⟨by kernel_rfl, C.c58 (r := (t.length / 4)) (c := 4) hvt0 (by omega) (by omega) (by omega) (by omega) (fun t' A hA => ?_) h0 hst hk1 hs1⟩
 obtain ⟨A', b, o, rfl, hn, v, Sv, op2, op3, opo, ops71, opn72, ov, nv, ap2Xv, ap3Xv, apoXv, aps71Xv, apn72Xv, lE, hm0⟩ := hJ t' A hA
 exact ⟨ops71.le (Le.put _ hn), opn72.le (Le.put _ hn)⟩

end Go.Proofs.Ythmdmbbdjbhcoaa
/- Choices that are read from bytes. -/
namespace Go.Proofs.Ythmdmbbdjbhcoaa
open HL
variable {n : Int}
set_option maxRecDepth 100000
namespace HL
theorem vMulW (a b : Int) : vInt .mul (.int .u64 a) (.int .u64 b) = some (.int .u64 (IntKind.u64.wrap (a * b))) := by simp only [vInt, if_true]
theorem vAddW (a b : Int) : vInt .add (.int .u64 a) (.int .u64 b) = some (.int .u64 (IntKind.u64.wrap (a + b))) := by simp only [vInt, if_true]
theorem vCIW (k : IntKind) (a : Int) : vCI .u64 (.int k a) = some (.int .u64 (IntKind.u64.wrap a)) := rfl
theorem vShrW (a : Int) {b : Int} (h : 0 ≤ b) : ∃ x, vInt .shr (.int .u64 a) (.int .u64 b) = some (.int .u64 x) := by
  simp only [vInt]; rw [if_pos h]; exact ⟨_, rfl⟩
theorem vAnd255 (a : Int) : ∃ x, vInt .and (.int .u64 a) (.int .u64 255) = some (.int .u64 x) ∧ 0 ≤ x ∧ x ≤ 255 := by
  refine ⟨_, by simp only [vInt, if_true]; rfl, ?_⟩
  show 0 ≤ IntKind.u64.wrap ((BitVec.ofInt 64 a &&& BitVec.ofInt 64 255).toNat : Int) ∧ IntKind.u64.wrap ((BitVec.ofInt 64 a &&& BitVec.ofInt 64 255).toNat : Int) ≤ 255
  have h : (BitVec.ofInt 64 a &&& BitVec.ofInt 64 255).toNat ≤ 255 := by
    rw [BitVec.toNat_and]
    have e : (BitVec.ofInt 64 255).toNat = 255 := by decide
    rw [e]
    exact Nat.and_le_right
  generalize (BitVec.ofInt 64 a &&& BitVec.ofInt 64 255).toNat = n at h
  have e : IntKind.u64.wrap (n : Int) = (n : Int) := by
    unfold IntKind.wrap; simp [IntKind.signed, IntKind.bits]; omega
  rw [e]; omega
end HL
variable {H0 H : Hp} {K : Value → Hp → Prop} {p code : Value} {l : List Int} {a s : Int}
theorem C.c61 (h0 : Sl eU H code l) (hk : ∀ p H', Cel H' p [code, .int .i64 0, .int .u64 0] → Nw H p → Le H H' → K p H') : HT prg 54 [code].toArray H K := by
 refine R.q54 ?_
 unfold F.q54
 refine ob_i (a := .agg #[code, .int .i64 0, .int .u64 0]) (by obtain ⟨_, _, _, rfl⟩ := h0.isSl; rfl) ?_
 exact nw_i (fun p H' op nn le => hk p H' op nn le)

theorem C.c62 (h0 : Sl eU H0 code l) (hb : bytP l) (hl : l.length ≤ 9223372036854775807) (le : Le H0 H) (np : Nw H0 p) (hp : Cel H p [code, .int .i64 a, .int .u64 s]) (a0 : 0 ≤ a) (a1 : a ≤ 4611686018427387904)
    (hk : ∀ x s' H', 0 ≤ x → x ≤ 255 → Cel H' p [code, .int .i64 (a + 1), .int .u64 s'] → Off p H H' → K (.int .i64 x) H') : HT prg 103 [p].toArray H K := by
 have hc := h0.le le
 have ho : oneCell code = true := h0.one
 refine R.q103 ?_
 unfold F.q103
 refine jn_i (fun σ' H' => ∃ x, 0 ≤ x ∧ x ≤ 255 ∧ σ' 0 = p ∧ σ' 3 = .int .i64 x ∧ H' = H) (fun σ1 H1 hP => ?_) (fun J1 hJ1 => ?_)
 obtain ⟨x, x0, x1, g0, g3, rfl⟩ := hP
 rw [g0, g3]
 refine ob_i hp.nilC (ob_i (hp.fa 1) (ob_i (hp.ld 1 rfl) (ob_i (vInt_add (by omega) (by omega)) (ob_i hp.nilC (ob_i (hp.fa 1) ?_)))))
 refine hp.st (by simp) rfl rfl (fun H2 hp2 off2 => ?_)
 refine ob_i hp2.nilC (ob_i (hp2.fa 2) (ob_i (hp2.ld 2 rfl) (ob_i (vMulW _ _) (ob_i (vCIW _ _) (ob_i (vAddW _ _) (ob_i (vAddW _ _) (ob_i hp2.nilC (ob_i (hp2.fa 2) ?_))))))))
 refine hp2.st (by simp) rfl rfl (fun H3 hp3 off3 => ?_)
 refine ob_i hp3.nilC (ob_i (hp3.fa 1) (ob_i (hp3.ld 1 rfl) (ob_i hp3.nilC (ob_i (hp3.fa 0) (ob_i (hp3.ld 0 rfl) (ob_i h0.len (ob_i (vInt_leq _ _ _) ?_)))))))
 have off := off2.trans off3
 refine cnd_d (fun _ => hk x _ H3 x0 x1 hp3 off) (fun _ => ?_)
 refine ob_i hp3.nilC (ob_i (hp3.fa 2) (ob_i (hp3.ld 2 rfl) ?_))
 obtain ⟨y, hy⟩ := vShrW (IntKind.u64.wrap (IntKind.u64.wrap (IntKind.u64.wrap (s * 6364136223846793005) + IntKind.u64.wrap x) + 1442695040888963407)) (b := 40) (by omega)
 obtain ⟨z, hz, z0, z1⟩ := vAnd255 y
 refine ob_i hy (ob_i hz (ob_i (vCI_64 _ (by omega) (by omega)) ?_))
 exact hk z _ H3 z0 z1 hp3 off
 refine ob_i hp.nilC (ob_i (hp.fa 1) (ob_i (hp.ld 1 rfl) (ob_i hp.nilC (ob_i (hp.fa 0) (ob_i (hp.ld 0 rfl) (ob_i h0.len (ob_i (vInt_lss _ _ _) ?_)))))))
 refine cnd_d (fun hlt => ?_) (fun _ => hJ1 _ _ ⟨0, by omega, by omega, rfl, rfl, rfl⟩)
 have hm := hb _ (at_mem 0 l a0 hlt)
 refine ob_i hp.nilC (ob_i (hp.fa 0) (ob_i (hp.ld 0 rfl) (ob_i hp.nilC (ob_i (hp.fa 1) (ob_i (hp.ld 1 rfl) (ob_i (hc.ix a0 hlt) (ob_i (hc.ld 0 a0 hlt) (ob_i (vCI_64 _ (by omega) (by omega)) ?_))))))))
 exact hJ1 _ _ ⟨_, hm.1, hm.2, rfl, rfl, rfl⟩

theorem C.c63 (h0 : Sl eU H0 code l) (hb : bytP l) (hl : l.length ≤ 9223372036854775807) (le : Le H0 H) (np : Nw H0 p) (hp : Cel H p [code, .int .i64 a, .int .u64 s]) (a0 : 0 ≤ a) (a1 : a ≤ 4611686018427387000)
    (hk : ∀ x a' s' H', 0 ≤ x → (1 ≤ n → x < n) → a ≤ a' → a' ≤ a + 2 → Cel H' p [code, .int .i64 a', .int .u64 s'] → Off p H H' → K (.int .i64 x) H') : HT prg 57 [p, .int .i64 n].toArray H K := by
 refine R.q57 ?_
 unfold F.q57
 refine ob_i (vInt_leq _ _ _) (cnd_d (fun h1 => hk 0 a s H (by omega) (by omega) (by omega) (by omega) hp (Off.of_le (Le.refl H))) (fun h1 => ?_))
 refine C.c62 h0 hb hl le np hp a0 (by omega) (fun x s1 H1 x0 x1 hp1 off1 => ?_)
 refine ob_i (vInt_gtr _ _ _) (cnd_d (fun h2 => ?_) (fun h2 => ?_))
 refine ob_i (vInt_mul (by omega) (by omega)) (C.c62 h0 hb hl (off1.le le np) np hp1 (by omega) (by omega) (fun y s2 H2 y0 y1 hp2 off2 => ?_))
 refine ob_i (vInt_add (by omega) (by omega)) (ob_i (vInt_remN (by omega) (by omega)) ?_)
 have r0 := Int.emod_nonneg (x * 256 + y) (b := n) (by omega)
 have r1 := Int.emod_lt_of_pos (x * 256 + y) (b := n) (by omega)
 refine hk _ _ _ H2 r0 (fun _ => r1) (by omega) (by omega) hp2 (off1.trans off2)
 refine ob_i (vInt_remN (by omega) (by omega)) ?_
 have r0 := Int.emod_nonneg x (b := n) (by omega)
 have r1 := Int.emod_lt_of_pos x (b := n) (by omega)
 exact hk _ _ _ H1 r0 (fun _ => r1) (by omega) (by omega) hp1 off1

theorem C.c64 (h0 : Sl eU H0 code l) (hb : bytP l) (hl : l.length ≤ 9223372036854775807) (le : Le H0 H) (np : Nw H0 p) (hp : Cel H p [code, .int .i64 a, .int .u64 s]) (a0 : 0 ≤ a) (a1 : a ≤ 4611686018427387000)
    (hk : ∀ (x : Bool) a' s' H', a ≤ a' → a' ≤ a + 2 → Cel H' p [code, .int .i64 a', .int .u64 s'] → Off p H H' → K (.bool x) H') : HT prg 62 [p, .int .i64 n].toArray H K := by
 refine R.q62 ?_
 unfold F.q62
 refine C.c63 h0 hb hl le np hp a0 a1 (fun x a' s' H' _ _ h3 h4 h5 h6 => ?_)
 exact ob_i (vInt_eql _ _ _) (hk _ a' s' H' h3 h4 h5 h6)

theorem C.c65 {k : Int} (hc : Sl eU H code l) (hb : bytP l) (hl : l.length ≤ 9223372036854775807) (k0 : 0 ≤ k) (k1 : k ≤ 1000) (hk : ∀ x, 0 ≤ x → (1 ≤ n → x < n) → K (.int .i64 x) H) : HT prg 21 [code, .int .i64 k, .int .i64 n].toArray H K := by
 refine R.q21 ?_
 unfold F.q21
 refine ob_i (vInt_leq _ _ _) (cnd_d (fun h1 => hk 0 (by omega) (by omega)) (fun h1 => ?_))
 refine ob_i hc.len (ob_i (vInt_lss _ _ _) (cnd_d (fun h2 => ?_) (fun h2 => ?_)))
 have hm := hb _ (at_mem 0 l k0 h2)
 refine ob_i (hc.ix k0 h2) (ob_i (hc.ld 0 k0 h2) (ob_i (vCI_64 _ (by omega) (by omega)) (ob_i (vInt_remN (by omega) (by omega)) ?_)))
 exact hk _ (Int.emod_nonneg _ (by omega)) (fun _ => Int.emod_lt_of_pos _ (by omega))
 refine ob_i (vInt_mul (by omega) (by omega)) (ob_i (vInt_add (by omega) (by omega)) (ob_i (vInt_remN (by omega) (by omega)) ?_))
 exact hk _ (Int.emod_nonneg _ (by omega)) (fun _ => Int.emod_lt_of_pos _ (by omega))

end Go.Proofs.Ythmdmbbdjbhcoaa
/- From a contract over a whole heap to a call's end: what the statement asks. -/
namespace Go.Proofs.Ythmdmbbdjbhcoaa.HL
open Go.RowKit
/-- All of a world's blocks. -/
def whole (W : World) : Hp := fun b => W.heap[b]?
theorem whole_sub (W : World) : Sub (whole W) W := fun _ _ h => h

theorem calls_true {P : Program} {f : FuncId} {args : Array Value} {W : World} (h : HT P f args (whole W) (fun v H' => v = .bool true ∧ Le (whole W) H')) :
    Calls P f args W (fun e W' => e = .returned (.bool true) ∧ Below W.heap.size W W') := by
  refine (h W (whole_sub W)).mono ?_
  rintro e W' ⟨v, H', rfl, hs, fr, rfl, hle⟩
  refine ⟨rfl, fr.os, fr.tape, fr.output, fr.size, fun k hk => ?_⟩
  have h1 : whole W k = some W.heap[k] := by unfold whole; exact Array.getElem?_eq_getElem hk
  have h2 := hs k _ (hle k _ h1)
  rw [h2, Array.getElem?_eq_getElem hk]

/-- A row of numbers of the world, as the kit's rows tell it. -/
def IsRow (k : IntKind) (w : World) (a : Option Addr) (len cap : Nat) (zs : List Int) : Prop :=
  (a = none ∧ len = 0 ∧ cap = 0 ∧ zs = []) ∨
  ∃ x, a = some x ∧ len ≤ cap ∧ cap ≤ maxLen ∧ zs.length = cap ∧ (∀ i, i < zs.length → w.cell? (x.add i) = some (.int k (zs.getD i 0))) ∧ ∀ n ∈ zs, (Lit.int k n).wf = true

end Go.Proofs.Ythmdmbbdjbhcoaa.HL
/- A statement's bytes. -/
namespace Go.Proofs.Ythmdmbbdjbhcoaa.HL
theorem slU_of_row {W : World} {a : Option Addr} {len cap : Nat} {zs : List Int} (h : IsRow .u8 W a len cap zs) : Sl eU (whole W) (.slice a len cap) (zs.take len) := by
  rcases h with ⟨rfl, rfl, rfl, rfl⟩ | ⟨x, rfl, h1, _, h3, h4, _⟩
  · exact Sl.nil 0 none
  · have hlen : (zs.take len).length = len := by simp; omega
    refine ⟨some x, cap, by rw [hlen], by omega, fun i hi => ⟨x, rfl, ?_⟩⟩
    have hi' : i < zs.length := by simp at hi; omega
    have := h4 i hi'
    rw [List.getElem_take]
    rw [List.getD_eq_getElem?_getD, List.getElem?_eq_getElem hi'] at this
    exact this
theorem rowU_max {W : World} {a : Option Addr} {len cap : Nat} {zs : List Int} (h : IsRow .u8 W a len cap zs) : (zs.take len).length ≤ 9223372036854775807 := by
  rcases h with ⟨rfl, rfl, rfl, rfl⟩ | ⟨x, rfl, h1, h2, h3, _, _⟩
  · simp
  · have : maxLen = 9223372036854775807 := by decide
    simp; omega
theorem rowU_byt {W : World} {a : Option Addr} {len cap : Nat} {zs : List Int} (h : IsRow .u8 W a len cap zs) : bytP (zs.take len) := by
  rcases h with ⟨rfl, rfl, rfl, rfl⟩ | ⟨x, rfl, h1, h2, h3, _, hw⟩
  · intro y hy; simp at hy
  · intro y hy
    have := hw y (List.mem_of_mem_take hy)
    unfold Lit.wf at this
    simp [IntKind.min, IntKind.max, IntKind.signed, IntKind.bits] at this
    omega
end Go.Proofs.Ythmdmbbdjbhcoaa.HL
/- The law of inner parts and trees. -/
namespace Go.Proofs.Ythmdmbbdjbhcoaa
open HL
variable {l m b s : List Int} {x k r c row col rows cols : Int} {vy vb vm vs vc : Value} {rnd : Bool}
set_option maxRecDepth 100000
theorem all_snoc {p : Int → Prop} (h : ∀ y ∈ l, p y) (hx : p x) : ∀ y ∈ l ++ [x], p y := fun y hy => by
  rcases List.mem_append.mp hy with hy | hy
  · exact h y hy
  · simp only [List.mem_singleton] at hy; subst hy; exact hx
/-- Counts that rise, all less than a number. -/
def lifK (l : List Int) (k : Int) : Prop := cntP l ∧ ∀ x ∈ l, x < k
theorem lifK_nil (k : Int) : lifK [] k := ⟨by decide, by simp⟩
theorem lifK_mono {m : Int} (h : lifK l k) (hm : k ≤ m) : lifK l m := ⟨h.1, fun x hx => by have := h.2 x hx; omega⟩
theorem lifK_snoc {m : Int} (h : lifK l k) (h0 : 0 ≤ k) (h1 : k ≤ 8) (hm : k < m) : lifK (l ++ [k]) m := by
  obtain ⟨⟨g1, g2⟩, g3⟩ := h
  refine ⟨⟨fun x hx => ?_, fun j hj j0 => ?_⟩, fun x hx => ?_⟩
  · rcases List.mem_append.mp hx with h | h
    · exact g1 x h
    · simp only [List.mem_singleton] at h; omega
  · simp only [List.length_append, List.length_singleton] at hj
    have e : ∀ i : Nat, i < l.length → at_ 0 (l ++ [k]) (i : Int) = at_ 0 l (i : Int) := fun i hi => by
      rw [at_eq 0 _ (by simp; omega), at_eq 0 _ hi, List.getElem_append_left hi]
    have e2 : at_ 0 (l ++ [k]) (l.length : Int) = k := by
      rw [at_eq 0 _ (by simp), List.getElem_append_right (Nat.le_refl _)]; simp
    have e3 := e (j - 1) (by omega)
    rw [show (((j - 1 : Nat) : Nat) : Int) = (j : Int) - 1 by omega] at e3
    rw [e3]
    by_cases g : j = l.length
    · rw [g, e2]
      have := g3 _ (at_mem 0 l (i := (l.length : Int) - 1) (by omega) (by omega))
      exact this
    · rw [e j (by omega)]; exact g2 j (by omega) j0
  · rcases List.mem_append.mp hx with h | h
    · have := g3 x h; omega
    · simp only [List.mem_singleton] at h; omega
theorem ints_eq (h : l.length = m.length) (ha : ∀ j : Nat, j < l.length → at_ 0 l (j : Int) = at_ 0 m (j : Int)) : l = m := by
  apply List.ext_getElem h
  intro j h1 h2
  have := ha j h1
  rw [at_eq 0 l h1, at_eq 0 m h2] at this
  exact this
theorem ints_snoc {i : Nat} (ha : ∀ j : Nat, j < i → at_ 0 l (j : Int) = at_ 0 m (j : Int)) (h : at_ 0 l (i : Int) = at_ 0 m (i : Int)) : ∀ j : Nat, j < i + 1 → at_ 0 l (j : Int) = at_ 0 m (j : Int) := fun j hj => by
  by_cases e : j = i
  · subst e; exact h
  · exact ha j (by omega)
theorem tri3 (h0 : 0 ≤ x) (h1 : x ≤ 2) : at_ (0 : Int) [4, 8, 16] x = 4 ∨ at_ (0 : Int) [4, 8, 16] x = 8 ∨ at_ (0 : Int) [4, 8, 16] x = 16 := by
  rcases show x = 0 ∨ x = 1 ∨ x = 2 by omega with rfl | rfl | rfl <;> decide
theorem knd_at {e : Nat} (h : e < lgN r) : at_ 0 (kndL r c l) (e : Int) = (kndN r c l e : Int) := by
  unfold kndL
  rw [at_eq 0 _ (by rw [kndF_len]; exact h)]
  simp [kndF]
theorem knd_len : (kndL r c l).length = lgN r := kndF_len
theorem sumK_mono {r c : Int} {l : List Int} {a : Nat} : ∀ d, sumK r c l a ≤ sumK r c l (a + d)
  | 0 => Nat.le_refl _
  | d + 1 => Nat.le_trans (sumK_mono d) (by rw [← Nat.add_assoc, sumK_succ]; omega)
theorem sumK_le {a b : Nat} (h : a ≤ b) : sumK r c l a ≤ sumK r c l b := by
  obtain ⟨d, rfl⟩ := Nat.le.dest h
  exact sumK_mono d
theorem C.c66  {H : Hp} {K : Value → Hp → Prop} (hvy0 : Sl eU H vy l) (hb_vy : bytP l) (hl_vy : l.length ≤ 9223372036854775807)
    (hk : ∀ (lb : List Int) (lz : List Int), (True) → (lifP lb lz ∧ lb.length ≤ 8 ∧ lz.length ≤ 8) → ∀ u1 u2 H', Own eI H' u1 lb → Own eI H' u2 lz → Nw H u1 → Nw H u2 → Apart u1 u2 → Le H H' → K (.agg #[u1, u2]) H') : HT prg 27 [vy].toArray H K := by
 have lE := Le.refl H
 refine R.q27 ?_
 unfold F.q27
 refine nw_i (fun p1 H2 op1 nn3 le4 => ?_)
 have np1 := nn3.le lE
 replace op1 : Cel H2 p1 [(.slice none 0 0), (.slice none 0 0)] := op1
 replace lE := lE.trans le4
 refine C.c61 (hvy0.le lE) (fun z H5 oz nn6 le7 => ?_)
 have ap1Xz := op1.apart nn6
 have nz := nn6.le lE
 replace oz : Cel H5 z [vy, (.int .i64 (0)), (.int .u64 (0))] := oz
 replace lE := lE.trans le7
 refine C.c64 (n := 2) hvy0 hb_vy hl_vy lE nz oz (by omega) (by omega) (fun x8 at9 sd10 H11 ap13 aq14 oz off12 => ?_)
 replace oz : Cel H11 z [vy, (.int .i64 (at9)), (.int .u64 (sd10))] := oz
 refine cnd_i (fun hg15 => ?_) (fun hg15 => ?_)
 refine bS_i (enc := eI) (l := [3]) (by omega) rfl (by kernel_rfl) (fun u16 H17 ou16 nn18 le20 => ?_)
 replace op1 := (op1.le le7).off off12 ap1Xz
 have ap1Xu16 := op1.apart nn18
 replace lE := off12.le lE nz
 have nu16 := nn18.le lE
 refine bS_i (enc := eI) (l := [2, 3]) (by omega) rfl (by kernel_rfl) (fun u21 H22 ou21 nn23 le25 => ?_)
 replace op1 := op1.le le20
 have ap1Xu21 := op1.apart nn23
 have au16Xu21 := ou16.apart nn23
 replace lE := lE.trans le20
 have nu21 := nn23.le lE
 replace ou16 := ou16.le le25
 refine ob_i (a := (.agg #[u16, u21])) (by obtain ⟨_, _, _, rfl⟩ := ou16.isSl; obtain ⟨_, _, _, rfl⟩ := ou21.isSl; rfl) ?_
 replace op1 := op1.le le25
 refine op1.stn (ws := [u16, u21]) rfl rfl (oc1 ou16.one (oc1 ou21.one oc0)) (fun H26 op1 off27 => ?_)
 refine ob_i (op1.ldn rfl) ?_
 replace lE := off27.le (lE.trans le25) np1
 replace ou16 := ou16.off off27 ap1Xu16.symm
 replace ou21 := ou21.off off27 ap1Xu21.symm
 exact hk  ([3]) ([2, 3]) (by first | trivial | exact ⟨hlu, hll, hlm⟩ | decide) (by first | trivial | exact ⟨hlu, hll, hlm⟩ | decide) u16 u21 _ ou16 ou21 nu16 nu21 au16Xu21 lE
 refine R.q63 ?_
 unfold F.q63
 refine nw_i (fun q0 H28 oq0 nn29 le30 => ?_)
 replace op1 := (op1.le le7).off off12 ap1Xz
 have ap1Xq0 := op1.apart nn29
 have azXq0 := oz.apart nn29
 replace lE := off12.le lE nz
 have nq0 := nn29.le lE
 replace oq0 : Cel H28 q0 [(.slice none 0 0), (.slice none 0 0)] := oq0
 refine bS_i (enc := eI) (l := [3]) (by omega) rfl (by kernel_rfl) (fun u31 H32 ou31 nn33 le35 => ?_)
 replace op1 := op1.le le30
 have ap1Xu31 := op1.apart nn33
 replace oz := oz.le le30
 have azXu31 := oz.apart nn33
 have aq0Xu31 := oq0.apart nn33
 replace lE := lE.trans le30
 have nu31 := nn33.le lE
 refine bS_i (enc := eI) (l := [2, 3]) (by omega) rfl (by kernel_rfl) (fun u36 H37 ou36 nn38 le40 => ?_)
 replace op1 := op1.le le35
 have ap1Xu36 := op1.apart nn38
 replace oz := oz.le le35
 have azXu36 := oz.apart nn38
 replace oq0 := oq0.le le35
 have aq0Xu36 := oq0.apart nn38
 have au31Xu36 := ou31.apart nn38
 replace lE := lE.trans le35
 have nu36 := nn38.le lE
 replace ou31 := ou31.le le40
 refine ob_i (a := (.agg #[u31, u36])) (by obtain ⟨_, _, _, rfl⟩ := ou31.isSl; obtain ⟨_, _, _, rfl⟩ := ou36.isSl; rfl) ?_
 refine nw_i (fun q H41 oq nn42 le43 => ?_)
 replace op1 := op1.le le40
 have ap1Xq := op1.apart nn42
 replace oz := oz.le le40
 have azXq := oz.apart nn42
 replace oq0 := oq0.le le40
 have aq0Xq := oq0.apart nn42
 have au31Xq := ou31.apart nn42
 have au36Xq := ou36.apart nn42
 replace lE := lE.trans le40
 have nq := nn42.le lE
 replace ou31 := ou31.le le43
 replace ou36 := ou36.le le43
 refine oq.stn (ws := [u31, u36]) rfl rfl (oc1 ou31.one (oc1 ou36.one oc0)) (fun H44 oq off45 => ?_)
 refine jn_i (fun σ' H' => ∃ u, ∃ v, ∃ lu, ∃ lv, σ' 2 = q0 ∧ σ' 3 = q ∧ Cel H' p1 [(.slice none 0 0), (.slice none 0 0)] ∧ Cel H' q0 [(.slice none 0 0), (.slice none 0 0)] ∧ Cel H' q [u, v] ∧ Own eI H' u (lu) ∧ Own eI H' v (lv) ∧ Nw H u ∧ Apart p1 u ∧ Apart q0 u ∧ Apart q u ∧ Nw H v ∧ Apart p1 v ∧ Apart q0 v ∧ Apart q v ∧ Apart u v ∧ Le H H' ∧ lifP lu lv ∧ lu.length ≤ 8 ∧ lv.length ≤ 8) (fun σ46 H46 hP => ?_) (fun J46 hJ46 => ?_)
 replace op1 := (op1.le le43).off off45 ap1Xq
 replace oq0 := (oq0.le le43).off off45 aq0Xq
 replace lE := off45.le (lE.trans le43) nq
 obtain ⟨u, v, lu, lv, g2L46, g3L46, op1, oq0, oq, ou, ov, nu, ap1Xu, aq0Xu, aqXu, nv, ap1Xv, aq0Xv, aqXv, auXv, lE, hlu, hll, hlm⟩ := hP
 try simp only [g2L46, g3L46]
 refine ob_i (oq.ldn rfl) (oq0.stn (ws := [u, v]) rfl rfl (oc1 ou.one (oc1 ov.one oc0)) (fun H47 oq0 off48 => ?_))
 refine ob_i (oq0.ldn rfl) ?_
 replace op1 := op1.off off48 ap1Xq0
 replace ou := ou.off off48 aq0Xu.symm
 replace ov := ov.off off48 aq0Xv.symm
 refine op1.stn (ws := [u, v]) rfl rfl (oc1 ou.one (oc1 ov.one oc0)) (fun H49 op1 off50 => ?_)
 refine ob_i (op1.ldn rfl) ?_
 replace lE := off50.le (off48.le lE nq0) np1
 replace ou := ou.off off50 ap1Xu.symm
 replace ov := ov.off off50 ap1Xv.symm
 exact hk  lu lv (by first | trivial | exact ⟨hlu, hll, hlm⟩ | decide) (by first | trivial | exact ⟨hlu, hll, hlm⟩ | decide) u v _ ou ov nu nv auXv lE
 replace oz := (oz.le le43).off off45 azXq
 replace lE := off45.le (lE.trans le43) nq
 refine C.c64 (n := 2) hvy0 hb_vy hl_vy lE nz oz (by omega) (by omega) (fun x51 at52 sd53 H54 ap56 aq57 oz off55 => ?_)
 replace oz : Cel H54 z [vy, (.int .i64 (at52)), (.int .u64 (sd53))] := oz
 refine cnd_i (fun hg58 => ?_) (fun hg58 => ?_)
 refine bS_nil (enc := eI) (fun u59 H60 ou59 nn61 kk62 le63 => ?_)
 replace op1 := ((op1.le le43).off off45 ap1Xq).off off55 ap1Xz
 have ap1Xu59 := op1.apart nn61
 have azXu59 := oz.apart nn61
 replace oq0 := ((oq0.le le43).off off45 aq0Xq).off off55 azXq0.symm
 have aq0Xu59 := oq0.apart nn61
 replace ou31 := (ou31.off off45 au31Xq).off off55 azXu31.symm
 have au31Xu59 := ou31.apart nn61
 replace ou36 := (ou36.off off45 au36Xq).off off55 azXu36.symm
 have au36Xu59 := ou36.apart nn61
 replace oq := oq.off off55 azXq.symm
 have aqXu59 := oq.apart nn61
 replace lE := off55.le lE nz
 have nu59 := nn61.le lE
 refine bS_nil (enc := eI) (fun u64 H65 ou64 nn66 kk67 le68 => ?_)
 replace op1 := op1.le le63
 have ap1Xu64 := op1.apart nn66
 replace oz := oz.le le63
 have azXu64 := oz.apart nn66
 replace oq0 := oq0.le le63
 have aq0Xu64 := oq0.apart nn66
 replace ou31 := ou31.le le63
 have au31Xu64 := ou31.apart nn66
 replace ou36 := ou36.le le63
 have au36Xu64 := ou36.apart nn66
 replace oq := oq.le le63
 have aqXu64 := oq.apart nn66
 have au59Xu64 := ou59.apart nn66
 replace lE := lE.trans le63
 have nu64 := nn66.le lE
 replace ou59 := ou59.le le68
 refine ob_i (a := (.agg #[u59, u64])) (by obtain ⟨_, _, _, rfl⟩ := ou59.isSl; obtain ⟨_, _, _, rfl⟩ := ou64.isSl; rfl) ?_
 replace oq := oq.le le68
 refine oq.stn (ws := [u59, u64]) rfl rfl (oc1 ou59.one (oc1 ou64.one oc0)) (fun H69 oq off70 => ?_)
 replace op1 := (op1.le le68).off off70 ap1Xq
 replace oz := (oz.le le68).off off70 azXq
 replace oq0 := (oq0.le le68).off off70 aq0Xq
 replace ou31 := (ou31.le le68).off off70 au31Xq
 replace ou36 := (ou36.le le68).off off70 au36Xq
 replace lE := off70.le (lE.trans le68) nq
 replace ou59 := ou59.off off70 aqXu59.symm
 replace ou64 := ou64.off off70 aqXu64.symm
 refine ⟨fun n' σ' H' => ∃ i : Nat, n' = 8 - i ∧ i ≤ 8 ∧ ∃ u, ∃ v, ∃ lu, ∃ lv, ∃ ats, ∃ sd, σ' 0 = z ∧ σ' 2 = q0 ∧ σ' 3 = q ∧ σ' 4 = (.int .i64 ((i : Int) + 1)) ∧ Cel H' p1 [(.slice none 0 0), (.slice none 0 0)] ∧ Cel H' z [vy, (.int .i64 (ats)), (.int .u64 (sd))] ∧ Cel H' q0 [(.slice none 0 0), (.slice none 0 0)] ∧ Own eI H' u31 ([3]) ∧ Own eI H' u36 ([2, 3]) ∧ Cel H' q [u, v] ∧ Own eI H' u (lu) ∧ Own eI H' v (lv) ∧ Nw H u ∧ Apart p1 u ∧ Apart z u ∧ Apart q0 u ∧ Apart u31 u ∧ Apart u36 u ∧ Apart q u ∧ Nw H v ∧ Apart p1 v ∧ Apart z v ∧ Apart q0 v ∧ Apart u31 v ∧ Apart u36 v ∧ Apart q v ∧ Apart u v ∧ Le H H' ∧ lifK lu ((i : Int) + 1) ∧ lifK lv ((i : Int) + 1) ∧ lu.length ≤ i ∧ lv.length ≤ i ∧ 0 ≤ ats ∧ ats ≤ 8 + 4 * (i : Int),
    ⟨_, 0, rfl, by omega, u59, u64, [], [], _, _, rfl, rfl, rfl, (congrArg (Value.int .i64) (by first | omega | rfl | (simp; done))), op1, oz, oq0, ou31, ou36, oq, (Own.cast (by first | rfl | (simp; done)) ou59), (Own.cast (by first | rfl | (simp; done)) ou64), nu59, ap1Xu59, azXu59, aq0Xu59, au31Xu59, au36Xu59, aqXu59, nu64, ap1Xu64, azXu64, aq0Xu64, au31Xu64, au36Xu64, aqXu64, au59Xu64, lE, lifK_nil _, lifK_nil _, (by simp), (by simp), ⟨by omega, by omega⟩⟩, ?_⟩
 rintro n71 σ71 H71 ⟨i, rfl, hiN, u, v, lu, lv, ats, sd, g0L71, g2L71, g3L71, g4L71, op1, oz, oq0, ou31, ou36, oq, ou, ov, nu, ap1Xu, azXu, aq0Xu, au31Xu, au36Xu, aqXu, nv, ap1Xv, azXv, aq0Xv, au31Xv, au36Xv, aqXv, auXv, lE, hlu, hlv, hll, hlm, hat⟩
 try simp only [g0L71, g2L71, g3L71, g4L71]
 refine ob_i (vInt_lss _ _ _) (cnd_d (fun hg72 => ?_) (fun hg72 => ?_))
 have ti := hg72
 refine C.c64 (n := 3) hvy0 hb_vy hl_vy lE nz oz (by omega) (by omega) (fun x73 at74 sd75 H76 ap78 aq79 oz off77 => ?_)
 replace oz : Cel H76 z [vy, (.int .i64 (at74)), (.int .u64 (sd75))] := oz
 refine cnd_i (fun hg80 => ?_) (fun hg80 => ?_)
 replace oq := oq.off off77 azXq.symm
 refine ob_i (oq.fa 0) (ob_i (oq.ld 0 rfl) (bS_i (enc := eI) (l := [(i : Int) + 1]) (by omega) rfl (by kernel_rfl) (fun u81 H82 ou81 nn83 le85 => ?_)))
 replace ou := (ou.off off77 azXu.symm).le le85
 refine apd_any ou ou81.sl (fun _ => rfl) (by omega) (by first | omega | (simp only [List.length_cons, List.length_nil, List.length_append, List.length_replicate, List.length_map, List.length_range]; omega)) (fun u89 H86 ou89 off87 hb88 => ?_)
 replace op1 := (op1.off off77 ap1Xz).le le85
 have ap1Xu89 := Apart.ap2 op1.known ap1Xu hb88
 replace oz := oz.le le85
 have azXu89 := Apart.ap2 oz.known azXu hb88
 replace oq0 := (oq0.off off77 azXq0.symm).le le85
 have aq0Xu89 := Apart.ap2 oq0.known aq0Xu hb88
 replace ou31 := (ou31.off off77 azXu31.symm).le le85
 have au31Xu89 := Apart.ap2 ou31.known au31Xu hb88
 replace ou36 := (ou36.off off77 azXu36.symm).le le85
 have au36Xu89 := Apart.ap2 ou36.known au36Xu hb88
 replace oq := oq.le le85
 have aqXu89 := Apart.ap2 oq.known aqXu hb88
 replace ov := (ov.off off77 azXv.symm).le le85
 have avXu89 := Apart.ap2 ov.known auXv.symm hb88
 replace lE := (off77.le lE nz).trans le85
 have nu89 : Nw H u89 := Nw.ap2 nu lE hb88
 replace oq := oq.off off87 aqXu
 refine ob_i (oq.fa 0) (oq.st (by simp) ou89.one ou89.cells (fun H90 oq off91 => ?_))
 replace oq : Cel H90 q [u89, v] := oq
 replace oz := (oz.off off87 azXu).off off91 azXq
 replace lE := off91.le (off87.le lE nu) nq
 refine C.c64 (n := 3) hvy0 hb_vy hl_vy lE nz oz (by omega) (by omega) (fun x92 at93 sd94 H95 ap97 aq98 oz off96 => ?_)
 replace oz : Cel H95 z [vy, (.int .i64 (at93)), (.int .u64 (sd94))] := oz
 refine cnd_i (fun hg99 => ?_) (fun hg99 => ?_)
 replace oq := oq.off off96 azXq.symm
 refine ob_i (oq.fa 1) (ob_i (oq.ld 1 rfl) (bS_i (enc := eI) (l := [(i : Int) + 1]) (by omega) rfl (by kernel_rfl) (fun u100 H101 ou100 nn102 le104 => ?_)))
 replace ov := (((ov.off off87 auXv.symm).off off91 aqXv.symm).off off96 azXv.symm).le le104
 refine apd_any ov ou100.sl (fun _ => rfl) (by omega) (by first | omega | (simp only [List.length_cons, List.length_nil, List.length_append, List.length_replicate, List.length_map, List.length_range]; omega)) (fun u108 H105 ou108 off106 hb107 => ?_)
 replace op1 := (((op1.off off87 ap1Xu).off off91 ap1Xq).off off96 ap1Xz).le le104
 have ap1Xu108 := Apart.ap2 op1.known ap1Xv hb107
 replace oz := oz.le le104
 have azXu108 := Apart.ap2 oz.known azXv hb107
 replace oq0 := (((oq0.off off87 aq0Xu).off off91 aq0Xq).off off96 azXq0.symm).le le104
 have aq0Xu108 := Apart.ap2 oq0.known aq0Xv hb107
 replace ou31 := (((ou31.off off87 au31Xu).off off91 au31Xq).off off96 azXu31.symm).le le104
 have au31Xu108 := Apart.ap2 ou31.known au31Xv hb107
 replace ou36 := (((ou36.off off87 au36Xu).off off91 au36Xq).off off96 azXu36.symm).le le104
 have au36Xu108 := Apart.ap2 ou36.known au36Xv hb107
 replace oq := oq.le le104
 have aqXu108 := Apart.ap2 oq.known aqXv hb107
 replace ou89 := ((ou89.off off91 aqXu89.symm).off off96 azXu89.symm).le le104
 have au89Xu108 := Apart.ap2 ou89.known avXu89.symm hb107
 replace lE := (off96.le lE nz).trans le104
 have nu108 : Nw H u108 := Nw.ap2 nv lE hb107
 replace oq := oq.off off106 aqXv
 refine ob_i (oq.fa 1) (oq.st (by simp) ou108.one ou108.cells (fun H109 oq off110 => ?_))
 replace oq : Cel H109 q [u89, u108] := oq
 refine ob_i (vInt_add (by omega) (by omega)) ?_
 replace op1 := (op1.off off106 ap1Xv).off off110 ap1Xq
 replace oz := (oz.off off106 azXv).off off110 azXq
 replace oq0 := (oq0.off off106 aq0Xv).off off110 aq0Xq
 replace ou31 := (ou31.off off106 au31Xv).off off110 au31Xq
 replace ou36 := (ou36.off off106 au36Xv).off off110 au36Xq
 replace ou89 := (ou89.off off106 avXu89.symm).off off110 aqXu89.symm
 replace lE := off110.le (off106.le lE nv) nq
 replace ou108 := ou108.off off110 aqXu108.symm
 exact nxt (8 - (i + 1)) (by omega) ⟨i + 1, rfl, by omega, u89, u108, (lu ++ ([(i : Int) + 1])), (lv ++ ([(i : Int) + 1])), (at93), (sd94), g0L71, g2L71, g3L71, (congrArg (Value.int .i64) (by first | omega | rfl | (simp; done))), op1, oz, oq0, ou31, ou36, oq, ou89, ou108, nu89, ap1Xu89, azXu89, aq0Xu89, au31Xu89, au36Xu89, aqXu89, nu108, ap1Xu108, azXu108, aq0Xu108, au31Xu108, au36Xu108, aqXu108, au89Xu108, lE, (by first | exact lifK_mono hlu (by omega) | exact lifK_snoc hlu (by omega) (by omega) (by omega)), (by first | exact lifK_mono hlv (by omega) | exact lifK_snoc hlv (by omega) (by omega) (by omega)), (by first | (simp only [List.length_append, List.length_singleton]; omega) | omega), (by first | (simp only [List.length_append, List.length_singleton]; omega) | omega), ⟨by omega, by omega⟩⟩
 refine ob_i (vInt_add (by omega) (by omega)) ?_
 replace op1 := ((op1.off off87 ap1Xu).off off91 ap1Xq).off off96 ap1Xz
 replace oq0 := ((oq0.off off87 aq0Xu).off off91 aq0Xq).off off96 azXq0.symm
 replace ou31 := ((ou31.off off87 au31Xu).off off91 au31Xq).off off96 azXu31.symm
 replace ou36 := ((ou36.off off87 au36Xu).off off91 au36Xq).off off96 azXu36.symm
 replace ov := ((ov.off off87 auXv.symm).off off91 aqXv.symm).off off96 azXv.symm
 replace ou89 := (ou89.off off91 aqXu89.symm).off off96 azXu89.symm
 replace oq := oq.off off96 azXq.symm
 replace lE := off96.le lE nz
 exact nxt (8 - (i + 1)) (by omega) ⟨i + 1, rfl, by omega, u89, v, (lu ++ ([(i : Int) + 1])), (lv), (at93), (sd94), g0L71, g2L71, g3L71, (congrArg (Value.int .i64) (by first | omega | rfl | (simp; done))), op1, oz, oq0, ou31, ou36, oq, ou89, ov, nu89, ap1Xu89, azXu89, aq0Xu89, au31Xu89, au36Xu89, aqXu89, nv, ap1Xv, azXv, aq0Xv, au31Xv, au36Xv, aqXv, avXu89.symm, lE, (by first | exact lifK_mono hlu (by omega) | exact lifK_snoc hlu (by omega) (by omega) (by omega)), (by first | exact lifK_mono hlv (by omega) | exact lifK_snoc hlv (by omega) (by omega) (by omega)), (by first | (simp only [List.length_append, List.length_singleton]; omega) | omega), (by first | (simp only [List.length_append, List.length_singleton]; omega) | omega), ⟨by omega, by omega⟩⟩
 replace lE := off77.le lE nz
 refine C.c64 (n := 3) hvy0 hb_vy hl_vy lE nz oz (by omega) (by omega) (fun x111 at112 sd113 H114 ap116 aq117 oz off115 => ?_)
 replace oz : Cel H114 z [vy, (.int .i64 (at112)), (.int .u64 (sd113))] := oz
 refine cnd_i (fun hg118 => ?_) (fun hg118 => ?_)
 replace oq := (oq.off off77 azXq.symm).off off115 azXq.symm
 refine ob_i (oq.fa 1) (ob_i (oq.ld 1 rfl) (bS_i (enc := eI) (l := [(i : Int) + 1]) (by omega) rfl (by kernel_rfl) (fun u119 H120 ou119 nn121 le123 => ?_)))
 replace ov := ((ov.off off77 azXv.symm).off off115 azXv.symm).le le123
 refine apd_any ov ou119.sl (fun _ => rfl) (by omega) (by first | omega | (simp only [List.length_cons, List.length_nil, List.length_append, List.length_replicate, List.length_map, List.length_range]; omega)) (fun u127 H124 ou127 off125 hb126 => ?_)
 replace op1 := ((op1.off off77 ap1Xz).off off115 ap1Xz).le le123
 have ap1Xu127 := Apart.ap2 op1.known ap1Xv hb126
 replace oz := oz.le le123
 have azXu127 := Apart.ap2 oz.known azXv hb126
 replace oq0 := ((oq0.off off77 azXq0.symm).off off115 azXq0.symm).le le123
 have aq0Xu127 := Apart.ap2 oq0.known aq0Xv hb126
 replace ou31 := ((ou31.off off77 azXu31.symm).off off115 azXu31.symm).le le123
 have au31Xu127 := Apart.ap2 ou31.known au31Xv hb126
 replace ou36 := ((ou36.off off77 azXu36.symm).off off115 azXu36.symm).le le123
 have au36Xu127 := Apart.ap2 ou36.known au36Xv hb126
 replace oq := oq.le le123
 have aqXu127 := Apart.ap2 oq.known aqXv hb126
 replace ou := ((ou.off off77 azXu.symm).off off115 azXu.symm).le le123
 have auXu127 := Apart.ap2 ou.known auXv hb126
 replace lE := (off115.le lE nz).trans le123
 have nu127 : Nw H u127 := Nw.ap2 nv lE hb126
 replace oq := oq.off off125 aqXv
 refine ob_i (oq.fa 1) (oq.st (by simp) ou127.one ou127.cells (fun H128 oq off129 => ?_))
 replace oq : Cel H128 q [u, u127] := oq
 refine ob_i (vInt_add (by omega) (by omega)) ?_
 replace op1 := (op1.off off125 ap1Xv).off off129 ap1Xq
 replace oz := (oz.off off125 azXv).off off129 azXq
 replace oq0 := (oq0.off off125 aq0Xv).off off129 aq0Xq
 replace ou31 := (ou31.off off125 au31Xv).off off129 au31Xq
 replace ou36 := (ou36.off off125 au36Xv).off off129 au36Xq
 replace ou := (ou.off off125 auXv).off off129 aqXu.symm
 replace lE := off129.le (off125.le lE nv) nq
 replace ou127 := ou127.off off129 aqXu127.symm
 exact nxt (8 - (i + 1)) (by omega) ⟨i + 1, rfl, by omega, u, u127, (lu), (lv ++ ([(i : Int) + 1])), (at112), (sd113), g0L71, g2L71, g3L71, (congrArg (Value.int .i64) (by first | omega | rfl | (simp; done))), op1, oz, oq0, ou31, ou36, oq, ou, ou127, nu, ap1Xu, azXu, aq0Xu, au31Xu, au36Xu, aqXu, nu127, ap1Xu127, azXu127, aq0Xu127, au31Xu127, au36Xu127, aqXu127, auXu127, lE, (by first | exact lifK_mono hlu (by omega) | exact lifK_snoc hlu (by omega) (by omega) (by omega)), (by first | exact lifK_mono hlv (by omega) | exact lifK_snoc hlv (by omega) (by omega) (by omega)), (by first | (simp only [List.length_append, List.length_singleton]; omega) | omega), (by first | (simp only [List.length_append, List.length_singleton]; omega) | omega), ⟨by omega, by omega⟩⟩
 refine ob_i (vInt_add (by omega) (by omega)) ?_
 replace op1 := (op1.off off77 ap1Xz).off off115 ap1Xz
 replace oq0 := (oq0.off off77 azXq0.symm).off off115 azXq0.symm
 replace ou31 := (ou31.off off77 azXu31.symm).off off115 azXu31.symm
 replace ou36 := (ou36.off off77 azXu36.symm).off off115 azXu36.symm
 replace oq := (oq.off off77 azXq.symm).off off115 azXq.symm
 replace ou := (ou.off off77 azXu.symm).off off115 azXu.symm
 replace ov := (ov.off off77 azXv.symm).off off115 azXv.symm
 replace lE := off115.le lE nz
 exact nxt (8 - (i + 1)) (by omega) ⟨i + 1, rfl, by omega, u, v, (lu), (lv), (at112), (sd113), g0L71, g2L71, g3L71, (congrArg (Value.int .i64) (by first | omega | rfl | (simp; done))), op1, oz, oq0, ou31, ou36, oq, ou, ov, nu, ap1Xu, azXu, aq0Xu, au31Xu, au36Xu, aqXu, nv, ap1Xv, azXv, aq0Xv, au31Xv, au36Xv, aqXv, auXv, lE, (by first | exact lifK_mono hlu (by omega) | exact lifK_snoc hlu (by omega) (by omega) (by omega)), (by first | exact lifK_mono hlv (by omega) | exact lifK_snoc hlv (by omega) (by omega) (by omega)), (by first | (simp only [List.length_append, List.length_singleton]; omega) | omega), (by first | (simp only [List.length_append, List.length_singleton]; omega) | omega), ⟨by omega, by omega⟩⟩
 have ti := hg72
 exact hJ46 _ _ ⟨u, v, _, _, g2L71, g3L71, op1, oq0, oq, ou, ov, nu, ap1Xu, aq0Xu, aqXu, nv, ap1Xv, aq0Xv, aqXv, auXv, lE, (by first | exact ⟨hlu.1, hlv.1⟩ | decide), (by first | decide | omega), (by first | decide | omega)⟩
 replace op1 := ((op1.le le43).off off45 ap1Xq).off off55 ap1Xz
 replace oq0 := ((oq0.le le43).off off45 aq0Xq).off off55 azXq0.symm
 replace ou31 := (ou31.off off45 au31Xq).off off55 azXu31.symm
 replace ou36 := (ou36.off off45 au36Xq).off off55 azXu36.symm
 replace oq := oq.off off55 azXq.symm
 replace lE := off55.le lE nz
 exact hJ46 _ _ ⟨u31, u36, _, _, rfl, rfl, op1, oq0, oq, ou31, ou36, nu31, ap1Xu31, aq0Xu31, au31Xq.symm, nu36, ap1Xu36, aq0Xu36, au36Xq.symm, au31Xu36, lE, (by first | exact ⟨hlu.1, hlv.1⟩ | decide), (by first | decide | omega), (by first | decide | omega)⟩

theorem C.c67  {H : Hp} {K : Value → Hp → Prop} (hvy0 : Sl eU H vy l) (hb_vy : bytP l) (hl_vy : l.length ≤ 9223372036854775807) (hs : sidesF r c)
    (hk : ∀ (lf : List Int), (fieldN 1 r c lf) → ∀ u1 H', Own eI H' u1 lf → Nw H u1 → Le H H' → K (.agg #[(.int .i64 (r)), (.int .i64 (c)), u1]) H') : HT prg 28 [vy, (.int .i64 (r)), (.int .i64 (c))].toArray H K := by
 have lE := Le.refl H
 refine R.q28 ?_
 unfold F.q28
 have qm := sidesF_mul hs
 have q1 := hs.1
 have q2 := hs.2
 refine nw_i (fun p1 H2 op1 nn3 le4 => ?_)
 have np1 := nn3.le lE
 replace op1 : Cel H2 p1 [(.int .i64 (0)), (.int .i64 (0)), (.slice none 0 0)] := op1
 replace lE := lE.trans le4
 refine C.c61 (hvy0.le lE) (fun z H5 oz nn6 le7 => ?_)
 have ap1Xz := op1.apart nn6
 have nz := nn6.le lE
 replace oz : Cel H5 z [vy, (.int .i64 (0)), (.int .u64 (0))] := oz
 refine R.q64 ?_
 unfold F.q64
 refine nw_i (fun p8 H9 op8 nn10 le11 => ?_)
 replace op1 := op1.le le7
 have ap1Xp8 := op1.apart nn10
 have azXp8 := oz.apart nn10
 replace lE := lE.trans le7
 have np8 := nn10.le lE
 replace op8 : Cel H9 p8 [(.int .i64 (0)), (.int .i64 (0)), (.slice none 0 0)] := op8
 refine R.qx31 ?_
 unfold F.qx31
 refine nw_i (fun q0 H12 oq0 nn13 le14 => ?_)
 replace op1 := op1.le le11
 have ap1Xq0 := op1.apart nn13
 replace oz := oz.le le11
 have azXq0 := oz.apart nn13
 have ap8Xq0 := op8.apart nn13
 replace lE := lE.trans le11
 have nq0 := nn13.le lE
 replace oq0 : Cel H12 q0 [(.int .i64 (0)), (.int .i64 (0)), (.slice none 0 0)] := oq0
 refine ob_i (a := (.agg #[(.int .i64 (r)), (.int .i64 (c)), (.slice none 0 0)])) (by rfl) ?_
 refine nw_i (fun q H15 oq nn16 le17 => ?_)
 replace op1 := op1.le le14
 have ap1Xq := op1.apart nn16
 replace oz := oz.le le14
 have azXq := oz.apart nn16
 replace op8 := op8.le le14
 have ap8Xq := op8.apart nn16
 have aq0Xq := oq0.apart nn16
 replace lE := lE.trans le14
 have nq := nn16.le lE
 refine oq.stn (ws := [(.int .i64 (r)), (.int .i64 (c)), (.slice none 0 0)]) rfl rfl (oc1 rfl (oc1 rfl (oc1 rfl oc0))) (fun H18 oq off19 => ?_)
 refine jn_i (fun σ' H' => ∃ u, ∃ lu, σ' 8 = q0 ∧ σ' 9 = q ∧ Cel H' p1 [(.int .i64 (0)), (.int .i64 (0)), (.slice none 0 0)] ∧ Cel H' p8 [(.int .i64 (0)), (.int .i64 (0)), (.slice none 0 0)] ∧ Cel H' q0 [(.int .i64 (0)), (.int .i64 (0)), (.slice none 0 0)] ∧ Cel H' q [(.int .i64 (r)), (.int .i64 (c)), u] ∧ Own eI H' u (lu) ∧ Nw H u ∧ Apart p1 u ∧ Apart p8 u ∧ Apart q0 u ∧ Apart q u ∧ Le H H' ∧ (lu.length : Int) = r * c ∧ (∀ x ∈ lu, 0 ≤ x ∧ x ≤ 1)) (fun σ20 H20 hP => ?_) (fun J20 hJ20 => ?_)
 replace op1 := (op1.le le17).off off19 ap1Xq
 replace op8 := (op8.le le17).off off19 ap8Xq
 replace oq0 := (oq0.le le17).off off19 aq0Xq
 replace lE := off19.le (lE.trans le17) nq
 obtain ⟨u, lu, g8L20, g9L20, op1, op8, oq0, oq, ou, nu, ap1Xu, ap8Xu, aq0Xu, aqXu, lE, hln, hLa⟩ := hP
 try simp only [g8L20, g9L20]
 refine ob_i (oq.ldn rfl) (oq0.stn (ws := [(.int .i64 (r)), (.int .i64 (c)), u]) rfl rfl (oc1 rfl (oc1 rfl (oc1 ou.one oc0))) (fun H21 oq0 off22 => ?_))
 refine ob_i (oq0.ldn rfl) ?_
 replace op8 := op8.off off22 ap8Xq0
 replace ou := ou.off off22 aq0Xu.symm
 refine op8.stn (ws := [(.int .i64 (r)), (.int .i64 (c)), u]) rfl rfl (oc1 rfl (oc1 rfl (oc1 ou.one oc0))) (fun H23 op8 off24 => ?_)
 refine ob_i (op8.ldn rfl) ?_
 replace op1 := (op1.off off22 ap1Xq0).off off24 ap1Xp8
 replace ou := ou.off off24 ap8Xu.symm
 refine op1.stn (ws := [(.int .i64 (r)), (.int .i64 (c)), u]) rfl rfl (oc1 rfl (oc1 rfl (oc1 ou.one oc0))) (fun H25 op1 off26 => ?_)
 refine ob_i (op1.ldn rfl) ?_
 replace lE := off26.le (off24.le (off22.le lE nq0) np8) np1
 replace ou := ou.off off26 ap1Xu.symm
 exact hk  lu (by exact ⟨hs, hln, hLa⟩) u _ ou nu  lE
 refine ob_i (vInt_mul (by omega) (by omega)) ?_
 replace op1 := (op1.le le17).off off19 ap1Xq
 replace oz := (oz.le le17).off off19 azXq
 replace op8 := (op8.le le17).off off19 ap8Xq
 replace oq0 := (oq0.le le17).off off19 aq0Xq
 replace lE := off19.le (lE.trans le17) nq
 refine ⟨fun n' σ' H' => ∃ i : Nat, n' = (r * c).toNat - i ∧ i ≤ (r * c).toNat ∧ ∃ u, ∃ lu, ∃ ats, ∃ sd, σ' 0 = z ∧ σ' 3 = (.int .i64 (2)) ∧ σ' 8 = q0 ∧ σ' 9 = q ∧ σ' 10 = (.int .i64 (r * c - (i : Int))) ∧ Cel H' p1 [(.int .i64 (0)), (.int .i64 (0)), (.slice none 0 0)] ∧ Cel H' z [vy, (.int .i64 (ats)), (.int .u64 (sd))] ∧ Cel H' p8 [(.int .i64 (0)), (.int .i64 (0)), (.slice none 0 0)] ∧ Cel H' q0 [(.int .i64 (0)), (.int .i64 (0)), (.slice none 0 0)] ∧ Cel H' q [(.int .i64 (r)), (.int .i64 (c)), u] ∧ Own eI H' u (lu) ∧ Nw H u ∧ Apart p1 u ∧ Apart z u ∧ Apart p8 u ∧ Apart q0 u ∧ Apart q u ∧ Le H H' ∧ lu.length = i ∧ (∀ x ∈ lu, 0 ≤ x ∧ x ≤ 1) ∧ 0 ≤ ats ∧ ats ≤ 2 * (i : Int),
    ⟨_, 0, rfl, by omega, _, [], 0, 0, rfl, rfl, rfl, rfl, (congrArg (Value.int .i64) (by first | omega | rfl | (simp; done))), op1, oz, op8, oq0, oq, (Own.cast (by first | rfl | (simp; done)) (Own.nil_of none)), (fun b hb => by simp [bk] at hb), (fun b _ hb => by simp [bk] at hb), (fun b _ hb => by simp [bk] at hb), (fun b _ hb => by simp [bk] at hb), (fun b _ hb => by simp [bk] at hb), (fun b _ hb => by simp [bk] at hb), lE, rfl, (by simp), ⟨by omega, by omega⟩⟩, ?_⟩
 rintro n27 σ27 H27 ⟨i, rfl, hiN, u, lu, ats, sd, g0L27, g3L27, g8L27, g9L27, g10L27, op1, oz, op8, oq0, oq, ou, nu, ap1Xu, azXu, ap8Xu, aq0Xu, aqXu, lE, hln, hLa, hat⟩
 try simp only [g0L27, g3L27, g8L27, g9L27, g10L27]
 refine ob_i (vInt_gtr _ _ _) (cnd_d (fun hg28 => ?_) (fun hg28 => ?_))
 have ti := hg28
 refine ⟨?_, ?_⟩
 refine ob_i (oq.fa 2) (ob_i (oq.ld 2 rfl) (C.c63 hvy0 hb_vy hl_vy lE nz oz (by omega) (by omega) (fun x29 at30 sd31 H32 xp34 xq35 ap36 aq37 oz off33 => ?_)))
 replace xq35 := xq35 (by omega)
 replace oz : Cel H32 z [vy, (.int .i64 (at30)), (.int .u64 (sd31))] := oz
 refine bS_i (enc := eI) (l := [x29]) (by omega) rfl (by kernel_rfl) (fun u38 H39 ou38 nn40 le42 => ?_)
 replace ou := (ou.off off33 azXu.symm).le le42
 refine apd_any ou ou38.sl (fun _ => rfl) (by omega) (by first | omega | (simp only [List.length_cons, List.length_nil, List.length_append, List.length_replicate, List.length_map, List.length_range]; omega)) (fun u46 H43 ou46 off44 hb45 => ?_)
 replace op1 := (op1.off off33 ap1Xz).le le42
 have ap1Xu46 := Apart.ap2 op1.known ap1Xu hb45
 replace oz := oz.le le42
 have azXu46 := Apart.ap2 oz.known azXu hb45
 replace op8 := (op8.off off33 azXp8.symm).le le42
 have ap8Xu46 := Apart.ap2 op8.known ap8Xu hb45
 replace oq0 := (oq0.off off33 azXq0.symm).le le42
 have aq0Xu46 := Apart.ap2 oq0.known aq0Xu hb45
 replace oq := (oq.off off33 azXq.symm).le le42
 have aqXu46 := Apart.ap2 oq.known aqXu hb45
 replace lE := (off33.le lE nz).trans le42
 have nu46 : Nw H u46 := Nw.ap2 nu lE hb45
 replace oq := oq.off off44 aqXu
 refine ob_i (oq.fa 2) (oq.st (by simp) ou46.one ou46.cells (fun H47 oq off48 => ?_))
 replace oq : Cel H47 q [(.int .i64 (r)), (.int .i64 (c)), u46] := oq
 refine ob_i (vInt_sub (by omega) (by omega)) ?_
 replace op1 := (op1.off off44 ap1Xu).off off48 ap1Xq
 replace oz := (oz.off off44 azXu).off off48 azXq
 replace op8 := (op8.off off44 ap8Xu).off off48 ap8Xq
 replace oq0 := (oq0.off off44 aq0Xu).off off48 aq0Xq
 replace lE := off48.le (off44.le lE nu) nq
 replace ou46 := ou46.off off48 aqXu46.symm
 exact nxt ((r * c).toNat - (i + 1)) (by omega) ⟨i + 1, rfl, by omega, u46, (lu ++ ([x29])), (at30), (sd31), g0L27, g3L27, g8L27, g9L27, (congrArg (Value.int .i64) (by first | omega | rfl | (simp; done))), op1, oz, op8, oq0, oq, ou46, nu46, ap1Xu46, azXu46, ap8Xu46, aq0Xu46, aqXu46, lE, (by rw [List.length_append, hln]; rfl), (all_snoc hLa (by omega)), ⟨by omega, by omega⟩⟩
 refine ob_i (oq.fa 2) (C.c63 hvy0 hb_vy hl_vy lE nz oz (by omega) (by omega) (fun x49 at50 sd51 H52 xp54 xq55 ap56 aq57 oz off53 => ?_))
 replace xq55 := xq55 (by omega)
 replace oz : Cel H52 z [vy, (.int .i64 (at50)), (.int .u64 (sd51))] := oz
 replace oq := oq.off off53 azXq.symm
 refine ob_i (oq.ld 2 rfl) (bS_i (enc := eI) (l := [x49]) (by omega) rfl (by kernel_rfl) (fun u58 H59 ou58 nn60 le62 => ?_))
 replace ou := (ou.off off53 azXu.symm).le le62
 refine apd_any ou ou58.sl (fun _ => rfl) (by omega) (by first | omega | (simp only [List.length_cons, List.length_nil, List.length_append, List.length_replicate, List.length_map, List.length_range]; omega)) (fun u66 H63 ou66 off64 hb65 => ?_)
 replace op1 := (op1.off off53 ap1Xz).le le62
 have ap1Xu66 := Apart.ap2 op1.known ap1Xu hb65
 replace oz := oz.le le62
 have azXu66 := Apart.ap2 oz.known azXu hb65
 replace op8 := (op8.off off53 azXp8.symm).le le62
 have ap8Xu66 := Apart.ap2 op8.known ap8Xu hb65
 replace oq0 := (oq0.off off53 azXq0.symm).le le62
 have aq0Xu66 := Apart.ap2 oq0.known aq0Xu hb65
 replace oq := oq.le le62
 have aqXu66 := Apart.ap2 oq.known aqXu hb65
 replace lE := (off53.le lE nz).trans le62
 have nu66 : Nw H u66 := Nw.ap2 nu lE hb65
 replace oq := oq.off off64 aqXu
 refine ob_i (oq.fa 2) (oq.st (by simp) ou66.one ou66.cells (fun H67 oq off68 => ?_))
 replace oq : Cel H67 q [(.int .i64 (r)), (.int .i64 (c)), u66] := oq
 refine ob_i (vInt_sub (by omega) (by omega)) ?_
 replace op1 := (op1.off off64 ap1Xu).off off68 ap1Xq
 replace oz := (oz.off off64 azXu).off off68 azXq
 replace op8 := (op8.off off64 ap8Xu).off off68 ap8Xq
 replace oq0 := (oq0.off off64 aq0Xu).off off68 aq0Xq
 replace lE := off68.le (off64.le lE nu) nq
 replace ou66 := ou66.off off68 aqXu66.symm
 exact nxt ((r * c).toNat - (i + 1)) (by omega) ⟨i + 1, rfl, by omega, u66, (lu ++ ([x49])), (at50), (sd51), g0L27, g3L27, g8L27, g9L27, (congrArg (Value.int .i64) (by first | omega | rfl | (simp; done))), op1, oz, op8, oq0, oq, ou66, nu66, ap1Xu66, azXu66, ap8Xu66, aq0Xu66, aqXu66, lE, (by rw [List.length_append, hln]; rfl), (all_snoc hLa (by omega)), ⟨by omega, by omega⟩⟩
 have ti := hg28
 exact hJ20 _ _ ⟨u, _, g8L27, g9L27, op1, op8, oq0, oq, ou, nu, ap1Xu, ap8Xu, aq0Xu, aqXu, lE, (by omega), hLa⟩

theorem C.c68 {va : Value}  {H : Hp} {K : Value → Hp → Prop} (hva0 : Sl eI H va l) (hvb0 : Sl eI H vb m) (k1 : l.length ≤ 9223372036854775807)
    (hk : ∀ H', Le H H' → K (.bool (decide (l = m))) H') : HT prg 23 [va, vb].toArray H K := by
 have lE := Le.refl H
 refine R.q23 ?_
 unfold F.q23
 refine ob_i ((hva0.le lE).len) (ob_i ((hvb0.le lE).len) (ob_i (vInt_neq _ _ _) (cnd_d (fun hg1 => ?_) (fun hg1 => ?_))))
 exact keq (K := K) (by rw [decide_eq_false (show ¬ (l = m) from by intro h; subst h; omega)]) (hk   _    lE)
 refine jn_i (fun σ' H' => Le H H' ∧ (∀ j : Nat, j < l.length → at_ 0 l (j : Int) = at_ 0 m (j : Int))) (fun σ2 H2 hP => ?_) (fun J2 hJ2 => ?_)
 obtain ⟨lE, ho0⟩ := hP
 exact keq (K := K) (by rw [decide_eq_true (show (l = m) from by exact ints_eq (by omega) ho0)]) (hk   _    lE)
 refine ob_i ((hva0.le lE).len) ?_
 refine ⟨fun n' σ' H' => ∃ i : Nat, n' = l.length - i ∧ i ≤ l.length ∧ σ' 0 = va ∧ σ' 1 = vb ∧ σ' 12 = (.int .i64 (((l).length : Int))) ∧ σ' 13 = (.int .i64 ((i : Int))) ∧ Le H H' ∧ (∀ j : Nat, j < i → at_ 0 l (j : Int) = at_ 0 m (j : Int)),
    ⟨_, 0, rfl, by omega, rfl, rfl, rfl, (congrArg (Value.int .i64) (by first | omega | rfl | (simp; done))), lE, (fun j hj => by omega)⟩, ?_⟩
 rintro n3 σ3 H3 ⟨i, rfl, hiN, g0L3, g1L3, g12L3, g13L3, lE, hm0⟩
 try simp only [g0L3, g1L3, g12L3, g13L3]
 refine ob_i (vInt_lss _ _ _) (cnd_d (fun hg4 => ?_) (fun hg4 => ?_))
 have ti := hg4
 refine ob_i ((hva0.le lE).ix (by omega) (by omega)) (ob_i ((hva0.le lE).ld 0 (by omega) (by omega)) (ob_i ((hvb0.le lE).ix (by omega) (by omega)) (ob_i ((hvb0.le lE).ld 0 (by omega) (by omega)) (ob_i (vInt_neq _ _ _) (cnd_d (fun hg5 => ?_) (fun hg5 => ?_))))))
 refine retK (K := K) (v' := (.bool false)) rfl ?_
 exact keq (K := K) (by rw [decide_eq_false (show ¬ (l = m) from by intro h; subst h; omega)]) (hk   _    lE)
 refine ob_i (vInt_add (by omega) (by omega)) ?_
 exact nxt (l.length - (i + 1)) (by omega) ⟨i + 1, rfl, by omega, g0L3, g1L3, g12L3, (congrArg (Value.int .i64) (by first | omega | rfl | (simp; done))), lE, (ints_snoc hm0 (Decidable.not_not.mp hg5))⟩
 have ti := hg4
 exact hJ2 _ _ ⟨lE, (by rw [show l.length = i by omega]; exact hm0)⟩

theorem C.c69  {H : Hp} {K : Value → Hp → Prop} (hvy0 : Sl eU H vy l) (hvm0 : Sl eU H vm m)
    (hk : ∀ H', Le H H' → K (.bool (decide (1048576 < l.length ∨ 1048576 < m.length))) H') : HT prg 19 [vy, vm].toArray H K := by
 have lE := Le.refl H
 refine R.q19 ?_
 unfold F.q19
 refine ob_i ((hvy0.le lE).len) (ob_i (vInt_gtr _ _ _) ?_)
 by_cases hc1 : 1048576 < (((l).length : Int))
 exact hQT hc1 (hQT hc1 (hQT hc1 (ob_i (vPick_et (decide_eq_true hc1) _ _) (keq (K := K) (by rw [decide_eq_true (show (1048576 < l.length ∨ 1048576 < m.length) from by omega)]) (hk   _    lE)))))
 exact gQF hc1 (gQF hc1 (ob_i ((hvm0.le lE).len) (gQF hc1 (ob_i (vInt_gtr _ _ _) (ob_i (vPick_ef (decide_eq_false hc1) _ _) (keq (K := K) (by rw [show decide (1048576 < (((m).length : Int))) = decide (1048576 < l.length ∨ 1048576 < m.length) from decide_eq_decide.mpr (by omega)]) (hk   _    lE)))))))

theorem C.c70  {H : Hp} {K : Value → Hp → Prop} (hvb0 : Sl eI H vb b) (hvs0 : Sl eI H vs s) (hvc0 : Sl eI H vc l) (kb : b.length ≤ 9223372036854775807) (ks : s.length ≤ 9223372036854775807) (k1 : l.length ≤ 9223372036854775807) (hP : canP b s r c l)
    (hk : ∀ u1 H', Own eI H' u1 (nxL rnd b s r c l) → Nw H u1 → Le H H' → K (.tuple #[(.agg #[(.int .i64 (r)), (.int .i64 (c)), u1]), (.bool true)]) H') : HT prg 33 [(.agg #[vb, vs]), (.agg #[(.int .i64 (r)), (.int .i64 (c)), vc]), (.bool (rnd))].toArray H K := by
 have lE := Le.refl H
 refine R.q33 ?_
 unfold F.q33
 refine nw_i (fun p1 H2 op1 nn3 le4 => ?_)
 replace op1 : Cel H2 p1 [vb, vs] := op1
 refine nw_i (fun p5 H6 op5 nn7 le8 => ?_)
 replace op5 : Cel H6 p5 [(.int .i64 (r)), (.int .i64 (c)), vc] := op5
 refine nw_i (fun p9 H10 op9 nn11 le12 => ?_)
 replace lE := (lE.trans le4).trans le8
 have np9 := nn11.le lE
 replace op9 : Cel H10 p9 [(.int .i64 (0)), (.int .i64 (0)), (.slice none 0 0)] := op9
 replace op1 := (op1.le le8).le le12
 replace op5 := op5.le le12
 replace lE := lE.trans le12
 refine C.c24 op1 op5 (hvb0.le lE) (hvs0.le lE) (hvc0.le lE) (by first | omega | assumption) (by first | omega | assumption) (by first | omega | assumption) (fun   H13    le14 => ?_)
 refine ob_nd (fun hc15 => ?_) (fun hc15 => ?_)
 have hf := hc15.2
 have l1 := fieldN_len hf
 refine cnd_f1 ?_
 replace op1 := op1.le le14
 replace op5 := op5.le le14
 replace lE := lE.trans le14
 refine C.c36 op1 op5 (hvb0.le lE) (hvs0.le lE) (hvc0.le lE) (by first | omega | assumption) (by first | omega | assumption) (by first | omega | assumption) (fun  u18 H16 ou18 nn19  le17 => ?_)
 replace op9 := op9.le le14
 have ap9Xu18 := op9.apart nn19
 have nu18 := nn19.le lE
 replace op9 := op9.le le17
 refine op9.stn (ws := [(.int .i64 (r)), (.int .i64 (c)), u18]) rfl rfl (oc1 rfl (oc1 rfl (oc1 ou18.one oc0))) (fun H20 op9 off21 => ?_)
 refine ob_i (op9.ldn rfl) ?_
 replace lE := off21.le (lE.trans le17) np9
 replace ou18 := ou18.off off21 ap9Xu18.symm
 exact hk  u18 _ ou18 nu18  lE
 exact absurd hc15 (fun h => h hP)

theorem C.c71  {H : Hp} {K : Value → Hp → Prop}
    (hk : ∀ H', Le H H' → K (.bool (decide ((1 ≤ r ∧ r ≤ 24) ∧ 1 ≤ c ∧ c ≤ 24))) H') : HT prg 113 [(.int .i64 (r)), (.int .i64 (c))].toArray H K := by
 have lE := Le.refl H
 refine R.q113 ?_
 unfold F.q113
 refine C.c0  ?_
 by_cases hc1 : 1 ≤ r ∧ r ≤ 24
 refine gQT hc1 (gQT hc1 (C.c0  ?_))
 exact ob_i (vPick_et (decide_eq_true hc1) _ _) (keq (K := K) (by rw [show decide (1 ≤ c ∧ c ≤ 24) = decide ((1 ≤ r ∧ r ≤ 24) ∧ 1 ≤ c ∧ c ≤ 24) from decide_eq_decide.mpr (by exact ⟨fun h => ⟨by assumption, h⟩, fun h => h.2⟩)]) (hk   _    lE))
 exact hQF hc1 (hQF hc1 (ob_i (vPick_ef (decide_eq_false hc1) _ _) (keq (K := K) (by rw [decide_eq_false (show ¬ ((1 ≤ r ∧ r ≤ 24) ∧ 1 ≤ c ∧ c ≤ 24) from by exact fun h => absurd h.1 (by assumption))]) (hk   _    lE))))

theorem C.c72 {p : Value}  {H : Hp} {K : Value → Hp → Prop} (hp0 : Cel H p [(.int .i64 (r)), (.int .i64 (c)), vc]) (hvc0 : Sl eI H vc l) (hs : sidesF r c) (w0 : 1 ≤ rows ∧ rows ≤ 24) (w1 : 1 ≤ cols ∧ cols ≤ 24)
    (hk : ∀ H', Le H H' → K (.bool (decide (((1 ≤ rows ∧ rows ≤ 24) ∧ 1 ≤ cols ∧ cols ≤ 24) ∧ (0 ≤ row ∧ row ≤ r - rows) ∧ 0 ≤ col ∧ col ≤ c - cols))) H') : HT prg 71 [p, (.int .i64 (row)), (.int .i64 (col)), (.int .i64 (rows)), (.int .i64 (cols))].toArray H K := by
 have lE := Le.refl H
 refine R.q71 ?_
 unfold F.q71
 have q1 := hs.1
 have q2 := hs.2
 refine C.c71  (fun   H1    le2 => ?_)
 by_cases hc3 : (1 ≤ rows ∧ rows ≤ 24) ∧ 1 ≤ cols ∧ cols ≤ 24
 refine gQT hc3 (gQT hc3 (gQT hc3 ?_))
 replace lE := lE.trans le2
 refine ob_i ((hp0.le lE).nilC) (gQT hc3 (ob_i ((hp0.le lE).fa 0) (gQT hc3 (ob_i ((hp0.le lE).ld 0 rfl) (gQT hc3 (gQT hc3 (ob_i (vInt_sub (by omega) (by omega)) (gQT hc3 (C.c0  ?_)))))))))
 refine ob_i (vPick_et (decide_eq_true hc3) _ _) ?_
 by_cases hc4 : 0 ≤ row ∧ row ≤ (r - rows)
 refine gQT hc4 (gQT hc4 (gQT hc4 (ob_i ((hp0.le lE).nilC) (gQT hc4 (ob_i ((hp0.le lE).fa 1) (gQT hc4 (ob_i ((hp0.le lE).ld 1 rfl) (gQT hc4 (gQT hc4 ?_)))))))))
 refine ob_i (vInt_sub (by omega) (by omega)) (gQT hc4 (C.c0  ?_))
 exact ob_i (vPick_et (decide_eq_true hc4) _ _) (keq (K := K) (by rw [show decide (0 ≤ col ∧ col ≤ (c - cols)) = decide (((1 ≤ rows ∧ rows ≤ 24) ∧ 1 ≤ cols ∧ cols ≤ 24) ∧ (0 ≤ row ∧ row ≤ r - rows) ∧ 0 ≤ col ∧ col ≤ c - cols) from decide_eq_decide.mpr (by omega)]) (hk   _    lE))
 exact hQF hc4 (hQF hc4 (hQF hc4 (hQF hc4 (hQF hc4 (hQF hc4 (hQF hc4 (hQF hc4 (ob_i (vPick_ef (decide_eq_false hc4) _ _) (keq (K := K) (by rw [decide_eq_false (show ¬ (((1 ≤ rows ∧ rows ≤ 24) ∧ 1 ≤ cols ∧ cols ≤ 24) ∧ (0 ≤ row ∧ row ≤ r - rows) ∧ 0 ≤ col ∧ col ≤ c - cols) from by omega)]) (hk   _    lE))))))))))
 refine hQF hc3 (hQF hc3 (hQF hc3 (hQF hc3 (hQF hc3 (hQF hc3 (hQF hc3 (hQF hc3 (ob_i (vPick_ef (decide_eq_false hc3) _ _) (gop_sf ?_)))))))))
 refine gop_sf (gop_sf (gop_sf (gop_sf (gop_sf (gop_sf (gop_sf (ob_i (vPick_f _ _) ?_)))))))
 replace lE := lE.trans le2
 exact keq (K := K) (by rw [decide_eq_false (show ¬ (((1 ≤ rows ∧ rows ≤ 24) ∧ 1 ≤ cols ∧ cols ≤ 24) ∧ (0 ≤ row ∧ row ≤ r - rows) ∧ 0 ≤ col ∧ col ≤ c - cols) from by omega)]) (hk   _    lE)

theorem C.c73  {H : Hp} {K : Value → Hp → Prop} (hvc0 : Sl eI H vc l) (k1 : l.length ≤ 9223372036854775807) (hf : fieldN 1 r c l) (h0 : 0 ≤ row) (h1 : 0 ≤ col) (h2 : 1 ≤ rows) (h3 : 1 ≤ cols) (h4 : row + rows ≤ r) (h5 : col + cols ≤ c)
    (hk : ∀ u1 H', Own eI H' u1 (mkL cols (cutG c l row col) ((rows : Int).toNat * (cols : Int).toNat)) → Nw H u1 → Le H H' → K (.tuple #[(.agg #[(.int .i64 (rows)), (.int .i64 (cols)), u1]), (.bool true)]) H') : HT prg 31 [(.agg #[(.int .i64 (r)), (.int .i64 (c)), vc]), (.int .i64 (row)), (.int .i64 (col)), (.int .i64 (rows)), (.int .i64 (cols))].toArray H K := by
 have lE := Le.refl H
 refine R.q31 ?_
 unfold F.q31
 have hs := hf.1
 have hl := hf.2.1
 have q1 := hs.1
 have q2 := hs.2
 have l1 := fieldN_len hf
 have h9 : fieldN 9 r c l := ⟨hf.1, hf.2.1, fun x hx => by have := hf.2.2 x hx; omega⟩
 refine nw_i (fun p1 H2 op1 nn3 le4 => ?_)
 replace op1 : Cel H2 p1 [(.int .i64 (r)), (.int .i64 (c)), vc] := op1
 refine nw_i (fun p5 H6 op5 nn7 le8 => ?_)
 replace lE := lE.trans le4
 have np5 := nn7.le lE
 replace op5 : Cel H6 p5 [(.int .i64 (0)), (.int .i64 (0)), (.slice none 0 0)] := op5
 replace op1 := op1.le le8
 replace lE := lE.trans le8
 refine C.c4 op1 (hvc0.le lE) (by first | omega | assumption) ?_
 refine ob_nd (fun hc9 => ?_) (fun hc9 => ?_)
 refine gop_rf (gop_rf (gop_rf (gop_rf (gop_rf (C.c72 op1 (hvc0.le lE) (by exact hs) (by first | omega | assumption) (by first | omega | assumption) (fun   H10    le11 => ?_))))))
 refine gop_rf (ob_nd (fun hc12 => ?_) (fun hc12 => ?_))
 refine ob_i (vPick_f _ _) (cnd_f1 (C.c16 (by first | omega | assumption) (by first | omega | assumption) (by first | omega | assumption) (by first | omega | assumption) (fun  u H13 ou nn15  le14 => ?_)))
 replace op1 := op1.le le11
 have ap1Xu := op1.apart nn15
 replace op5 := op5.le le11
 have ap5Xu := op5.apart nn15
 replace lE := lE.trans le11
 have nu := nn15.le lE
 refine nw_i (fun q H16 oq nn17 le18 => ?_)
 replace op1 := op1.le le14
 have ap1Xq := op1.apart nn17
 replace op5 := op5.le le14
 have ap5Xq := op5.apart nn17
 have auXq := ou.apart nn17
 replace lE := lE.trans le14
 have nq := nn17.le lE
 replace ou := ou.le le18
 refine oq.stn (ws := [(.int .i64 (rows)), (.int .i64 (cols)), u]) rfl rfl (oc1 rfl (oc1 rfl (oc1 ou.one oc0))) (fun H19 oq off20 => ?_)
 refine jn_i (fun σ' H' => σ' 10 = p5 ∧ σ' 12 = q ∧ Cel H' p1 [(.int .i64 (r)), (.int .i64 (c)), vc] ∧ Cel H' p5 [(.int .i64 (0)), (.int .i64 (0)), (.slice none 0 0)] ∧ Own eI H' u (mkL cols (cutG c l row col) (rows.toNat * cols.toNat)) ∧ Cel H' q [(.int .i64 (rows)), (.int .i64 (cols)), u] ∧ Le H H') (fun σ21 H21 hP => ?_) (fun J21 hJ21 => ?_)
 replace op1 := (op1.le le18).off off20 ap1Xq
 replace op5 := (op5.le le18).off off20 ap5Xq
 replace lE := off20.le (lE.trans le18) nq
 replace ou := ou.off off20 auXq
 obtain ⟨g10L21, g12L21, op1, op5, ou, oq, lE⟩ := hP
 try simp only [g10L21, g12L21]
 refine ob_i (oq.ldn rfl) (op5.stn (ws := [(.int .i64 (rows)), (.int .i64 (cols)), u]) rfl rfl (oc1 rfl (oc1 rfl (oc1 ou.one oc0))) (fun H22 op5 off23 => ?_))
 refine ob_i (op5.ldn rfl) ?_
 replace ou := ou.off off23 ap5Xu.symm
 replace lE := off23.le lE np5
 exact hk  u _ (Own.cast (show mkL cols (cutG c l row col) (rows.toNat * cols.toNat) = mkL cols (cutG c l row col) ((rows : Int).toNat * (cols : Int).toNat) by first | rfl | simp) ou) nu  lE
 replace op1 := (op1.le le18).off off20 ap1Xq
 replace op5 := (op5.le le18).off off20 ap5Xq
 replace lE := off20.le (lE.trans le18) nq
 replace ou := ou.off off20 auXq
 refine ⟨fun n' σ' H' => ∃ i : Nat, n' = rows.toNat - i ∧ i ≤ rows.toNat ∧ σ' 1 = (.int .i64 (row)) ∧ σ' 2 = (.int .i64 (col)) ∧ σ' 3 = (.int .i64 (rows)) ∧ σ' 4 = (.int .i64 (cols)) ∧ σ' 5 = p1 ∧ σ' 10 = p5 ∧ σ' 12 = q ∧ σ' 13 = (.int .i64 ((i : Int))) ∧ Cel H' p1 [(.int .i64 (r)), (.int .i64 (c)), vc] ∧ Cel H' p5 [(.int .i64 (0)), (.int .i64 (0)), (.slice none 0 0)] ∧ Own eI H' u (fillL cols (cutG c l row col) (rows.toNat * cols.toNat) (i * cols.toNat)) ∧ Cel H' q [(.int .i64 (rows)), (.int .i64 (cols)), u] ∧ Le H H',
    ⟨_, 0, rfl, by omega, rfl, rfl, rfl, rfl, rfl, rfl, rfl, (congrArg (Value.int .i64) (by first | omega | rfl | (simp; done))), op1, op5, (by rw [Nat.zero_mul, fillL_zero]; exact ou), oq, lE⟩, ?_⟩
 rintro n24 σ24 H24 ⟨i, rfl, hiN, g1L24, g2L24, g3L24, g4L24, g5L24, g10L24, g12L24, g13L24, op1, op5, ou, oq, lE⟩
 try simp only [g1L24, g2L24, g3L24, g4L24, g5L24, g10L24, g12L24, g13L24]
 refine ob_i (vInt_lss _ _ _) (cnd_d (fun hg25 => ?_) (fun hg25 => ?_))
 have ti := hg25
 refine jn_i (fun σ' H' => σ' 1 = (.int .i64 (row)) ∧ σ' 2 = (.int .i64 (col)) ∧ σ' 3 = (.int .i64 (rows)) ∧ σ' 4 = (.int .i64 (cols)) ∧ σ' 5 = p1 ∧ σ' 10 = p5 ∧ σ' 12 = q ∧ σ' 13 = (.int .i64 ((i : Int))) ∧ Cel H' p1 [(.int .i64 (r)), (.int .i64 (c)), vc] ∧ Cel H' p5 [(.int .i64 (0)), (.int .i64 (0)), (.slice none 0 0)] ∧ Own eI H' u (fillL cols (cutG c l row col) (rows.toNat * cols.toNat) ((i + 1) * cols.toNat)) ∧ Cel H' q [(.int .i64 (rows)), (.int .i64 (cols)), u] ∧ Le H H') (fun σ26 H26 hP => ?_) (fun J26 hJ26 => ?_)
 obtain ⟨g1L26, g2L26, g3L26, g4L26, g5L26, g10L26, g12L26, g13L26, op1, op5, ou, oq, lE⟩ := hP
 try simp only [g10L26, g13L26]
 refine ob_i (vInt_add (by omega) (by omega)) ?_
 exact nxt (rows.toNat - (i + 1)) (by omega) ⟨i + 1, rfl, by omega, g1L26, g2L26, g3L26, g4L26, g5L26, g10L26, g12L26, (congrArg (Value.int .i64) (by first | omega | rfl | (simp; done))), op1, op5, ou, oq, lE⟩
 refine ⟨fun n' σ' H' => ∃ k : Nat, n' = cols.toNat - k ∧ k ≤ cols.toNat ∧ σ' 1 = (.int .i64 (row)) ∧ σ' 2 = (.int .i64 (col)) ∧ σ' 3 = (.int .i64 (rows)) ∧ σ' 4 = (.int .i64 (cols)) ∧ σ' 5 = p1 ∧ σ' 10 = p5 ∧ σ' 12 = q ∧ σ' 13 = (.int .i64 ((i : Int))) ∧ σ' 14 = (.int .i64 ((k : Int))) ∧ Cel H' p1 [(.int .i64 (r)), (.int .i64 (c)), vc] ∧ Cel H' p5 [(.int .i64 (0)), (.int .i64 (0)), (.slice none 0 0)] ∧ Own eI H' u (fillL cols (cutG c l row col) (rows.toNat * cols.toNat) (i * cols.toNat + k)) ∧ Cel H' q [(.int .i64 (rows)), (.int .i64 (cols)), u] ∧ Le H H',
    ⟨_, 0, rfl, by omega, g1L24, g2L24, g3L24, g4L24, g5L24, g10L24, g12L24, g13L24, (congrArg (Value.int .i64) (by first | omega | rfl | (simp; done))), op1, op5, ou, oq, lE⟩, ?_⟩
 rintro n27 σ27 H27 ⟨k, rfl, hkN, g1L27, g2L27, g3L27, g4L27, g5L27, g10L27, g12L27, g13L27, g14L27, op1, op5, ou, oq, lE⟩
 try simp only [g1L27, g2L27, g4L27, g5L27, g10L27, g12L27, g13L27, g14L27]
 refine ob_i (vInt_lss _ _ _) (cnd_d (fun hg28 => ?_) (fun hg28 => ?_))
 have tk := hg28
 have x1 := ix_lt (a := row + i) (b := col + k) (r := r) (c := c) (by omega) (by omega) (by omega) (by omega)
 have x2 := ix_lt (a := (i : Int)) (b := (k : Int)) (r := rows) (c := cols) (by omega) (by omega) (by omega) (by omega)
 have x3 := fillL_len (c := cols) (g := cutG c l row col) (rr := rows) (cc := cols) (t := i * cols.toNat + k) (by omega) (by omega)
 have x4 := sidesF_mul hs
 have x5 := ix_le (a := rows) (b := cols) (by omega) (by omega) (by omega) (by omega)
 refine ob_i (oq.fa 2) (ob_i (oq.ld 2 rfl) (ob_i (vInt_mul (by omega) (by omega)) (ob_i (vInt_add (by omega) (by omega)) (ob_i (op1.fa 2) (ob_i (op1.ld 2 rfl) (ob_i (vInt_add (by omega) (by omega)) (ob_i (op1.fa 1) (ob_i (op1.ld 1 rfl) (ob_i (vInt_mul (by omega) (by omega)) ?_)))))))))
 refine ob_i (vInt_add (by omega) (by omega)) (ob_i (vInt_add (by omega) (by omega)) (ob_i ((hvc0.le lE).ix (by omega) (by omega)) (ob_i ((hvc0.le lE).ld 0 (by omega) (by omega)) (ob_i (ou.sl.ix (by omega) (by omega)) (ou.st (x := at_ 0 (l) ((((row + (i : Int)) * c) + col) + (k : Int))) (by omega) (by omega) rfl rfl (fun H29 ou off30 => ?_))))))
 refine ob_i (vInt_add (by omega) (by omega)) ?_
 have e := fillL_set (c := cols) (g := cutG c l row col) (N := (rows.toNat * cols.toNat)) (i := i) (k := k) (t := i * cols.toNat + k) (by omega) (by omega) (by omega) (cast_ix (by omega)) (by omega)
 replace ou : Own eI H29 u (fillL cols (cutG c l row col) (rows.toNat * cols.toNat) (i * cols.toNat + (k + 1))) := by rw [← Nat.add_assoc, ← e]; exact ou
 replace op1 := op1.off off30 ap1Xu
 replace op5 := op5.off off30 ap5Xu
 replace oq := oq.off off30 auXq.symm
 replace lE := off30.le lE nu
 exact nxt (cols.toNat - (k + 1)) (by omega) ⟨k + 1, rfl, by omega, g1L27, g2L27, g3L27, g4L27, g5L27, g10L27, g12L27, g13L27, (congrArg (Value.int .i64) (by first | omega | rfl | (simp; done))), op1, op5, ou, oq, lE⟩
 have tk := hg28
 rw [show i * cols.toNat + k = (i + 1) * cols.toNat by rw [Nat.add_mul, Nat.one_mul]; omega] at ou
 exact hJ26 _ _ ⟨g1L27, g2L27, g3L27, g4L27, g5L27, g10L27, g12L27, g13L27, op1, op5, ou, oq, lE⟩
 have ti := hg25
 rw [fillL_end (by rw [show i = rows.toNat by omega]; exact Nat.le_refl _)] at ou
 exact hJ21 _ _ ⟨g10L24, g12L24, op1, op5, ou, oq, lE⟩
 exact absurd hc12 (by omega)
 exact absurd hc9 (fun h => h h9)

theorem C.c74 {st : Int}  {H : Hp} {K : Value → Hp → Prop} (hvb0 : Sl eI H vb b) (hvs0 : Sl eI H vs s) (hvc0 : Sl eI H vc l) (kb : b.length ≤ 9223372036854775807) (ks : s.length ≤ 9223372036854775807) (k1 : l.length ≤ 9223372036854775807) (hP : runP b s r c l st)
    (hk : ∀ u1 H', Own eI H' u1 (rnL rnd b s r c l st.toNat) → Nw H u1 → Le H H' → K (.tuple #[(.agg #[(.int .i64 (r)), (.int .i64 (c)), u1]), (.bool true)]) H') : HT prg 30 [(.agg #[vb, vs]), (.agg #[(.int .i64 (r)), (.int .i64 (c)), vc]), (.bool (rnd)), (.int .i64 (st))].toArray H K :=
  C.c38 hvb0 hvs0 hvc0 kb ks k1 (fun u1 H' ou1 nu1  le => by rw [selL_t hP] at ou1; simp only [selI_t hP, decide_eq_true hP]; exact hk u1 H' ou1 nu1  le)
theorem C.c75  {H : Hp} {K : Value → Hp → Prop} (hvb0 : Sl eI H vb b) (hvs0 : Sl eI H vs s) (hvc0 : Sl eI H vc l) (kb : b.length ≤ 9223372036854775807) (ks : s.length ≤ 9223372036854775807) (k1 : l.length ≤ 9223372036854775807) (hP : inP b s r c l)
    (hk : ∀ u1 H', Own eI H' u1 (inL b s r c l) → Nw H u1 → Le H H' → K (.tuple #[(.agg #[(.int .i64 (r - 2)), (.int .i64 (c - 2)), u1]), (.bool true)]) H') : HT prg 32 [(.agg #[vb, vs]), (.agg #[(.int .i64 (r)), (.int .i64 (c)), vc])].toArray H K :=
  C.c42 hvb0 hvs0 hvc0 kb ks k1 (fun u1 H' ou1 nu1  le => by rw [selL_t hP] at ou1; simp only [selI_t hP, decide_eq_true hP]; exact hk u1 H' ou1 nu1  le)
theorem C.c76  {H : Hp} {K : Value → Hp → Prop} (hvb0 : Sl eI H vb b) (hvs0 : Sl eI H vs s) (hvc0 : Sl eI H vc l) (kb : b.length ≤ 9223372036854775807) (ks : s.length ≤ 9223372036854775807) (k1 : l.length ≤ 9223372036854775807) (hP : inP b s r c l)
    (hk : ∀ u1 H', Own eI H' u1 (farL b s r l) → Nw H u1 → Le H H' → K (.tuple #[(.agg #[(.int .i64 (r / 2)), (.int .i64 (c / 2)), u1]), (.bool true)]) H') : HT prg 29 [(.agg #[vb, vs]), (.agg #[(.int .i64 (r)), (.int .i64 (c)), vc])].toArray H K :=
  C.c43 hvb0 hvs0 hvc0 kb ks k1 (fun u1 H' ou1 nu1  le => by rw [selL_t hP] at ou1; simp only [selI_t hP, decide_eq_true hP]; exact hk u1 H' ou1 nu1  le)
theorem C.c77  {H : Hp} {K : Value → Hp → Prop} (hvc0 : Sl eI H vc l) (k1 : l.length ≤ 9223372036854775807) (hP : sqP r c l)
    (hk : ∀ u1 H', Own eI H' u1 (treL r c l) → Nw H u1 → Le H H' → K (.tuple #[u1, (.bool true)]) H') : HT prg 34 [(.agg #[(.int .i64 (r)), (.int .i64 (c)), vc])].toArray H K :=
  C.c56 hvc0 k1 (fun u1 H' ou1 nu1  le => by rw [selL_t hP] at ou1; simp only [selI_t hP, decide_eq_true hP]; exact hk u1 H' ou1 nu1  le)
theorem C.c78  {H : Hp} {K : Value → Hp → Prop} (hvc0 : Sl eI H vc l) (k1 : l.length ≤ 9223372036854775807) (hP : sqP r c l)
    (hk : ∀ u1 H', Own eI H' u1 (treL r c l) → Nw H u1 → Le H H' → K (.tuple #[u1, (.bool true)]) H') : HT prg 35 [(.agg #[(.int .i64 (r)), (.int .i64 (c)), vc])].toArray H K :=
  C.c51 hvc0 k1 (fun u1 H' ou1 nu1  le => by rw [selL_t hP] at ou1; simp only [selI_t hP, decide_eq_true hP]; exact hk u1 H' ou1 nu1  le)
theorem C.c79  {H : Hp} {K : Value → Hp → Prop} (hvc0 : Sl eI H vc l) (k1 : l.length ≤ 9223372036854775807) (hP : sqP r c l)
    (hk : ∀ u1 H', Own eI H' u1 (kndL r c l) → Nw H u1 → Le H H' → K (.tuple #[u1, (.bool true)]) H') : HT prg 36 [(.agg #[(.int .i64 (r)), (.int .i64 (c)), vc])].toArray H K :=
  C.c45 hvc0 k1 (fun u1 H' ou1 nu1  le => by rw [selL_t hP] at ou1; simp only [selI_t hP, decide_eq_true hP]; exact hk u1 H' ou1 nu1  le)
theorem C.c80 {vt : Value} {t : List Int}  {H : Hp} {K : Value → Hp → Prop} (hvt0 : Sl eI H vt t) (k1 : t.length ≤ 9223372036854775807) (hP : tfP t)
    (hk : ∀ u1 H', Own eI H' u1 (clT t (topT t)) → Nw H u1 → Le H H' → K (.tuple #[(.agg #[(.int .i64 (szz (lvT t (topT t)))), (.int .i64 (szz (lvT t (topT t)))), u1]), (.bool true)]) H') : HT prg 37 [vt].toArray H K :=
  C.c60 hvt0 k1 (fun u1 H' ou1 nu1  le => by rw [selL_t hP] at ou1; simp only [selI_t hP, decide_eq_true hP]; exact hk u1 H' ou1 nu1  le)
set_option maxHeartbeats 4000000 in
theorem C.c81 {mm : List Int}  {H : Hp} {K : Value → Hp → Prop} (hvy0 : Sl eU H vy l) (hvm0 : Sl eU H vm mm) (hb_vy : bytP l) (hl_vy : l.length ≤ 9223372036854775807) (hb_vm : bytP mm) (hl_vm : mm.length ≤ 9223372036854775807)
    (hk : ∀ H', Le H H' → K (.bool true) H') : HT prg 6 [vy, vm].toArray H K := by
 have lE := Le.refl H
 refine R.q6 ?_
 unfold F.q6
 refine C.c69 (hvy0.le lE) (hvm0.le lE) (fun   H1    le2 => ?_)
 refine cnd_d (fun hg3 => ?_) (fun hg3 => ?_)
 replace lE := lE.trans le2
 exact hk   _    lE
 replace lE := lE.trans le2
 refine C.c66 (hvm0.le lE) (by first | omega | assumption) (by first | omega | assumption) (fun  lb lz hlb hlz u6 u7 H4 ou6 ou7 nn8 nn9 au6Xu7 le5 => ?_)
 refine nw_i (fun p10 H11 op10 nn12 le13 => ?_)
 have au6Xp10 := ou6.apart nn12
 have au7Xp10 := ou7.apart nn12
 replace lE := lE.trans le5
 have np10 := nn12.le lE
 replace ou6 := ou6.le le13
 replace ou7 := ou7.le le13
 refine op10.stn (ws := [u6, u7]) rfl rfl (oc1 ou6.one (oc1 ou7.one oc0)) (fun H14 op10 off15 => ?_)
 refine bS_i (enc := eI) (l := [4, 8, 16]) (by omega) rfl (by kernel_rfl) (fun u16 H17 ou16 nn18 le20 => ?_)
 replace lE := (off15.le (lE.trans le13) np10).trans le20
 refine C.c65 (k := 0) (n := 3) (hvm0.le lE) hb_vm hl_vm (by omega) (by omega) (fun x21 xp22 xq23 => ?_)
 replace xq23 := xq23 (by omega)
 refine ob_i (ou16.sl.ix (by omega) (by omega)) (ob_i (ou16.sl.ld 0 (by omega) (by omega)) ?_)
 obtain ⟨n, hn⟩ : ∃ x : Int, x = at_ 0 ([4, 8, 16]) (x21) := ⟨_, rfl⟩
 rw [← hn]
 have hn3 : n = 4 ∨ n = 8 ∨ n = 16 := by rw [hn]; exact tri3 (by omega) (by omega)
 refine C.c67 (hvy0.le lE) (by first | omega | assumption) (by first | omega | assumption) (by exact ⟨by omega, by omega⟩) (fun  lf hlf u26 H24 ou26 nn27  le25 => ?_)
 have l1 := fieldN_len hlf
 have hs := hlf.1
 have hl := hlf.2.1
 have qm := sidesF_mul hs
 have hsq : sqP n n lf := ⟨hlf, rfl, hn3⟩
 have hin : inP lb lz n n lf := ⟨hlz.1, hsq⟩
 have hcan : canP lb lz n n lf := ⟨hlz.1, hlf⟩
 have hrf := rnL_field (rnd := false) (b := lb) (s := lz) hlf (n / 4).toNat
 have lrf := fieldN_len hrf
 have hnf : fieldN 1 n n (nxL false lb lz n n lf) := nxL_field hs
 have lnf := fieldN_len hnf
 have hff := far_field (b := lb) (s := lz) (l := lf) hn3
 have lff := fieldN_len hff
 have efr := far_run (b := lb) (s := lz) hn3 hl
 have htb := tree_back hsq
 have tl := tre_len hsq
 have kl := knd_len (r := n) (c := n) (l := lf)
 have lg := lg_bnd n
 have hsk := sumK_tree hsq
 have hk1 := knd_last hsq
 have hk0 := knd_first hsq
 have lcl : (clT (treL n n lf) (topT (treL n n lf))).length ≤ 1000000 := by rw [htb.2.1]; omega
 have k0a := knd_at (r := n) (c := n) (l := lf) (e := 0) (by omega)
 have kea := knd_at (r := n) (c := n) (l := lf) (e := lgN n - 1) (by omega)
 have lin : ((inL lb lz n n lf).length : Int) = (n - 2) * (n - 2) := mkL_len' (by omega) (by omega)
 have lin2 : (n - 2) * (n - 2) ≤ 400 := by rcases hn3 with h | h | h <;> rw [h] <;> decide
 refine nw_i (fun p28 H29 op28 nn30 le31 => ?_)
 replace ou6 := ((ou6.off off15 au6Xp10).le le20).le le25
 have au6Xp28 := ou6.apart nn30
 replace ou7 := ((ou7.off off15 au7Xp10).le le20).le le25
 have au7Xp28 := ou7.apart nn30
 replace op10 := (op10.le le20).le le25
 have ap10Xp28 := op10.apart nn30
 replace ou16 := ou16.le le25
 have au16Xp28 := ou16.apart nn30
 have au26Xp28 := ou26.apart nn30
 replace lE := lE.trans le25
 have np28 := nn30.le lE
 replace ou26 := ou26.le le31
 refine op28.stn (ws := [(.int .i64 (n)), (.int .i64 (n)), u26]) rfl rfl (oc1 rfl (oc1 rfl (oc1 ou26.one oc0))) (fun H32 op28 off33 => ?_)
 replace op10 := (op10.le le31).off off33 ap10Xp28
 refine ob_i (op10.ldn rfl) (ob_i (op28.ldn rfl) ?_)
 replace ou6 := (ou6.le le31).off off33 au6Xp28
 replace ou7 := (ou7.le le31).off off33 au7Xp28
 replace ou26 := ou26.off off33 au26Xp28
 refine C.c76 ou6.sl ou7.sl ou26.sl (by first | omega | assumption) (by first | omega | assumption) (by first | omega | assumption) (by first | exact hin | exact hsq | exact hcan | exact htb.1 | exact ⟨hcan, by omega, by omega⟩) (fun  u36 H34 ou36 nn37  le35 => ?_)
 refine ob_i (vExt_20 _ _) (ob_i (vExt_21 _ _) (nw_i (fun p38 H39 op38 nn40 le41 => ?_)))
 replace ou6 := ou6.le le35
 have au6Xp38 := ou6.apart nn40
 replace ou7 := ou7.le le35
 have au7Xp38 := ou7.apart nn40
 replace op10 := op10.le le35
 have ap10Xp38 := op10.apart nn40
 replace ou16 := ((ou16.le le31).off off33 au16Xp28).le le35
 have au16Xp38 := ou16.apart nn40
 replace ou26 := ou26.le le35
 have au26Xp38 := ou26.apart nn40
 replace op28 := op28.le le35
 have ap28Xp38 := op28.apart nn40
 have au36Xp38 := ou36.apart nn40
 replace lE := (off33.le (lE.trans le31) np28).trans le35
 have np38 := nn40.le lE
 replace ou36 := ou36.le le41
 refine op38.stn (ws := [(.int .i64 (n / 2)), (.int .i64 (n / 2)), u36]) rfl rfl (oc1 rfl (oc1 rfl (oc1 ou36.one oc0))) (fun H42 op38 off43 => ?_)
 replace op10 := (op10.le le41).off off43 ap10Xp38
 refine ob_i (op10.ldn rfl) ?_
 replace op28 := (op28.le le41).off off43 ap28Xp38
 refine ob_i (op28.ldn rfl) (ob_i (vInt_quoN (by omega) (by omega) (by omega)) ?_)
 replace ou6 := (ou6.le le41).off off43 au6Xp38
 replace ou7 := (ou7.le le41).off off43 au7Xp38
 replace ou26 := (ou26.le le41).off off43 au26Xp38
 refine C.c74 ou6.sl ou7.sl ou26.sl (by first | omega | assumption) (by first | omega | assumption) (by first | omega | assumption) (by first | exact hin | exact hsq | exact hcan | exact htb.1 | exact ⟨hcan, by omega, by omega⟩) (fun  u46 H44 ou46 nn47  le45 => ?_)
 refine ob_i (vExt_20 _ _) (ob_i (vExt_21 _ _) (nw_i (fun p48 H49 op48 nn50 le51 => ?_)))
 replace ou6 := ou6.le le45
 have au6Xp48 := ou6.apart nn50
 replace ou7 := ou7.le le45
 have au7Xp48 := ou7.apart nn50
 replace op10 := op10.le le45
 have ap10Xp48 := op10.apart nn50
 replace ou16 := ((ou16.le le41).off off43 au16Xp38).le le45
 have au16Xp48 := ou16.apart nn50
 replace ou26 := ou26.le le45
 have au26Xp48 := ou26.apart nn50
 replace op28 := op28.le le45
 have ap28Xp48 := op28.apart nn50
 replace ou36 := (ou36.off off43 au36Xp38).le le45
 have au36Xp48 := ou36.apart nn50
 replace op38 := op38.le le45
 have ap38Xp48 := op38.apart nn50
 have au46Xp48 := ou46.apart nn50
 replace lE := (off43.le (lE.trans le41) np38).trans le45
 have np48 := nn50.le lE
 replace ou46 := ou46.le le51
 refine op48.stn (ws := [(.int .i64 (n)), (.int .i64 (n)), u46]) rfl rfl (oc1 rfl (oc1 rfl (oc1 ou46.one oc0))) (fun H52 op48 off53 => ?_)
 refine ob_i (op48.ldn rfl) (ob_i (vInt_quoN (by omega) (by omega) (by omega)) (ob_i (vInt_quoN (by omega) (by omega) (by omega)) (ob_i (vInt_quoN (by omega) (by omega) (by omega)) (ob_i (vInt_quoN (by omega) (by omega) (by omega)) ?_))))
 replace ou46 := ou46.off off53 au46Xp48
 refine C.c73 ou46.sl (by first | omega | assumption) (by first | exact hrf | exact hnf) (by first | omega | assumption) (by first | omega | assumption) (by first | omega | assumption) (by first | omega | assumption) (by first | omega | assumption) (by first | omega | assumption) (fun  u56 H54 ou56 nn57  le55 => ?_)
 refine ob_i (vExt_20 _ _) (ob_i (vExt_21 _ _) (nw_i (fun p58 H59 op58 nn60 le61 => ?_)))
 replace ou6 := ((ou6.le le51).off off53 au6Xp48).le le55
 have au6Xp58 := ou6.apart nn60
 replace ou7 := ((ou7.le le51).off off53 au7Xp48).le le55
 have au7Xp58 := ou7.apart nn60
 replace op10 := ((op10.le le51).off off53 ap10Xp48).le le55
 have ap10Xp58 := op10.apart nn60
 replace ou16 := ((ou16.le le51).off off53 au16Xp48).le le55
 have au16Xp58 := ou16.apart nn60
 replace ou26 := ((ou26.le le51).off off53 au26Xp48).le le55
 have au26Xp58 := ou26.apart nn60
 replace op28 := ((op28.le le51).off off53 ap28Xp48).le le55
 have ap28Xp58 := op28.apart nn60
 replace ou36 := ((ou36.le le51).off off53 au36Xp48).le le55
 have au36Xp58 := ou36.apart nn60
 replace op38 := ((op38.le le51).off off53 ap38Xp48).le le55
 have ap38Xp58 := op38.apart nn60
 replace ou46 := ou46.le le55
 have au46Xp58 := ou46.apart nn60
 replace op48 := op48.le le55
 have ap48Xp58 := op48.apart nn60
 have au56Xp58 := ou56.apart nn60
 replace lE := (off53.le (lE.trans le51) np48).trans le55
 have np58 := nn60.le lE
 replace ou56 := ou56.le le61
 refine op58.stn (ws := [(.int .i64 ((n / 2))), (.int .i64 ((n / 2))), u56]) rfl rfl (oc1 rfl (oc1 rfl (oc1 ou56.one oc0))) (fun H62 op58 off63 => ?_)
 replace op10 := (op10.le le61).off off63 ap10Xp58
 refine ob_i (op10.ldn rfl) ?_
 replace op28 := (op28.le le61).off off63 ap28Xp58
 refine ob_i (op28.ldn rfl) ?_
 replace ou6 := (ou6.le le61).off off63 au6Xp58
 replace ou7 := (ou7.le le61).off off63 au7Xp58
 replace ou26 := (ou26.le le61).off off63 au26Xp58
 refine C.c75 ou6.sl ou7.sl ou26.sl (by first | omega | assumption) (by first | omega | assumption) (by first | omega | assumption) (by first | exact hin | exact hsq | exact hcan | exact htb.1 | exact ⟨hcan, by omega, by omega⟩) (fun  u66 H64 ou66 nn67  le65 => ?_)
 refine ob_i (vExt_20 _ _) (ob_i (vExt_21 _ _) (nw_i (fun p68 H69 op68 nn70 le71 => ?_)))
 replace ou6 := ou6.le le65
 have au6Xp68 := ou6.apart nn70
 replace ou7 := ou7.le le65
 have au7Xp68 := ou7.apart nn70
 replace op10 := op10.le le65
 have ap10Xp68 := op10.apart nn70
 replace ou16 := ((ou16.le le61).off off63 au16Xp58).le le65
 have au16Xp68 := ou16.apart nn70
 replace ou26 := ou26.le le65
 have au26Xp68 := ou26.apart nn70
 replace op28 := op28.le le65
 have ap28Xp68 := op28.apart nn70
 replace ou36 := ((ou36.le le61).off off63 au36Xp58).le le65
 have au36Xp68 := ou36.apart nn70
 replace op38 := ((op38.le le61).off off63 ap38Xp58).le le65
 have ap38Xp68 := op38.apart nn70
 replace ou46 := ((ou46.le le61).off off63 au46Xp58).le le65
 have au46Xp68 := ou46.apart nn70
 replace op48 := ((op48.le le61).off off63 ap48Xp58).le le65
 have ap48Xp68 := op48.apart nn70
 replace ou56 := (ou56.off off63 au56Xp58).le le65
 have au56Xp68 := ou56.apart nn70
 replace op58 := op58.le le65
 have ap58Xp68 := op58.apart nn70
 have au66Xp68 := ou66.apart nn70
 replace lE := (off63.le (lE.trans le61) np58).trans le65
 have np68 := nn70.le lE
 replace ou66 := ou66.le le71
 refine op68.stn (ws := [(.int .i64 (n - 2)), (.int .i64 (n - 2)), u66]) rfl rfl (oc1 rfl (oc1 rfl (oc1 ou66.one oc0))) (fun H72 op68 off73 => ?_)
 replace op10 := (op10.le le71).off off73 ap10Xp68
 refine ob_i (op10.ldn rfl) ?_
 replace op28 := (op28.le le71).off off73 ap28Xp68
 refine ob_i (op28.ldn rfl) ?_
 replace ou6 := (ou6.le le71).off off73 au6Xp68
 replace ou7 := (ou7.le le71).off off73 au7Xp68
 replace ou26 := (ou26.le le71).off off73 au26Xp68
 refine C.c70 ou6.sl ou7.sl ou26.sl (by first | omega | assumption) (by first | omega | assumption) (by first | omega | assumption) (by first | exact hin | exact hsq | exact hcan | exact htb.1 | exact ⟨hcan, by omega, by omega⟩) (fun  u76 H74 ou76 nn77  le75 => ?_)
 refine ob_i (vExt_20 _ _) (ob_i (vExt_21 _ _) (nw_i (fun p78 H79 op78 nn80 le81 => ?_)))
 replace ou6 := ou6.le le75
 have au6Xp78 := ou6.apart nn80
 replace ou7 := ou7.le le75
 have au7Xp78 := ou7.apart nn80
 replace op10 := op10.le le75
 have ap10Xp78 := op10.apart nn80
 replace ou16 := ((ou16.le le71).off off73 au16Xp68).le le75
 have au16Xp78 := ou16.apart nn80
 replace ou26 := ou26.le le75
 have au26Xp78 := ou26.apart nn80
 replace op28 := op28.le le75
 have ap28Xp78 := op28.apart nn80
 replace ou36 := ((ou36.le le71).off off73 au36Xp68).le le75
 have au36Xp78 := ou36.apart nn80
 replace op38 := ((op38.le le71).off off73 ap38Xp68).le le75
 have ap38Xp78 := op38.apart nn80
 replace ou46 := ((ou46.le le71).off off73 au46Xp68).le le75
 have au46Xp78 := ou46.apart nn80
 replace op48 := ((op48.le le71).off off73 ap48Xp68).le le75
 have ap48Xp78 := op48.apart nn80
 replace ou56 := ((ou56.le le71).off off73 au56Xp68).le le75
 have au56Xp78 := ou56.apart nn80
 replace op58 := ((op58.le le71).off off73 ap58Xp68).le le75
 have ap58Xp78 := op58.apart nn80
 replace ou66 := (ou66.off off73 au66Xp68).le le75
 have au66Xp78 := ou66.apart nn80
 replace op68 := op68.le le75
 have ap68Xp78 := op68.apart nn80
 have au76Xp78 := ou76.apart nn80
 replace lE := (off73.le (lE.trans le71) np68).trans le75
 have np78 := nn80.le lE
 replace ou76 := ou76.le le81
 refine op78.stn (ws := [(.int .i64 (n)), (.int .i64 (n)), u76]) rfl rfl (oc1 rfl (oc1 rfl (oc1 ou76.one oc0))) (fun H82 op78 off83 => ?_)
 refine ob_i (op78.ldn rfl) (ob_i (vInt_sub (by omega) (by omega)) (ob_i (vInt_sub (by omega) (by omega)) ?_))
 replace ou76 := ou76.off off83 au76Xp78
 refine C.c73 ou76.sl (by first | omega | assumption) (by first | exact hrf | exact hnf) (by first | omega | assumption) (by first | omega | assumption) (by first | omega | assumption) (by first | omega | assumption) (by first | omega | assumption) (by first | omega | assumption) (fun  u86 H84 ou86 nn87  le85 => ?_)
 refine ob_i (vExt_20 _ _) (ob_i (vExt_21 _ _) (nw_i (fun p88 H89 op88 nn90 le91 => ?_)))
 replace ou6 := ((ou6.le le81).off off83 au6Xp78).le le85
 have au6Xp88 := ou6.apart nn90
 replace ou7 := ((ou7.le le81).off off83 au7Xp78).le le85
 have au7Xp88 := ou7.apart nn90
 replace op10 := ((op10.le le81).off off83 ap10Xp78).le le85
 have ap10Xp88 := op10.apart nn90
 replace ou16 := ((ou16.le le81).off off83 au16Xp78).le le85
 have au16Xp88 := ou16.apart nn90
 replace ou26 := ((ou26.le le81).off off83 au26Xp78).le le85
 have au26Xp88 := ou26.apart nn90
 replace op28 := ((op28.le le81).off off83 ap28Xp78).le le85
 have ap28Xp88 := op28.apart nn90
 replace ou36 := ((ou36.le le81).off off83 au36Xp78).le le85
 have au36Xp88 := ou36.apart nn90
 replace op38 := ((op38.le le81).off off83 ap38Xp78).le le85
 have ap38Xp88 := op38.apart nn90
 replace ou46 := ((ou46.le le81).off off83 au46Xp78).le le85
 have au46Xp88 := ou46.apart nn90
 replace op48 := ((op48.le le81).off off83 ap48Xp78).le le85
 have ap48Xp88 := op48.apart nn90
 replace ou56 := ((ou56.le le81).off off83 au56Xp78).le le85
 have au56Xp88 := ou56.apart nn90
 replace op58 := ((op58.le le81).off off83 ap58Xp78).le le85
 have ap58Xp88 := op58.apart nn90
 replace ou66 := ((ou66.le le81).off off83 au66Xp78).le le85
 have au66Xp88 := ou66.apart nn90
 replace op68 := ((op68.le le81).off off83 ap68Xp78).le le85
 have ap68Xp88 := op68.apart nn90
 replace ou76 := ou76.le le85
 have au76Xp88 := ou76.apart nn90
 replace op78 := op78.le le85
 have ap78Xp88 := op78.apart nn90
 have au86Xp88 := ou86.apart nn90
 replace lE := (off83.le (lE.trans le81) np78).trans le85
 have np88 := nn90.le lE
 replace ou86 := ou86.le le91
 refine op88.stn (ws := [(.int .i64 ((n - 2))), (.int .i64 ((n - 2))), u86]) rfl rfl (oc1 rfl (oc1 rfl (oc1 ou86.one oc0))) (fun H92 op88 off93 => ?_)
 refine ob_i (a := .bool false) rfl ?_
 refine gop_rf (gop_rf (ob_i (a := .bool false) rfl ?_))
 refine ob_i (vPick_f _ _) (gop_rf (gop_rf (ob_i (a := .bool false) rfl ?_)))
 refine ob_i (vPick_f _ _) (gop_rf (gop_rf (ob_i (a := .bool false) rfl ?_)))
 refine ob_i (vPick_f _ _) (gop_rf (gop_rf (ob_i (a := .bool false) rfl ?_)))
 refine ob_i (vPick_f _ _) (gop_rf (gop_rf (ob_i (a := .bool false) rfl ?_)))
 refine ob_i (vPick_f _ _) (gop_rf ?_)
 replace op38 := (op38.le le91).off off93 ap38Xp88
 refine ob_i (op38.fa 0) (gop_rf (ob_i (op38.ld 0 rfl) (gop_rf (gop_rf (ob_i (vInt_quoN (by omega) (by omega) (by omega)) (gop_rf (ob_i (vInt_neq _ _ _) (ob_i (vPick_f _ _) ?_))))))))
 by_cases hc94 : (n / 2) ≠ (n / 2)
 refine hQT hc94 (hQT hc94 (hQT hc94 (hQT hc94 (hQT hc94 (hQT hc94 (ob_i (vPick_et (decide_eq_true hc94) _ _) (gop_st (gop_st (gop_st ?_)))))))))
 refine gop_st (gop_st (ob_i (vPick_t _ _) (gop_st (gop_st (gop_st (gop_st (gop_st (gop_st (ob_i (vPick_t _ _) ?_)))))))))
 refine cnd_t1 ?_
 exfalso
 first | omega | exact absurd efr hc94 | exact absurd rfl hc94 | exact absurd htb.2.1 hc94 | exact absurd htb.2.2 hc94 | exact hc94 htb.2.2 | (rw [show ((kndL n n lf).length : Int) - 1 = ((lgN n - 1 : Nat) : Int) by omega, kea] at hc94; omega) | (simp only [Int.natCast_zero] at k0a; omega)
 refine gQF hc94 (ob_i (op38.fa 2) (gQF hc94 (ob_i (op38.ld 2 rfl) (gQF hc94 ?_))))
 replace op58 := (op58.le le91).off off93 ap58Xp88
 refine ob_i (op58.fa 2) (gQF hc94 (ob_i (op58.ld 2 rfl) (gQF hc94 ?_)))
 replace ou36 := (ou36.le le91).off off93 au36Xp88
 replace ou56 := (ou56.le le91).off off93 au56Xp88
 refine C.c68 ou36.sl ou56.sl (by first | omega | assumption) (fun   H95    le96 => ?_)
 refine gQF hc94 (ob_nd (fun hc97 => ?_) (fun hc97 => ?_))
 refine ob_i (vPick_ef (decide_eq_false hc94) _ _) (gop_rf ?_)
 replace op68 := ((op68.le le91).off off93 ap68Xp88).le le96
 refine ob_i (op68.fa 0) (gop_rf (ob_i (op68.ld 0 rfl) (gop_rf (gop_rf (ob_i (vInt_sub (by omega) (by omega)) (gop_rf (ob_i (vInt_neq _ _ _) (ob_i (vPick_f _ _) ?_))))))))
 by_cases hc98 : (n - 2) ≠ (n - 2)
 refine hQT hc98 (hQT hc98 (hQT hc98 (hQT hc98 (hQT hc98 (hQT hc98 (ob_i (vPick_et (decide_eq_true hc98) _ _) (cnd_t1 ?_)))))))
 exfalso
 first | omega | exact absurd efr hc98 | exact absurd rfl hc98 | exact absurd htb.2.1 hc98 | exact absurd htb.2.2 hc98 | exact hc98 htb.2.2 | (rw [show ((kndL n n lf).length : Int) - 1 = ((lgN n - 1 : Nat) : Int) by omega, kea] at hc98; omega) | (simp only [Int.natCast_zero] at k0a; omega)
 refine gQF hc98 (ob_i (op68.fa 2) (gQF hc98 (ob_i (op68.ld 2 rfl) (gQF hc98 ?_))))
 replace op88 := op88.le le96
 refine ob_i (op88.fa 2) (gQF hc98 (ob_i (op88.ld 2 rfl) (gQF hc98 ?_)))
 replace ou66 := ((ou66.le le91).off off93 au66Xp88).le le96
 replace ou86 := (ou86.off off93 au86Xp88).le le96
 refine C.c68 ou66.sl ou86.sl (by first | omega | assumption) (fun   H99    le100 => ?_)
 refine gQF hc98 (ob_nd (fun hc101 => ?_) (fun hc101 => ?_))
 refine ob_i (vPick_ef (decide_eq_false hc98) _ _) (cnd_f1 ?_)
 replace op28 := (((op28.le le91).off off93 ap28Xp88).le le96).le le100
 refine ob_i (op28.ldn rfl) ?_
 replace ou26 := (((ou26.le le91).off off93 au26Xp88).le le96).le le100
 refine C.c77 ou26.sl (by first | omega | assumption) (by first | exact hin | exact hsq | exact hcan | exact htb.1 | exact ⟨hcan, by omega, by omega⟩) (fun  u104 H102 ou104 nn105  le103 => ?_)
 refine ob_i (vExt_20 _ _) (ob_i (vExt_21 _ _) ?_)
 replace op28 := op28.le le103
 refine ob_i (op28.ldn rfl) ?_
 replace ou26 := ou26.le le103
 refine C.c78 ou26.sl (by first | omega | assumption) (by first | exact hin | exact hsq | exact hcan | exact htb.1 | exact ⟨hcan, by omega, by omega⟩) (fun  u108 H106 ou108 nn109  le107 => ?_)
 refine ob_i (vExt_20 _ _) (ob_i (vExt_21 _ _) ?_)
 replace op28 := op28.le le107
 refine ob_i (op28.ldn rfl) ?_
 replace ou26 := ou26.le le107
 refine C.c79 ou26.sl (by first | omega | assumption) (by first | exact hin | exact hsq | exact hcan | exact htb.1 | exact ⟨hcan, by omega, by omega⟩) (fun  u112 H110 ou112 nn113  le111 => ?_)
 refine ob_i (vExt_20 _ _) (ob_i (vExt_21 _ _) ?_)
 replace ou104 := (ou104.le le107).le le111
 refine C.c80 ou104.sl (by first | omega | assumption) (by first | exact hin | exact hsq | exact hcan | exact htb.1 | exact ⟨hcan, by omega, by omega⟩) (fun  u116 H114 ou116 nn117  le115 => ?_)
 refine ob_i (vExt_20 _ _) (ob_i (vExt_21 _ _) (nw_i (fun p118 H119 op118 nn120 le121 => ?_)))
 replace ou6 := (((((((ou6.le le91).off off93 au6Xp88).le le96).le le100).le le103).le le107).le le111).le le115
 have au6Xp118 := ou6.apart nn120
 replace ou7 := (((((((ou7.le le91).off off93 au7Xp88).le le96).le le100).le le103).le le107).le le111).le le115
 have au7Xp118 := ou7.apart nn120
 replace op10 := (((((((op10.le le91).off off93 ap10Xp88).le le96).le le100).le le103).le le107).le le111).le le115
 have ap10Xp118 := op10.apart nn120
 replace ou16 := (((((((ou16.le le91).off off93 au16Xp88).le le96).le le100).le le103).le le107).le le111).le le115
 have au16Xp118 := ou16.apart nn120
 replace ou26 := (ou26.le le111).le le115
 have au26Xp118 := ou26.apart nn120
 replace op28 := (op28.le le111).le le115
 have ap28Xp118 := op28.apart nn120
 replace ou36 := (((((ou36.le le96).le le100).le le103).le le107).le le111).le le115
 have au36Xp118 := ou36.apart nn120
 replace op38 := (((((op38.le le96).le le100).le le103).le le107).le le111).le le115
 have ap38Xp118 := op38.apart nn120
 replace ou46 := (((((((ou46.le le91).off off93 au46Xp88).le le96).le le100).le le103).le le107).le le111).le le115
 have au46Xp118 := ou46.apart nn120
 replace op48 := (((((((op48.le le91).off off93 ap48Xp88).le le96).le le100).le le103).le le107).le le111).le le115
 have ap48Xp118 := op48.apart nn120
 replace ou56 := (((((ou56.le le96).le le100).le le103).le le107).le le111).le le115
 have au56Xp118 := ou56.apart nn120
 replace op58 := (((((op58.le le96).le le100).le le103).le le107).le le111).le le115
 have ap58Xp118 := op58.apart nn120
 replace ou66 := ((((ou66.le le100).le le103).le le107).le le111).le le115
 have au66Xp118 := ou66.apart nn120
 replace op68 := ((((op68.le le100).le le103).le le107).le le111).le le115
 have ap68Xp118 := op68.apart nn120
 replace ou76 := (((((((ou76.le le91).off off93 au76Xp88).le le96).le le100).le le103).le le107).le le111).le le115
 have au76Xp118 := ou76.apart nn120
 replace op78 := (((((((op78.le le91).off off93 ap78Xp88).le le96).le le100).le le103).le le107).le le111).le le115
 have ap78Xp118 := op78.apart nn120
 replace ou86 := ((((ou86.le le100).le le103).le le107).le le111).le le115
 have au86Xp118 := ou86.apart nn120
 replace op88 := ((((op88.le le100).le le103).le le107).le le111).le le115
 have ap88Xp118 := op88.apart nn120
 replace ou104 := ou104.le le115
 have au104Xp118 := ou104.apart nn120
 replace ou108 := (ou108.le le111).le le115
 have au108Xp118 := ou108.apart nn120
 replace ou112 := ou112.le le115
 have au112Xp118 := ou112.apart nn120
 have au116Xp118 := ou116.apart nn120
 replace lE := ((((((off93.le (lE.trans le91) np88).trans le96).trans le100).trans le103).trans le107).trans le111).trans le115
 have np118 := nn120.le lE
 replace ou116 := ou116.le le121
 refine op118.stn (ws := [(.int .i64 (szz (lvT (treL n n lf) (topT (treL n n lf))))), (.int .i64 (szz (lvT (treL n n lf) (topT (treL n n lf))))), u116]) rfl rfl (oc1 rfl (oc1 rfl (oc1 ou116.one oc0))) (fun H122 op118 off123 => ?_)
 refine ob_i (a := .bool false) rfl ?_
 refine gop_rf (gop_rf (ob_i (a := .bool false) rfl ?_))
 refine ob_i (vPick_f _ _) (gop_rf (gop_rf (ob_i (a := .bool false) rfl ?_)))
 refine ob_i (vPick_f _ _) (gop_rf (gop_rf (ob_i (a := .bool false) rfl ?_)))
 refine ob_i (vPick_f _ _) (gop_rf (gop_rf (gop_rf ?_)))
 replace ou104 := (ou104.le le121).off off123 au104Xp118
 replace ou108 := (ou108.le le121).off off123 au108Xp118
 refine C.c68 ou104.sl ou108.sl (by first | omega | assumption) (fun   H124    le125 => ?_)
 refine gop_rf (ob_nd (fun hc126 => ?_) (fun hc126 => ?_))
 refine ob_i (vPick_f _ _) (gop_rf ?_)
 replace op118 := op118.le le125
 refine ob_i (op118.fa 0) (gop_rf (ob_i (op118.ld 0 rfl) (gop_rf (gop_rf (ob_i (vInt_neq _ _ _) (ob_i (vPick_f _ _) ?_))))))
 by_cases hc127 : (szz (lvT (treL n n lf) (topT (treL n n lf)))) ≠ n
 refine hQT hc127 (hQT hc127 (hQT hc127 (hQT hc127 (hQT hc127 (hQT hc127 (ob_i (vPick_et (decide_eq_true hc127) _ _) (gop_st (gop_st (gop_st ?_)))))))))
 refine ob_i (vPick_t _ _) (gop_st (gop_st (gop_st (gop_st (gop_st (gop_st (gop_st (ob_i (vPick_t _ _) (cnd_t1 ?_)))))))))
 exfalso
 first | omega | exact absurd efr hc127 | exact absurd rfl hc127 | exact absurd htb.2.1 hc127 | exact absurd htb.2.2 hc127 | exact hc127 htb.2.2 | (rw [show ((kndL n n lf).length : Int) - 1 = ((lgN n - 1 : Nat) : Int) by omega, kea] at hc127; omega) | (simp only [Int.natCast_zero] at k0a; omega)
 refine gQF hc127 (ob_i (op118.fa 2) (gQF hc127 (ob_i (op118.ld 2 rfl) (gQF hc127 ?_))))
 replace op28 := ((op28.le le121).off off123 ap28Xp118).le le125
 refine ob_i (op28.fa 2) (gQF hc127 (ob_i (op28.ld 2 rfl) (gQF hc127 ?_)))
 replace ou26 := ((ou26.le le121).off off123 au26Xp118).le le125
 replace ou116 := (ou116.off off123 au116Xp118).le le125
 refine C.c68 ou116.sl ou26.sl (by first | omega | assumption) (fun   H128    le129 => ?_)
 refine gQF hc127 (ob_nd (fun hc130 => ?_) (fun hc130 => ?_))
 refine ob_i (vPick_ef (decide_eq_false hc127) _ _) (gop_rf (gop_rf ?_))
 replace ou112 := (((ou112.le le121).off off123 au112Xp118).le le125).le le129
 refine ob_i (ou112.len) (gop_rf (ob_i (vInt_lss _ _ _) (ob_i (vPick_f _ _) ?_)))
 by_cases hc131 : (((kndL n n lf).length : Int)) < 3
 refine hQT hc131 (hQT hc131 (hQT hc131 (hQT hc131 (hQT hc131 (hQT hc131 (hQT hc131 (ob_i (vPick_et (decide_eq_true hc131) _ _) (cnd_t1 ?_))))))))
 exfalso
 first | omega | exact absurd efr hc131 | exact absurd rfl hc131 | exact absurd htb.2.1 hc131 | exact absurd htb.2.2 hc131 | exact hc131 htb.2.2 | (rw [show ((kndL n n lf).length : Int) - 1 = ((lgN n - 1 : Nat) : Int) by omega, kea] at hc131; omega) | (simp only [Int.natCast_zero] at k0a; omega)
 refine gQF hc131 (gQF hc131 (gQF hc131 (ob_i (ou112.len) (gQF hc131 (ob_i (vInt_sub (by omega) (by omega)) (gQF hc131 (ob_i (ou112.sl.ix (by omega) (by omega)) (gQF hc131 (ob_i (ou112.sl.ld 0 (by omega) (by omega)) ?_)))))))))
 refine gQF hc131 (ob_i (vInt_neq _ _ _) (ob_i (vPick_ef (decide_eq_false hc131) _ _) (cnd_d (fun hg132 => ?_) (fun hg132 => ?_))))
 exfalso
 first | omega | exact absurd efr hg132 | exact absurd rfl hg132 | exact absurd htb.2.1 hg132 | exact absurd htb.2.2 hg132 | exact hg132 htb.2.2 | (rw [show ((kndL n n lf).length : Int) - 1 = ((lgN n - 1 : Nat) : Int) by omega, kea] at hg132; omega) | (simp only [Int.natCast_zero] at k0a; omega)
 refine jn_i (fun σ' H' => σ' 21 = u104 ∧ σ' 25 = u112 ∧ σ' 29 = (.int .i64 ((sumK n n lf (lgN n - 1) : Int))) ∧ Own eI H' u6 (lb) ∧ Own eI H' u7 (lz) ∧ Cel H' p10 [u6, u7] ∧ Own eI H' u16 ([4, 8, 16]) ∧ Own eI H' u26 (lf) ∧ Cel H' p28 [(.int .i64 (n)), (.int .i64 (n)), u26] ∧ Own eI H' u36 (farL lb lz n lf) ∧ Cel H' p38 [(.int .i64 (n / 2)), (.int .i64 (n / 2)), u36] ∧ Own eI H' u46 (rnL false lb lz n n lf (n / 4).toNat) ∧ Cel H' p48 [(.int .i64 (n)), (.int .i64 (n)), u46] ∧ Own eI H' u56 (mkL (n / 2) (cutG n (rnL false lb lz n n lf (n / 4).toNat) (n / 4) (n / 4)) (((n / 2) : Int).toNat * ((n / 2) : Int).toNat)) ∧ Cel H' p58 [(.int .i64 ((n / 2))), (.int .i64 ((n / 2))), u56] ∧ Own eI H' u66 (inL lb lz n n lf) ∧ Cel H' p68 [(.int .i64 (n - 2)), (.int .i64 (n - 2)), u66] ∧ Own eI H' u76 (nxL false lb lz n n lf) ∧ Cel H' p78 [(.int .i64 (n)), (.int .i64 (n)), u76] ∧ Own eI H' u86 (mkL (n - 2) (cutG n (nxL false lb lz n n lf) 1 1) (((n - 2) : Int).toNat * ((n - 2) : Int).toNat)) ∧ Cel H' p88 [(.int .i64 ((n - 2))), (.int .i64 ((n - 2))), u86] ∧ Own eI H' u104 (treL n n lf) ∧ Own eI H' u108 (treL n n lf) ∧ Own eI H' u112 (kndL n n lf) ∧ Own eI H' u116 (clT (treL n n lf) (topT (treL n n lf))) ∧ Cel H' p118 [(.int .i64 (szz (lvT (treL n n lf) (topT (treL n n lf))))), (.int .i64 (szz (lvT (treL n n lf) (topT (treL n n lf))))), u116] ∧ Le H H') (fun σ133 H133 hP => ?_) (fun J133 hJ133 => ?_)
 replace ou6 := (((ou6.le le121).off off123 au6Xp118).le le125).le le129
 replace ou7 := (((ou7.le le121).off off123 au7Xp118).le le125).le le129
 replace op10 := (((op10.le le121).off off123 ap10Xp118).le le125).le le129
 replace ou16 := (((ou16.le le121).off off123 au16Xp118).le le125).le le129
 replace ou36 := (((ou36.le le121).off off123 au36Xp118).le le125).le le129
 replace op38 := (((op38.le le121).off off123 ap38Xp118).le le125).le le129
 replace ou46 := (((ou46.le le121).off off123 au46Xp118).le le125).le le129
 replace op48 := (((op48.le le121).off off123 ap48Xp118).le le125).le le129
 replace ou56 := (((ou56.le le121).off off123 au56Xp118).le le125).le le129
 replace op58 := (((op58.le le121).off off123 ap58Xp118).le le125).le le129
 replace ou66 := (((ou66.le le121).off off123 au66Xp118).le le125).le le129
 replace op68 := (((op68.le le121).off off123 ap68Xp118).le le125).le le129
 replace ou76 := (((ou76.le le121).off off123 au76Xp118).le le125).le le129
 replace op78 := (((op78.le le121).off off123 ap78Xp118).le le125).le le129
 replace ou86 := (((ou86.le le121).off off123 au86Xp118).le le125).le le129
 replace op88 := (((op88.le le121).off off123 ap88Xp118).le le125).le le129
 replace lE := ((off123.le (lE.trans le121) np118).trans le125).trans le129
 replace ou104 := (ou104.le le125).le le129
 replace ou108 := (ou108.le le125).le le129
 replace ou26 := ou26.le le129
 replace op28 := op28.le le129
 replace ou116 := ou116.le le129
 replace op118 := op118.le le129
 obtain ⟨g21L133, g25L133, g29L133, ou6, ou7, op10, ou16, ou26, op28, ou36, op38, ou46, op48, ou56, op58, ou66, op68, ou76, op78, ou86, op88, ou104, ou108, ou112, ou116, op118, lE⟩ := hP
 try simp only [g21L133, g25L133, g29L133]
 refine ob_i (vInt_mul (by omega) (by omega)) (ob_i (ou104.len) (ob_i (vInt_eql _ _ _) ?_))
 by_cases hc134 : (4 * ((sumK n n lf (lgN n - 1) : Int))) = (((treL n n lf).length : Int))
 refine gQT hc134 (gQT hc134 (ob_i (ou112.sl.ix (by omega) (by omega)) (gQT hc134 (ob_i (ou112.sl.ld 0 (by omega) (by omega)) (gQT hc134 (ob_i (vInt_geq _ _ _) (ob_i (vPick_et (decide_eq_true hc134) _ _) ?_)))))))
 by_cases hc135 : 1 ≤ (at_ 0 (kndL n n lf) (0))
 refine gQT hc135 (gQT hc135 (ob_i (ou112.sl.ix (by omega) (by omega)) (gQT hc135 (ob_i (ou112.sl.ld 0 (by omega) (by omega)) (gQT hc135 (ob_i (vInt_leq _ _ _) (ob_i (vPick_et (decide_eq_true hc135) _ _) ?_)))))))
 rw [decide_eq_true (show (at_ 0 (kndL n n lf) (0)) ≤ 2 from by first | omega | (simp only [Int.natCast_zero] at k0a; omega))]
 exact hk _ lE
 refine hQF hc135 (hQF hc135 (hQF hc135 (hQF hc135 (ob_i (vPick_ef (decide_eq_false hc135) _ _) ?_))))
 exfalso
 first | omega | exact absurd efr hc135 | exact absurd rfl hc135 | exact absurd htb.2.1 hc135 | exact absurd htb.2.2 hc135 | exact hc135 htb.2.2 | (rw [show ((kndL n n lf).length : Int) - 1 = ((lgN n - 1 : Nat) : Int) by omega, kea] at hc135; omega) | (simp only [Int.natCast_zero] at k0a; omega)
 refine hQF hc134 (hQF hc134 (hQF hc134 (hQF hc134 (ob_i (vPick_ef (decide_eq_false hc134) _ _) (gop_sf (gop_sf (gop_sf (gop_sf (ob_i (vPick_f _ _) ?_)))))))))
 exfalso
 first | omega | exact absurd efr hc134 | exact absurd rfl hc134 | exact absurd htb.2.1 hc134 | exact absurd htb.2.2 hc134 | exact hc134 htb.2.2 | (rw [show ((kndL n n lf).length : Int) - 1 = ((lgN n - 1 : Nat) : Int) by omega, kea] at hc134; omega) | (simp only [Int.natCast_zero] at k0a; omega)
 replace ou6 := (((ou6.le le121).off off123 au6Xp118).le le125).le le129
 replace ou7 := (((ou7.le le121).off off123 au7Xp118).le le125).le le129
 replace op10 := (((op10.le le121).off off123 ap10Xp118).le le125).le le129
 replace ou16 := (((ou16.le le121).off off123 au16Xp118).le le125).le le129
 replace ou36 := (((ou36.le le121).off off123 au36Xp118).le le125).le le129
 replace op38 := (((op38.le le121).off off123 ap38Xp118).le le125).le le129
 replace ou46 := (((ou46.le le121).off off123 au46Xp118).le le125).le le129
 replace op48 := (((op48.le le121).off off123 ap48Xp118).le le125).le le129
 replace ou56 := (((ou56.le le121).off off123 au56Xp118).le le125).le le129
 replace op58 := (((op58.le le121).off off123 ap58Xp118).le le125).le le129
 replace ou66 := (((ou66.le le121).off off123 au66Xp118).le le125).le le129
 replace op68 := (((op68.le le121).off off123 ap68Xp118).le le125).le le129
 replace ou76 := (((ou76.le le121).off off123 au76Xp118).le le125).le le129
 replace op78 := (((op78.le le121).off off123 ap78Xp118).le le125).le le129
 replace ou86 := (((ou86.le le121).off off123 au86Xp118).le le125).le le129
 replace op88 := (((op88.le le121).off off123 ap88Xp118).le le125).le le129
 replace lE := ((off123.le (lE.trans le121) np118).trans le125).trans le129
 replace ou104 := (ou104.le le125).le le129
 replace ou108 := (ou108.le le125).le le129
 replace ou26 := ou26.le le129
 replace op28 := op28.le le129
 replace ou116 := ou116.le le129
 replace op118 := op118.le le129
 refine ⟨fun n' σ' H' => ∃ j : Nat, n' = (lgN n - 1) - j ∧ j ≤ (lgN n - 1) ∧ σ' 21 = u104 ∧ σ' 25 = u112 ∧ σ' 29 = (.int .i64 ((sumK n n lf j : Int))) ∧ σ' 30 = (.int .i64 (1 + (j : Int))) ∧ Own eI H' u6 (lb) ∧ Own eI H' u7 (lz) ∧ Cel H' p10 [u6, u7] ∧ Own eI H' u16 ([4, 8, 16]) ∧ Own eI H' u26 (lf) ∧ Cel H' p28 [(.int .i64 (n)), (.int .i64 (n)), u26] ∧ Own eI H' u36 (farL lb lz n lf) ∧ Cel H' p38 [(.int .i64 (n / 2)), (.int .i64 (n / 2)), u36] ∧ Own eI H' u46 (rnL false lb lz n n lf (n / 4).toNat) ∧ Cel H' p48 [(.int .i64 (n)), (.int .i64 (n)), u46] ∧ Own eI H' u56 (mkL (n / 2) (cutG n (rnL false lb lz n n lf (n / 4).toNat) (n / 4) (n / 4)) (((n / 2) : Int).toNat * ((n / 2) : Int).toNat)) ∧ Cel H' p58 [(.int .i64 ((n / 2))), (.int .i64 ((n / 2))), u56] ∧ Own eI H' u66 (inL lb lz n n lf) ∧ Cel H' p68 [(.int .i64 (n - 2)), (.int .i64 (n - 2)), u66] ∧ Own eI H' u76 (nxL false lb lz n n lf) ∧ Cel H' p78 [(.int .i64 (n)), (.int .i64 (n)), u76] ∧ Own eI H' u86 (mkL (n - 2) (cutG n (nxL false lb lz n n lf) 1 1) (((n - 2) : Int).toNat * ((n - 2) : Int).toNat)) ∧ Cel H' p88 [(.int .i64 ((n - 2))), (.int .i64 ((n - 2))), u86] ∧ Own eI H' u104 (treL n n lf) ∧ Own eI H' u108 (treL n n lf) ∧ Own eI H' u112 (kndL n n lf) ∧ Own eI H' u116 (clT (treL n n lf) (topT (treL n n lf))) ∧ Cel H' p118 [(.int .i64 (szz (lvT (treL n n lf) (topT (treL n n lf))))), (.int .i64 (szz (lvT (treL n n lf) (topT (treL n n lf))))), u116] ∧ Le H H',
    ⟨_, 0, rfl, by omega, rfl, rfl, rfl, (congrArg (Value.int .i64) (by first | omega | rfl | (simp; done))), ou6, ou7, op10, ou16, ou26, op28, ou36, op38, ou46, op48, ou56, op58, ou66, op68, ou76, op78, ou86, op88, ou104, ou108, ou112, ou116, op118, lE⟩, ?_⟩
 rintro n136 σ136 H136 ⟨j, rfl, hjN, g21L136, g25L136, g29L136, g30L136, ou6, ou7, op10, ou16, ou26, op28, ou36, op38, ou46, op48, ou56, op58, ou66, op68, ou76, op78, ou86, op88, ou104, ou108, ou112, ou116, op118, lE⟩
 try simp only [g25L136, g29L136, g30L136]
 have hsj := sumK_le (r := n) (c := n) (l := lf) (a := j) (b := lgN n - 1) (by omega)
 refine ob_i (ou112.len) (ob_i (vInt_lss _ _ _) (cnd_d (fun hg137 => ?_) (fun hg137 => ?_)))
 have tj := hg137
 have hsj1 := sumK_le (r := n) (c := n) (l := lf) (a := j + 1) (b := lgN n - 1) (by omega)
 rw [sumK_succ] at hsj1
 have kj := knd_at (r := n) (c := n) (l := lf) (e := j + 1) (by omega)
 rw [show ((j + 1 : Nat) : Int) = 1 + (j : Int) by omega] at kj
 refine ob_i (ou112.sl.ix (by omega) (by omega)) (ob_i (ou112.sl.ld 0 (by omega) (by omega)) (ob_i (vInt_add (by omega) (by omega)) (ob_i (vInt_add (by omega) (by omega)) ?_)))
 exact nxt ((lgN n - 1) - (j + 1)) (by omega) ⟨j + 1, rfl, by omega, g21L136, g25L136, (congrArg (Value.int .i64) (by rw [sumK_succ, kj]; omega)), (congrArg (Value.int .i64) (by first | omega | rfl | (simp; done))), ou6, ou7, op10, ou16, ou26, op28, ou36, op38, ou46, op48, ou56, op58, ou66, op68, ou76, op78, ou86, op88, ou104, ou108, ou112, ou116, op118, lE⟩
 have tj := hg137
 obtain rfl : j = lgN n - 1 := by omega
 exact hJ133 _ _ ⟨g21L136, g25L136, (g29L136.trans (congrArg (Value.int .i64) (by first | omega | rfl | (simp; done)))), ou6, ou7, op10, ou16, ou26, op28, ou36, op38, ou46, op48, ou56, op58, ou66, op68, ou76, op78, ou86, op88, ou104, ou108, ou112, ou116, op118, lE⟩
 refine ob_i (vPick_ef (decide_eq_false hc127) _ _) (gop_st (gop_st (gop_st (ob_i (vPick_t _ _) (gop_st (gop_st (gop_st (gop_st (gop_st ?_)))))))))
 refine gop_st (gop_st (ob_i (vPick_t _ _) (cnd_t1 ?_)))
 exfalso
 first | omega | exact absurd efr hc130 | exact absurd rfl hc130 | exact absurd htb.2.1 hc130 | exact absurd htb.2.2 hc130 | exact hc130 htb.2.2 | (rw [show ((kndL n n lf).length : Int) - 1 = ((lgN n - 1 : Nat) : Int) by omega, kea] at hc130; omega) | (simp only [Int.natCast_zero] at k0a; omega)
 refine ob_i (vPick_f _ _) (gop_st (gop_st (gop_st (gop_st (ob_i (vPick_t _ _) (gop_st (gop_st (gop_st (gop_st ?_)))))))))
 refine gop_st (gop_st (ob_i (vPick_t _ _) (gop_st (gop_st (gop_st (ob_i (vPick_t _ _) (gop_st (gop_st (gop_st ?_)))))))))
 refine gop_st (gop_st (gop_st (gop_st (ob_i (vPick_t _ _) (cnd_t1 ?_)))))
 exfalso
 first | omega | exact absurd efr hc126 | exact absurd rfl hc126 | exact absurd htb.2.1 hc126 | exact absurd htb.2.2 hc126 | exact hc126 htb.2.2 | (rw [show ((kndL n n lf).length : Int) - 1 = ((lgN n - 1 : Nat) : Int) by omega, kea] at hc126; omega) | (simp only [Int.natCast_zero] at k0a; omega)
 refine ob_i (vPick_ef (decide_eq_false hc98) _ _) (cnd_t1 ?_)
 exfalso
 first | omega | exact absurd efr hc101 | exact absurd rfl hc101 | exact absurd htb.2.1 hc101 | exact absurd htb.2.2 hc101 | exact hc101 htb.2.2 | (rw [show ((kndL n n lf).length : Int) - 1 = ((lgN n - 1 : Nat) : Int) by omega, kea] at hc101; omega) | (simp only [Int.natCast_zero] at k0a; omega)
 refine ob_i (vPick_ef (decide_eq_false hc94) _ _) (gop_st (gop_st (gop_st (gop_st (gop_st (ob_i (vPick_t _ _) (gop_st (gop_st (gop_st ?_)))))))))
 refine gop_st (gop_st (gop_st (ob_i (vPick_t _ _) (cnd_t1 ?_))))
 exfalso
 first | omega | exact absurd efr hc97 | exact absurd rfl hc97 | exact absurd htb.2.1 hc97 | exact absurd htb.2.2 hc97 | exact hc97 htb.2.2 | (rw [show ((kndL n n lf).length : Int) - 1 = ((lgN n - 1 : Nat) : Int) by omega, kea] at hc97; omega) | (simp only [Int.natCast_zero] at k0a; omega)

theorem L.FnInner {H : Hp} {K : Value → Hp → Prop} (h0 : Sl eU H vy l) (h1 : Sl eU H vm m) (l0 : l.length ≤ 9223372036854775807) (l1 : m.length ≤ 9223372036854775807) (b0 : bytP l) (b1 : bytP m) (hk : ∀ H', Le H H' → K (.bool true) H') : HT prg 6 [vy, vm].toArray H K :=
  C.c81 h0 h1 b0 l0 b1 l1 hk
end Go.Proofs.Ythmdmbbdjbhcoaa
