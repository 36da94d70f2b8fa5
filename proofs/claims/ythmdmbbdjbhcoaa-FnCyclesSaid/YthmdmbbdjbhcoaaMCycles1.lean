/- Several texts in one. -/
import Derived.Test.YthmdmbbdjbhcoaaMCycles0
import Derived.Sort.Grow
import Derived.Test.YthmdmbbdjbhcoaaYS
/- Ranges over slices.Backward. -/
namespace Go.Proofs.Ythmdmbbdjbhcoaa
open HL
set_option maxRecDepth 100000
theorem C.slices_Backward {vc : Value} {l : List Int} {H : Hp} {K : Value → Hp → Prop} (hv : Sl eI H vc l)
    (hk : ∀ ps H', Cel H' ps [vc] → Nw H ps → Le H H' → K (.func (.func I.slices_Backward_int64Zint64Z1) #[] #[ps]) H') :
    HT prg I.slices_Backward_int64Zint64 [vc].toArray H K := by
 refine R.slices_Backward_int64Zint64 ?_
 unfold F.slices_Backward_int64Zint64
 rw [hv.cells]
 exact nw_i (fun ps H2 ops nps le2 => hk ps H2 ops nps le2)
theorem C.slices_BackwardZ1 {yv ps vc : Value} {l : List Int} {H0 H : Hp} {K : Value → Hp → Prop} {J : Nat → Hp → Prop} {St : Hp → Prop} (hv : Sl eI H0 vc l) (l2 : l.length ≤ 1000000)
    (hb : ∀ t A, J t A → Cel A ps [vc] ∧ Sl eI A vc l) (h0 : J 0 H)
    (hst : ∀ t A (Z : Value → Hp → Prop), t < l.length → J t A → (∀ B, J (t + 1) B → Z (.bool true) B) → (∀ B, St B → Z (.bool false) B) → callV prg yv [.int .i64 ((l.length : Int) - 1 - (t : Int)), .int .i64 (at_ 0 l ((l.length : Int) - 1 - (t : Int)))] A Z)
    (hk : ∀ A, J l.length A → K (.tuple #[]) A) (hs : ∀ A, St A → K (.tuple #[]) A) :
    HT prg I.slices_Backward_int64Zint64Z1 [yv, ps].toArray H K := by
 refine R.slices_Backward_int64Zint64Z1 ?_
 unfold F.slices_Backward_int64Zint64Z1
 obtain ⟨ops, hv1⟩ := hb 0 H h0
 refine ob_i (ops.ld0 rfl) ?_
 refine ob_i hv1.len ?_
 refine ob_i (vInt_sub (by omega) (by omega)) ?_
 refine ⟨fun n σ H' => ∃ t : Nat, n = l.length - t ∧ t ≤ l.length ∧ σ 0 = yv ∧ σ 1 = ps ∧ σ 3 = .int .i64 ((l.length : Int) - 1 - (t : Int)) ∧ J t H', ⟨_, 0, rfl, by omega, rfl, rfl, congrArg (Value.int .i64) (by omega), h0⟩, ?_⟩
 rintro n σ H1 ⟨t, rfl, ht, g0, g1, g3, hJ⟩
 simp only [g0, g1, g3]
 obtain ⟨ops, hv2⟩ := hb t H1 hJ
 refine ob_i (vInt_geq _ _ _) ?_
 refine cnd_d (fun hlt => ?_) (fun hge => ?_)
 ·refine ob_i (ops.ld0 rfl) ?_
  refine ob_i (hv2.ix (by omega) (by omega)) ?_
  refine ob_i (hv2.ld 0 (by omega) (by omega)) ?_
  refine hst t H1 _ (by omega) hJ (fun B hB => ?_) (fun B hB => ?_)
  ·refine ob_i (a := .bool false) rfl ?_
   refine cnd_f1 ?_
   refine ob_i (vInt_sub (by omega) (by omega)) ?_
   exact nxt (l.length - (t + 1)) (by omega) ⟨t + 1, rfl, by omega, g0, g1, congrArg (Value.int .i64) (by omega), hB⟩
  ·refine ob_i (a := .bool true) rfl ?_
   refine cnd_t1 ?_
   exact hs B hB
 ·obtain rfl : t = l.length := by omega
  exact hk _ hJ
end Go.Proofs.Ythmdmbbdjbhcoaa
/- Cycles of a list of steps, by plain law: how long each is, how far it is to one. -/
namespace Go.Proofs.Ythmdmbbdjbhcoaa
open HL
/-- Steps again and again. -/
def itF (F : Nat → Nat) : Nat → Nat → Nat
  | 0, x => x
  | k + 1, x => F (itF F k x)
/-- The first number, from one on, that has something. -/
def fstB (p : Nat → Bool) : Nat → Nat → Nat
  | a, 0 => a
  | a, f + 1 => if p a = true then a else fstB p (a + 1) f
theorem fstB_at {p : Nat → Bool} : ∀ {f a m : Nat}, (∀ j, a ≤ j → j < m → p j = false) → p m = true → a ≤ m → m ≤ a + f → fstB p a f = m
  | 0, a, m, _, _, h1, h2 => by unfold fstB; omega
  | f + 1, a, m, h, hp, h1, h2 => by
    unfold fstB
    by_cases e : a = m
    · subst e; rw [if_pos hp]
    · rw [if_neg (by rw [h a (by omega) (by omega)]; simp)]
      exact fstB_at (fun j hj hm => h j (by omega) hm) hp (by omega) (by omega)
theorem fstB_no {p : Nat → Bool} : ∀ {f a : Nat}, (∀ j, a ≤ j → j < a + f → p j = false) → fstB p a f = a + f
  | 0, a, _ => rfl
  | f + 1, a, h => by
    unfold fstB
    rw [if_neg (by rw [h a (by omega) (by omega)]; simp), fstB_no (fun j h1 h2 => h j (by omega) (by omega))]
    omega
theorem fstB_spec {p : Nat → Bool} : ∀ {f a : Nat}, fstB p a f < a + f → p (fstB p a f) = true ∧ a ≤ fstB p a f ∧ ∀ j, a ≤ j → j < fstB p a f → p j = false
  | 0, a, h => by unfold fstB at h; omega
  | f + 1, a, h => by
    by_cases hp : p a = true
    · have e : fstB p a (f + 1) = a := by unfold fstB; rw [if_pos hp]
      rw [e]; exact ⟨hp, Nat.le_refl _, fun j h1 h2 => by omega⟩
    · have e : fstB p a (f + 1) = fstB p (a + 1) f := by rw [fstB, if_neg hp]
      rw [e] at h ⊢
      obtain ⟨h1, h2, h3⟩ := fstB_spec (p := p) (f := f) (a := a + 1) (by omega)
      refine ⟨h1, by omega, fun j g1 g2 => ?_⟩
      by_cases ej : j = a
      · subst ej; simpa using hp
      · exact h3 j (by omega) g2
/-- Fewer places than things: two lie in one. -/
theorem pig : ∀ (N : Nat) {n : Nat} {f : Nat → Nat}, (∀ i, i < n → f i < N) → (∀ i j, i < j → j < n → f i ≠ f j) → n ≤ N
  | 0, n, f, h, _ => by
    by_cases e : n = 0
    · omega
    · exact absurd (h 0 (by omega)) (by omega)
  | N + 1, n, f, h, hd => by
    by_cases hx : ∃ i, i < n ∧ f i = N
    · obtain ⟨i0, hi0, e0⟩ := hx
      have := pig N (n := n - 1) (f := fun i => if i = i0 then f (n - 1) else f i) (fun i hi => by
        have hne : ∀ j, j < n → j ≠ i0 → f j < N := fun j hj hj0 => by
          have h1 := h j hj
          have : f j ≠ N := fun e => by
            rcases Nat.lt_or_gt_of_ne hj0 with g | g
            · exact hd j i0 g hi0 (by rw [e, e0])
            · exact hd i0 j g hj (by rw [e, e0])
          omega
        by_cases e : i = i0
        · simp only [if_pos e]; exact hne _ (by omega) (by omega)
        · simp only [if_neg e]; exact hne _ (by omega) e)
        (fun i j hij hj => by
          by_cases e : i = i0
          · have e' : j ≠ i0 := by omega
            simp only [if_pos e, if_neg e']
            exact (hd j (n - 1) (by omega) (by omega)).symm
          · by_cases e' : j = i0
            · simp only [if_neg e, if_pos e']
              exact hd i (n - 1) (by omega) (by omega)
            · simp only [if_neg e, if_neg e']
              exact hd i j hij (by omega))
      omega
    · exact Nat.le_succ_of_le (pig N (fun i hi => by
        have h1 := h i hi
        have : f i ≠ N := fun e => hx ⟨i, hi, e⟩
        omega) hd)
section
variable {F : Nat → Nat} {N : Nat}
theorem itF_add (a b x : Nat) : itF F (a + b) x = itF F a (itF F b x) := by
  induction a with
  | zero => rw [Nat.zero_add]; rfl
  | succ a ih => rw [Nat.succ_add]; show F _ = F _; rw [ih]
theorem itF_succ' (k x : Nat) : itF F (k + 1) x = itF F k (F x) := itF_add k 1 x
theorem itF_lt (hF : ∀ x, x < N → F x < N) {x : Nat} (hx : x < N) : ∀ k, itF F k x < N
  | 0 => hx
  | k + 1 => hF _ (itF_lt hF hx k)
/-- How long a number's cycle is, 0 where it is in none. -/
def perN (F : Nat → Nat) (N x : Nat) : Nat := if fstB (fun p => decide (itF F (p + 1) x = x)) 0 N < N then fstB (fun p => decide (itF F (p + 1) x = x)) 0 N + 1 else 0
theorem perN_at {x p : Nat} (h0 : 1 ≤ p) (h1 : p ≤ N) (he : itF F p x = x) (hd : ∀ q, 0 < q → q < p → itF F q x ≠ x) : perN F N x = p := by
  have e : fstB (fun p => decide (itF F (p + 1) x = x)) 0 N = p - 1 := fstB_at (fun j _ hj => decide_eq_false (hd _ (by omega) (by omega))) (decide_eq_true (by rw [show p - 1 + 1 = p by omega]; exact he)) (by omega) (by omega)
  unfold perN
  rw [e, if_pos (by omega)]
  omega
theorem perN_no {x : Nat} (hd : ∀ q, 0 < q → q ≤ N → itF F q x ≠ x) : perN F N x = 0 := by
  have e := fstB_no (p := fun p => decide (itF F (p + 1) x = x)) (a := 0) (f := N) (fun j _ hj => decide_eq_false (hd _ (by omega) (by omega)))
  unfold perN
  rw [e, if_neg (by omega)]
theorem perN_spec {x : Nat} (h : perN F N x ≠ 0) : 1 ≤ perN F N x ∧ perN F N x ≤ N ∧ itF F (perN F N x) x = x ∧ ∀ q, 0 < q → q < perN F N x → itF F q x ≠ x := by
  unfold perN at h ⊢
  split at h
  · rename_i hlt
    rw [if_pos hlt]
    obtain ⟨h1, _, h3⟩ := fstB_spec (p := fun p => decide (itF F (p + 1) x = x)) (f := N) (a := 0) (by omega)
    refine ⟨by omega, by omega, of_decide_eq_true h1, fun q g1 g2 => ?_⟩
    have := h3 (q - 1) (by omega) (by omega)
    rw [show q - 1 + 1 = q by omega] at this
    exact of_decide_eq_false this
  · exact absurd rfl h
theorem perN_le (x : Nat) : perN F N x ≤ N := by unfold perN; split <;> omega
/-! ### one walk, from s on -/
variable {s n p : Nat}
/-- Where a walk comes upon itself. -/
theorem walk_back (hd : ∀ i j, i < j → j < n → itF F i s ≠ itF F j s) (hp : p < n) (he : itF F n s = itF F p s) {j : Nat} : ∀ q, p ≤ j → j < n → (∃ i, p ≤ i ∧ i < n ∧ itF F (j + q) s = itF F i s ∧ ((j + q - i) % (n - p) = 0 ∧ i ≤ j + q))
  | 0, h1, h2 => ⟨j, h1, h2, rfl, by simp⟩
  | q + 1, h1, h2 => by
    obtain ⟨i, g1, g2, g3, g4, g5⟩ := walk_back hd hp he q h1 h2
    by_cases e : i + 1 = n
    · refine ⟨p, Nat.le_refl _, hp, ?_, ?_, by omega⟩
      · rw [show j + (q + 1) = (j + q) + 1 by omega]
        show F _ = _
        rw [g3, ← he, ← e]; rfl
      · rw [show j + (q + 1) - p = (j + q - i) + (n - p) by omega, Nat.add_mod_right]; exact g4
    · refine ⟨i + 1, by omega, by omega, ?_, ?_, by omega⟩
      · rw [show j + (q + 1) = (j + q) + 1 by omega]
        show F _ = F _
        rw [g3]
      · rw [show j + (q + 1) - (i + 1) = j + q - i by omega]; exact g4
theorem walk_lt (hF : ∀ x, x < N → F x < N) (hs : s < N) (hd : ∀ i j, i < j → j < n → itF F i s ≠ itF F j s) : n ≤ N := pig N (f := fun i => itF F i s) (fun i _ => itF_lt hF hs i) hd
theorem walk_per (hd : ∀ i j, i < j → j < n → itF F i s ≠ itF F j s) (hp : p < n) (he : itF F n s = itF F p s) (hN : n ≤ N) {j : Nat} (h1 : p ≤ j) (h2 : j < n) : perN F N (itF F j s) = n - p := by
  refine perN_at (by omega) (by omega) ?_ (fun q g1 g2 => ?_)
  · rw [← itF_add, show n - p + j = (j - p) + n by omega, itF_add, he, ← itF_add, show j - p + p = j by omega]
  · rw [← itF_add, Nat.add_comm]
    obtain ⟨i, k1, k2, k3, k4, k5⟩ := walk_back hd hp he q h1 h2
    rw [k3]
    have hne : i ≠ j := fun e => by
      rw [e, show j + q - j = q by omega, Nat.mod_eq_of_lt g2] at k4; omega
    rcases Nat.lt_or_gt_of_ne hne with g | g
    · exact hd i j g h2
    · exact (hd j i g k2).symm
theorem walk_tail (hd : ∀ i j, i < j → j < n → itF F i s ≠ itF F j s) (hp : p < n) (he : itF F n s = itF F p s) {j : Nat} (h1 : j < p) : perN F N (itF F j s) = 0 := by
  refine perN_no (fun q g1 g2 => ?_)
  rw [← itF_add, Nat.add_comm]
  by_cases hq : j + q < p
  · exact (hd j (j + q) (by omega) (by omega)).symm
  · obtain ⟨i, k1, k2, k3, _⟩ := walk_back hd hp he (j := p) (j + q - p) (Nat.le_refl _) hp
    rw [show p + (j + q - p) = j + q by omega] at k3
    rw [k3]
    exact (hd j i (by omega) k2).symm
/-- A walk that comes upon what was there before. -/
theorem walk_out {V : Nat → Prop} (hV : ∀ x, x < N → V x → V (F x)) (hF : ∀ x, x < N → F x < N) (hs : s < N) (hd : ∀ i j, i < j → j < n → itF F i s ≠ itF F j s) (hn : V (itF F n s)) (hv : ∀ j, j < n → ¬ V (itF F j s)) {j : Nat} (hj : j < n) : perN F N (itF F j s) = 0 := by
  have hk : ∀ k, V (itF F (n + k) s) := fun k => by
    induction k with
    | zero => exact hn
    | succ k ih => exact hV _ (itF_lt hF hs _) ih
  refine perN_no (fun q g1 g2 => ?_)
  rw [← itF_add, Nat.add_comm]
  by_cases hq : j + q < n
  · exact (hd j (j + q) (by omega) hq).symm
  · intro e
    have := hk (j + q - n)
    rw [show n + (j + q - n) = j + q by omega, e] at this
    exact hv j hj this
/-- Each number comes to a cycle. -/
theorem comes_round (hF : ∀ x, x < N → F x < N) (hs : s < N) : ∃ t, t < N ∧ perN F N (itF F t s) ≠ 0 := by
  have hex : ∃ n, n ≤ N ∧ (∀ i j, i < j → j < n → itF F i s ≠ itF F j s) ∧ ∃ p, p < n ∧ itF F n s = itF F p s := by
    have hno : ¬ (∀ m, m ≤ N + 1 → ∀ i j, i < j → j < m → itF F i s ≠ itF F j s) := fun h => by
      have := pig N (n := N + 1) (f := fun i => itF F i s) (fun i _ => itF_lt hF hs i) (h (N + 1) (Nat.le_refl _))
      omega
    have key : ∀ m, m ≤ N + 1 → (∀ i j, i < j → j < m → itF F i s ≠ itF F j s) ∨ ∃ n, n < m ∧ (∀ i j, i < j → j < n → itF F i s ≠ itF F j s) ∧ ∃ p, p < n ∧ itF F n s = itF F p s := by
      intro m
      induction m with
      | zero => intro _; exact .inl (fun i j _ h => by omega)
      | succ m ih =>
        intro hm
        rcases ih (by omega) with h | ⟨n, h1, h2⟩
        · by_cases hp : ∃ p, p < m ∧ itF F m s = itF F p s
          · exact .inr ⟨m, by omega, h, hp⟩
          · refine .inl (fun i j h1 h2 => ?_)
            by_cases e : j = m
            · subst e; exact fun e => hp ⟨i, h1, e.symm⟩
            · exact h i j h1 (by omega)
        · exact .inr ⟨n, by omega, h2⟩
    rcases key (N + 1) (Nat.le_refl _) with h | ⟨n, h1, h2⟩
    · exact absurd (fun m hm i j g1 g2 => h i j g1 (by omega)) hno
    · exact ⟨n, by omega, h2⟩
  obtain ⟨n, h1, h2, p, h3, h4⟩ := hex
  refine ⟨p, by omega, ?_⟩
  rw [walk_per h2 h3 h4 h1 (Nat.le_refl _) h3]
  omega
theorem perN_next (hF : ∀ x, x < N → F x < N) {x : Nat} (hx : x < N) (h : perN F N x ≠ 0) : perN F N (F x) = perN F N x := by
  obtain ⟨h1, h2, h3, h4⟩ := perN_spec h
  have hd : ∀ i j, i < j → j < perN F N x → itF F i x ≠ itF F j x := fun i j g1 g2 e => by
    have e2 : itF F (perN F N x - j + i) x = x := by
      rw [itF_add, e, ← itF_add, show perN F N x - j + j = perN F N x by omega, h3]
    exact h4 _ (by omega) (by omega) e2
  by_cases e : perN F N x = 1
  · have : F x = x := by rw [e] at h3; exact h3
    rw [this]
  · have := walk_per (s := x) (j := 1) hd (p := 0) (by omega) (by rw [h3]; rfl) h2 (by omega) (by omega)
    exact this
/-- How many steps it takes to a cycle. -/
def dpN (F : Nat → Nat) (N x : Nat) : Nat := fstB (fun t => decide (perN F N (itF F t x) ≠ 0)) 0 N
theorem dpN_zero {x : Nat} (hx : x < N) (h : perN F N x ≠ 0) : dpN F N x = 0 := fstB_at (fun j _ hj => by omega) (decide_eq_true h) (Nat.le_refl _) (by omega)
theorem dpN_spec (hF : ∀ x, x < N → F x < N) {x : Nat} (hx : x < N) : dpN F N x < N ∧ perN F N (itF F (dpN F N x) x) ≠ 0 ∧ ∀ j, j < dpN F N x → perN F N (itF F j x) = 0 := by
  obtain ⟨t, ht, h⟩ := comes_round hF hx
  have hlt : dpN F N x < 0 + N := by
    unfold dpN
    by_cases hh : fstB (fun t => decide (perN F N (itF F t x) ≠ 0)) 0 N < 0 + N
    · exact hh
    · exfalso
      have : ∀ (f a : Nat), a ≤ t → t < a + f → fstB (fun t => decide (perN F N (itF F t x) ≠ 0)) a f ≤ t := by
        intro f
        induction f with
        | zero => intro a h1 h2; omega
        | succ f ih =>
          intro a h1 h2
          unfold fstB
          split
          · exact h1
          · rename_i hp
            have : a ≠ t := fun e => hp (by rw [e]; exact decide_eq_true h)
            exact ih (a + 1) (by omega) (by omega)
      have := this N 0 (by omega) (by omega)
      omega
  obtain ⟨h1, _, h3⟩ := fstB_spec hlt
  exact ⟨by omega, of_decide_eq_true h1, fun j hj => by
    have := of_decide_eq_false (h3 j (Nat.zero_le _) hj)
    simpa using this⟩
theorem dpN_succ (hF : ∀ x, x < N → F x < N) {x : Nat} (hx : x < N) (h : perN F N x = 0) : dpN F N x = dpN F N (F x) + 1 := by
  obtain ⟨h1, h2, h3⟩ := dpN_spec hF hx
  obtain ⟨g1, g2, g3⟩ := dpN_spec hF (hF x hx)
  have e0 : dpN F N x ≠ 0 := fun e => by rw [e] at h2; exact h2 h
  rcases Nat.lt_trichotomy (dpN F N x) (dpN F N (F x) + 1) with g | g | g
  · have := g3 (dpN F N x - 1) (by omega)
    rw [← itF_succ', show dpN F N x - 1 + 1 = dpN F N x by omega] at this
    exact absurd this h2
  · exact g
  · have := h3 (dpN F N (F x) + 1) g
    rw [itF_succ'] at this
    exact absurd this g2
theorem dpN_walk (hF : ∀ x, x < N → F x < N) {x : Nat} (hx : x < N) : ∀ {j : Nat}, (∀ i, i < j → perN F N (itF F i x) = 0) → dpN F N x = dpN F N (itF F j x) + j
  | 0, _ => rfl
  | j + 1, h => by
    rw [dpN_walk hF hx (j := j) (fun i hi => h i (by omega)), dpN_succ hF (itF_lt hF hx j) (h j (by omega))]
    show _ = dpN F N (F _) + _
    omega
end
theorem at_setI {l : List Int} {i j : Nat} {x : Int} (hi : i < l.length) : at_ 0 (l.set i x) (j : Int) = if i = j then x else at_ 0 l (j : Int) := by
  unfold at_
  rw [List.getD_eq_getElem?_getD, List.getD_eq_getElem?_getD, Int.toNat_natCast, List.getElem?_set]
  by_cases e : i = j
  · subst e; rw [if_pos rfl, if_pos hi, if_pos rfl]; rfl
  · rw [if_neg e, if_neg e]
/-- The next number, by a list. -/
def nxF (nx : List Int) (x : Nat) : Nat := (at_ 0 nx (x : Int)).toNat
def nxP (nx : List Int) : Prop := ∀ x ∈ nx, 0 ≤ x ∧ x < (nx.length : Int)
/-- How long each number's cycle is. -/
def cyL (nx : List Int) : List Int := (List.range nx.length).map fun x => ((perN (nxF nx) nx.length x : Nat) : Int)
section
variable {nx fi fi0 lo lo0 pl dp : List Int} {s n p : Nat}
theorem nxF_lt (h : nxP nx) : ∀ x, x < nx.length → nxF nx x < nx.length := fun x hx => by
  have := h _ (at_mem 0 nx (i := (x : Int)) (by omega) (by omega))
  unfold nxF
  omega
theorem nxF_at (h : nxP nx) {x : Nat} (hx : x < nx.length) : at_ 0 nx (x : Int) = ((nxF nx x : Nat) : Int) := by
  have := h _ (at_mem 0 nx (i := (x : Int)) (by omega) (by omega))
  unfold nxF
  omega
theorem nxW_at (h : nxP nx) (hs : s < nx.length) (j : Nat) : at_ 0 nx ((itF (nxF nx) j s : Nat) : Int) = ((itF (nxF nx) (j + 1) s : Nat) : Int) := nxF_at h (itF_lt (nxF_lt h) hs j)
theorem cyL_len (nx : List Int) : (cyL nx).length = nx.length := by simp [cyL]
theorem cyL_at {x : Nat} (hx : x < nx.length) : at_ 0 (cyL nx) (x : Int) = ((perN (nxF nx) nx.length x : Nat) : Int) := by
  rw [at_eq 0 _ (by rw [cyL_len]; exact hx)]; simp [cyL]
/-- What holds ahead of a walk from s on. -/
structure CyI (nx : List Int) (s : Nat) (fi lo : List Int) : Prop where
  lf : fi.length = nx.length
  ll : lo.length = nx.length
  bd : ∀ x : Nat, x < nx.length → 0 ≤ at_ 0 fi (x : Int) ∧ at_ 0 fi (x : Int) ≤ (s : Int)
  cl : ∀ x : Nat, x < nx.length → at_ 0 fi (x : Int) ≠ 0 → at_ 0 fi ((nxF nx x : Nat) : Int) ≠ 0
  cv : ∀ x : Nat, x < s → at_ 0 fi (x : Int) ≠ 0
  lv : ∀ x : Nat, x < nx.length → at_ 0 lo (x : Int) = if at_ 0 fi (x : Int) = 0 then 0 else ((perN (nxF nx) nx.length x : Nat) : Int)
/-- A walk from s on: n numbers are marked. -/
structure CyW (nx : List Int) (s n : Nat) (fi0 fi : List Int) : Prop where
  lf : fi.length = nx.length
  un : ∀ j, j < n → at_ 0 fi0 ((itF (nxF nx) j s : Nat) : Int) = 0
  mkd : ∀ j, j < n → at_ 0 fi ((itF (nxF nx) j s : Nat) : Int) = (s : Int) + 1
  kp : ∀ x : Nat, x < nx.length → (∀ j, j < n → itF (nxF nx) j s ≠ x) → at_ 0 fi (x : Int) = at_ 0 fi0 (x : Int)
  ds : ∀ i j, i < j → j < n → itF (nxF nx) i s ≠ itF (nxF nx) j s
/-- The places of a walk. -/
def plP (nx : List Int) (s n : Nat) (pl : List Int) : Prop := pl.length = nx.length ∧ ∀ j, j < n → at_ 0 pl ((itF (nxF nx) j s : Nat) : Int) = (j : Int)
theorem at_repl (m : Nat) (x : Nat) : at_ 0 (List.replicate m (0 : Int)) (x : Int) = 0 := by
  unfold at_
  rw [List.getD_eq_getElem?_getD, Int.toNat_natCast]
  by_cases h : x < m
  · rw [List.getElem?_eq_getElem (by simpa using h)]; simp
  · rw [List.getElem?_eq_none (by simp; omega)]; rfl
theorem CyI.start (nx : List Int) {m : Nat} (hm : m = nx.length) : CyI nx 0 (List.replicate m 0) (List.replicate m 0) := by
  subst hm
  exact ⟨by simp, by simp, fun x _ => by rw [at_repl]; omega, fun x _ h => absurd (at_repl _ _) h, fun x hx => by omega, fun x _ => by rw [at_repl, if_pos rfl]⟩
theorem CyW.start (h : fi.length = nx.length) : CyW nx s 0 fi fi := ⟨h, fun j hj => by omega, fun j hj => by omega, fun _ _ _ => rfl, fun i j _ hj => by omega⟩
theorem plP.start (h : pl.length = nx.length) : plP nx s 0 pl := ⟨h, fun j hj => by omega⟩
theorem CyW.fresh (hw : CyW nx s n fi0 fi) (hz : at_ 0 fi ((itF (nxF nx) n s : Nat) : Int) = 0) : ∀ j, j < n → itF (nxF nx) j s ≠ itF (nxF nx) n s := fun j hj e => by
  have := hw.mkd j hj
  rw [e, hz] at this
  omega
theorem CyW.next (hx : nxP nx) (hs : s < nx.length) (hw : CyW nx s n fi0 fi) (hz : at_ 0 fi ((itF (nxF nx) n s : Nat) : Int) = 0) {i : Nat} (hi : i = itF (nxF nx) n s) : CyW nx s (n + 1) fi0 (fi.set i ((s : Int) + 1)) := by
  subst hi
  have hlt := itF_lt (nxF_lt hx) hs n
  have hlt' : itF (nxF nx) n s < fi.length := by rw [hw.lf]; exact hlt
  have hf := hw.fresh hz
  refine ⟨by rw [List.length_set, hw.lf], fun j hj => ?_, fun j hj => ?_, fun x hx' hn => ?_, fun i j hij hj => ?_⟩
  · by_cases e : j = n
    · subst e; rw [← hw.kp _ hlt hf]; exact hz
    · exact hw.un j (by omega)
  · rw [at_setI hlt']
    by_cases e : j = n
    · subst e; rw [if_pos rfl]
    · rw [if_neg (hf j (by omega)).symm]; exact hw.mkd j (by omega)
  · rw [at_setI hlt', if_neg (hn n (by omega))]
    exact hw.kp x hx' (fun j hj => hn j (by omega))
  · by_cases e : j = n
    · subst e; exact hf i hij
    · exact hw.ds i j hij (by omega)
theorem plP.next (hx : nxP nx) (hs : s < nx.length) (hw : CyW nx s n fi0 fi) (hz : at_ 0 fi ((itF (nxF nx) n s : Nat) : Int) = 0) (hp : plP nx s n pl) {i : Nat} (hi : i = itF (nxF nx) n s) : plP nx s (n + 1) (pl.set i (n : Int)) := by
  subst hi
  have hlt := itF_lt (nxF_lt hx) hs n
  refine ⟨by rw [List.length_set, hp.1], fun j hj => ?_⟩
  rw [at_setI (by rw [hp.1]; exact hlt)]
  by_cases e : j = n
  · subst e; rw [if_pos rfl]
  · rw [if_neg (hw.fresh hz j (by omega)).symm]; exact hp.2 j (by omega)
theorem CyW.lt (hx : nxP nx) (hs : s < nx.length) (hw : CyW nx s n fi0 fi) : n ≤ nx.length := walk_lt (nxF_lt hx) hs hw.ds
theorem CyW.lt' (hx : nxP nx) (hs : s < nx.length) (hw : CyW nx s n fi0 fi) (hz : at_ 0 fi ((itF (nxF nx) n s : Nat) : Int) = 0) : n + 1 ≤ nx.length := (hw.next hx hs hz rfl).lt hx hs
theorem CyW.dec (hw : CyW nx s n fi0 fi) (x : Nat) : (∃ j, j < n ∧ itF (nxF nx) j s = x) ∨ ∀ j, j < n → itF (nxF nx) j s ≠ x := by
  by_cases h : ∃ j, j < n ∧ itF (nxF nx) j s = x
  · exact .inl h
  · exact .inr (fun j hj e => h ⟨j, hj, e⟩)
/-- All that is marked, closed under steps: what holds of marks behind a walk. -/
theorem CyW.marks (hx : nxP nx) (hs : s < nx.length) (hi : CyI nx s fi0 lo) (hw : CyW nx s n fi0 fi) (hz : at_ 0 fi ((itF (nxF nx) n s : Nat) : Int) ≠ 0) :
    (∀ x : Nat, x < nx.length → 0 ≤ at_ 0 fi (x : Int) ∧ at_ 0 fi (x : Int) ≤ ((s + 1 : Nat) : Int)) ∧ (∀ x : Nat, x < nx.length → at_ 0 fi (x : Int) ≠ 0 → at_ 0 fi ((nxF nx x : Nat) : Int) ≠ 0) ∧ ∀ x : Nat, x < s + 1 → at_ 0 fi (x : Int) ≠ 0 := by
  have keep : ∀ x : Nat, x < nx.length → at_ 0 fi0 (x : Int) ≠ 0 → at_ 0 fi (x : Int) ≠ 0 := fun x hx' h => by
    rcases hw.dec x with ⟨j, hj, rfl⟩ | hn
    · rw [hw.mkd j hj]; omega
    · rw [hw.kp x hx' hn]; exact h
  refine ⟨fun x hx' => ?_, fun x hx' h => ?_, fun x hx' => ?_⟩
  · rcases hw.dec x with ⟨j, hj, rfl⟩ | hn
    · rw [hw.mkd j hj]; omega
    · rw [hw.kp x hx' hn]; have := hi.bd x hx'; omega
  · rcases hw.dec x with ⟨j, hj, rfl⟩ | hn
    · show at_ 0 fi ((itF (nxF nx) (j + 1) s : Nat) : Int) ≠ 0
      by_cases e : j + 1 = n
      · rw [e]; exact hz
      · rw [hw.mkd (j + 1) (by omega)]; omega
    · rw [hw.kp x hx' hn] at h
      exact keep _ (nxF_lt hx x hx') (hi.cl x hx' h)
  · by_cases e : x = s
    · subst e
      by_cases e0 : n = 0
      · subst e0; exact hz
      · have := hw.mkd 0 (by omega)
        show at_ 0 fi ((itF (nxF nx) 0 x : Nat) : Int) ≠ 0
        rw [this]; omega
    · exact keep x (by omega) (hi.cv x (by omega))
/-- A walk that came upon an earlier one. -/
theorem CyI.skip (hx : nxP nx) (hs : s < nx.length) (hi : CyI nx s fi0 lo) (hw : CyW nx s n fi0 fi) (hz : at_ 0 fi ((itF (nxF nx) n s : Nat) : Int) ≠ 0) (hne : at_ 0 fi ((itF (nxF nx) n s : Nat) : Int) ≠ (s : Int) + 1) : CyI nx (s + 1) fi lo := by
  obtain ⟨m1, m2, m3⟩ := hw.marks hx hs hi hz
  refine ⟨hw.lf, hi.ll, m1, m2, m3, fun x hx' => ?_⟩
  rw [hi.lv x hx']
  rcases hw.dec x with ⟨j, hj, rfl⟩ | hn
  · rw [if_pos (hw.un j hj), if_neg (by rw [hw.mkd j hj]; omega)]
    have hnV : at_ 0 fi0 ((itF (nxF nx) n s : Nat) : Int) ≠ 0 := by
      rw [← hw.kp _ (itF_lt (nxF_lt hx) hs n) (fun j hj e => hne (by rw [← e]; exact hw.mkd j hj))]; exact hz
    rw [walk_out (V := fun x => at_ 0 fi0 (x : Int) ≠ 0) (fun x h1 h2 => hi.cl x h1 h2) (nxF_lt hx) hs hw.ds hnV (fun j hj h => h (hw.un j hj)) hj]
    rfl
  · rw [hw.kp x hx' hn]
/-- A walk that came upon itself. -/
theorem CyW.back (hx : nxP nx) (hs : s < nx.length) (hi : CyI nx s fi0 lo) (hw : CyW nx s n fi0 fi) (he : at_ 0 fi ((itF (nxF nx) n s : Nat) : Int) = (s : Int) + 1) : ∃ p, p < n ∧ itF (nxF nx) n s = itF (nxF nx) p s := by
  rcases hw.dec (itF (nxF nx) n s) with ⟨j, hj, e⟩ | hn
  · exact ⟨j, hj, e.symm⟩
  · have hlt := itF_lt (nxF_lt hx) hs n
    rw [hw.kp _ hlt hn] at he
    have := hi.bd _ hlt
    omega
/-- A cycle's lengths, told one after the other. -/
structure CyS (nx : List Int) (s n p j : Nat) (lo0 lo : List Int) : Prop where
  ll : lo.length = nx.length
  st : ∀ i, i < j → at_ 0 lo ((itF (nxF nx) (p + i) s : Nat) : Int) = ((n - p : Nat) : Int)
  kp : ∀ x : Nat, x < nx.length → (∀ i, i < j → itF (nxF nx) (p + i) s ≠ x) → at_ 0 lo (x : Int) = at_ 0 lo0 (x : Int)
theorem CyS.start (h : lo.length = nx.length) : CyS nx s n p 0 lo lo := ⟨h, fun i hi => by omega, fun _ _ _ => rfl⟩
theorem CyS.next {j : Nat} (hx : nxP nx) (hs : s < nx.length) (hw : CyW nx s n fi0 fi) (h : CyS nx s n p j lo0 lo) (hj : p + j < n) {i : Nat} (hi : i = itF (nxF nx) (p + j) s) : CyS nx s n p (j + 1) lo0 (lo.set i ((n - p : Nat) : Int)) := by
  subst hi
  have hlt := itF_lt (nxF_lt hx) hs (p + j)
  have hlt' : itF (nxF nx) (p + j) s < lo.length := by rw [h.ll]; exact hlt
  refine ⟨by rw [List.length_set, h.ll], fun i hi => ?_, fun x hx' hn => ?_⟩
  · rw [at_setI hlt']
    by_cases e : i = j
    · subst e; rw [if_pos rfl]
    · rw [if_neg (hw.ds (p + i) (p + j) (by omega) hj).symm]; exact h.st i (by omega)
  · rw [at_setI hlt', if_neg (hn j (by omega))]
    exact h.kp x hx' (fun i hi => hn i (by omega))
theorem CyS.zero {j : Nat} (hx : nxP nx) (hs : s < nx.length) (hi : CyI nx s fi0 lo0) (hw : CyW nx s n fi0 fi) (h : CyS nx s n p j lo0 lo) (hj : p + j < n) : at_ 0 lo ((itF (nxF nx) (p + j) s : Nat) : Int) = 0 := by
  have hlt := itF_lt (nxF_lt hx) hs (p + j)
  rw [h.kp _ hlt (fun i hi' => hw.ds (p + i) (p + j) (by omega) hj), hi.lv _ hlt, if_pos (hw.un _ hj)]
theorem CyS.full {j : Nat} (he : itF (nxF nx) n s = itF (nxF nx) p s) (h : CyS nx s n p j lo0 lo) (hj : j = n - p) (hp : p < n) : at_ 0 lo ((itF (nxF nx) (p + j) s : Nat) : Int) ≠ 0 := by
  rw [show p + j = n by omega, he]
  have := h.st 0 (by omega)
  rw [Nat.add_zero] at this
  rw [this]; omega
theorem CyI.told (hx : nxP nx) (hs : s < nx.length) (hi : CyI nx s fi0 lo0) (hw : CyW nx s n fi0 fi) (hp : p < n) (he : itF (nxF nx) n s = itF (nxF nx) p s) {j : Nat} (h : CyS nx s n p j lo0 lo) (hj : j = n - p) : CyI nx (s + 1) fi lo := by
  have hz : at_ 0 fi ((itF (nxF nx) n s : Nat) : Int) ≠ 0 := by rw [he, hw.mkd p hp]; omega
  obtain ⟨m1, m2, m3⟩ := hw.marks hx hs hi hz
  refine ⟨hw.lf, h.ll, m1, m2, m3, fun x hx' => ?_⟩
  rcases hw.dec x with ⟨i, hi', rfl⟩ | hn
  · rw [if_neg (by rw [hw.mkd i hi']; omega)]
    by_cases hip : i < p
    · rw [h.kp _ hx' (fun k hk => (hw.ds i (p + k) (by omega) (by omega)).symm), hi.lv _ hx', if_pos (hw.un i hi'), walk_tail hw.ds hp he hip]; rfl
    · have := h.st (i - p) (by omega)
      rw [show p + (i - p) = i by omega] at this
      rw [this, walk_per hw.ds hp he (hw.lt hx hs) (by omega) hi']
  · rw [h.kp x hx' (fun k hk => hn (p + k) (by omega)), hi.lv x hx', hw.kp x hx' hn]
theorem CyI.done (hi : CyI nx nx.length fi lo) : lo = cyL nx := by
  apply List.ext_getElem (by rw [hi.ll, cyL_len])
  intro x h1 h2
  have hx : x < nx.length := by rw [← hi.ll]; exact h1
  rw [← at_eq 0 lo h1, ← at_eq 0 (cyL nx) h2, hi.lv x hx, if_neg (hi.cv x hx), cyL_at hx]
/-- The cycle's length, counted. -/
theorem cyc_ne (hw : CyW nx s n fi0 fi) (he : itF (nxF nx) n s = itF (nxF nx) p s) {m : Nat} (hm : m + 1 ≤ n - p) : (itF (nxF nx) (p + 1 + m) s = itF (nxF nx) p s ↔ m + 1 = n - p) := by
  constructor
  · intro e
    rcases Nat.lt_or_ge (p + 1 + m) n with g | g
    · exact absurd e.symm (hw.ds p (p + 1 + m) (by omega) g)
    · omega
  · intro e
    rw [show p + 1 + m = n by omega, he]
/-! ### depths -/
/-- How many steps it takes to a cycle, by a list. -/
def dpF (nx : List Int) (x : Nat) : Nat := dpN (nxF nx) nx.length x
/-- The most of the first s. -/
def mxD (nx : List Int) : Nat → Nat
  | 0 => 0
  | s + 1 => max (mxD nx s) (dpF nx s)
/-- What is told of depths, o more each (o - 1 where nothing is told). -/
def DpI (nx : List Int) (o : Int) (dp : List Int) : Prop := dp.length = nx.length ∧ ∀ x : Nat, x < nx.length → at_ 0 dp (x : Int) = o - 1 ∨ (at_ 0 dp (x : Int) = (dpF nx x : Int) + o ∧ perN (nxF nx) nx.length x = 0)
theorem at_replX {m x : Nat} {y : Int} (h : x < m) : at_ 0 (List.replicate m y) (x : Int) = y := by rw [at_eq 0 _ (by simpa using h)]; simp
theorem DpI.start {m : Nat} {o y : Int} (hm : m = nx.length) (hy : y = o - 1) : DpI nx o (List.replicate m y) := by
  subst hm hy; exact ⟨by simp, fun x hx => .inl (at_replX hx)⟩
theorem dpF_lt (hx : nxP nx) {x : Nat} (h : x < nx.length) : dpF nx x < nx.length := (dpN_spec (nxF_lt hx) h).1
theorem mxD_le (hx : nxP nx) : ∀ {s : Nat}, s ≤ nx.length → mxD nx s ≤ nx.length
  | 0, _ => Nat.zero_le _
  | s + 1, h => by
    have h1 := mxD_le hx (s := s) (by omega)
    have h2 := dpF_lt hx (x := s) (by omega)
    unfold mxD
    omega
theorem mxD_succ {s : Nat} : ((mxD nx (s + 1) : Nat) : Int) = max ((mxD nx s : Nat) : Int) ((dpF nx s : Nat) : Int) := by
  show ((max (mxD nx s) (dpF nx s) : Nat) : Int) = _
  omega
theorem dpF_zero {x : Nat} (hx : x < nx.length) (h : perN (nxF nx) nx.length x ≠ 0) : dpF nx x = 0 := dpN_zero hx h
theorem dpF_walk (hx : nxP nx) (hs : s < nx.length) {j : Nat} (h : ∀ i, i < j → perN (nxF nx) nx.length (itF (nxF nx) i s) = 0) : dpF nx s = dpF nx (itF (nxF nx) j s) + j := dpN_walk (nxF_lt hx) hs h
theorem dpF_back (hx : nxP nx) (hs : s < nx.length) (h : ∀ i, i < n → perN (nxF nx) nx.length (itF (nxF nx) i s) = 0) {t : Nat} (ht : t < n) : dpF nx (itF (nxF nx) (n - 1 - t) s) = dpF nx (itF (nxF nx) n s) + t + 1 := by
  have h1 := dpF_walk hx hs h
  have h2 := dpF_walk hx hs (j := n - 1 - t) (fun i hi => h i (by omega))
  omega
theorem DpI.next {o : Int} (hx : nxP nx) (hs : s < nx.length) (h : ∀ i, i < n → perN (nxF nx) nx.length (itF (nxF nx) i s) = 0) {t : Nat} (ht : t < n) (hd : DpI nx o dp) {i : Nat} {y : Int} (hi : i = itF (nxF nx) (n - 1 - t) s) (hy : y = (dpF nx (itF (nxF nx) n s) : Int) + (t : Int) + 1 + o) : DpI nx o (dp.set i y) := by
  subst hi hy
  have hlt := itF_lt (nxF_lt hx) hs (n - 1 - t)
  refine ⟨by rw [List.length_set, hd.1], fun x hx' => ?_⟩
  rw [at_setI (by rw [hd.1]; exact hlt)]
  by_cases e : itF (nxF nx) (n - 1 - t) s = x
  · subst e
    rw [if_pos rfl]
    refine .inr ⟨?_, h _ (by omega)⟩
    rw [dpF_back hx hs h ht]; omega
  · rw [if_neg e]; exact hd.2 x hx'
/-- The path of a walk. -/
def pthL (nx : List Int) (s n : Nat) : List Int := (List.range n).map fun j => ((itF (nxF nx) j s : Nat) : Int)
theorem pthL_len : (pthL nx s n).length = n := by simp [pthL]
theorem pthL_succ : pthL nx s n ++ [((itF (nxF nx) n s : Nat) : Int)] = pthL nx s (n + 1) := by simp [pthL, List.range_succ]
theorem pthL_at {j : Nat} (h : j < n) : at_ 0 (pthL nx s n) (j : Int) = ((itF (nxF nx) j s : Nat) : Int) := by
  rw [at_eq 0 _ (by rw [pthL_len]; exact h)]; simp [pthL]
theorem path_succ (h : ∀ i, i < n → perN (nxF nx) nx.length (itF (nxF nx) i s) = 0) (h1 : perN (nxF nx) nx.length (itF (nxF nx) n s) = 0) : ∀ i, i < n + 1 → perN (nxF nx) nx.length (itF (nxF nx) i s) = 0 := fun i hi => by
  by_cases e : i = n
  · subst e; exact h1
  · exact h i (by omega)
theorem path_lt (hx : nxP nx) (hs : s < nx.length) (h : ∀ i, i < n → perN (nxF nx) nx.length (itF (nxF nx) i s) = 0) : n < nx.length := by
  have h1 := dpF_walk hx hs h
  have h2 := dpF_lt hx hs
  omega
end
end Go.Proofs.Ythmdmbbdjbhcoaa
/- Slices whose elements have some cells each: what is read, what is owned. -/
namespace Go.Proofs.Ythmdmbbdjbhcoaa.HL
theorem add_add (a : Addr) (x y : Nat) : (a.add x).add y = a.add (x + y) := by
  unfold Addr.add
  by_cases hx : x = 0
  · subst hx; simp
  · by_cases hy : y = 0
    · subst hy; simp
    · rw [if_neg hx, if_neg hy, if_neg (by omega)]; simp [Nat.add_assoc]
theorem add_block (a : Addr) (x : Nat) : (a.add x).block = a.block := by unfold Addr.add; split <;> rfl
section
variable {α : Type} {enc : α → List Value} {n : Nat} {H H' : Hp} {u v : Value} {l m : List α}
theorem flat_len (hn : ∀ x, (enc x).length = n) : ∀ l : List α, (l.flatMap enc).length = l.length * n
  | [] => by simp
  | x :: r => by rw [List.flatMap_cons, List.length_append, hn, flat_len hn r, List.length_cons, Nat.add_mul, Nat.one_mul]; omega
theorem flat_get (hn : ∀ x, (enc x).length = n) : ∀ (l : List α) (i j : Nat) (h : i < l.length), j < n → (l.flatMap enc)[i * n + j]? = (enc l[i])[j]?
  | x :: r, 0, j, h, hj => by rw [List.flatMap_cons, Nat.zero_mul, Nat.zero_add, List.getElem?_append_left (by rw [hn]; exact hj)]; rfl
  | x :: r, i + 1, j, h, hj => by
    rw [List.flatMap_cons, List.getElem?_append_right (by rw [hn, Nat.add_mul]; omega), hn, show (i + 1) * n + j - n = i * n + j by rw [Nat.add_mul]; omega, flat_get hn r i j (by simpa using h) hj]
    rfl
theorem flat_ix {i j N : Nat} (h : i < N) (hj : j < n) : i * n + j < N * n := by
  have := Nat.mul_le_mul_right n (show i + 1 ≤ N by omega)
  rw [Nat.add_mul] at this; omega
/-- A slice of elements of n cells that reads so. -/
def SlE (n : Nat) (enc : α → List Value) (H : Hp) (v : Value) (l : List α) : Prop :=
  ∃ a c, v = .slice a l.length c ∧ l.length ≤ c ∧ ∀ t (h : t < (l.flatMap enc).length), ∃ ad, a = some ad ∧ H.cell? (ad.add t) = some (l.flatMap enc)[t]
/-- One whose block is known whole, and may be written. -/
def OwnE (n : Nat) (enc : α → List Value) (H : Hp) (v : Value) (l : List α) : Prop :=
  ∃ a c, v = .slice a l.length c ∧ l.length ≤ c ∧ (0 < c → ∃ b off cs e, a = some ⟨b, off, none⟩ ∧ H b = some (.cells cs e (0, 0)) ∧ off + c * n ≤ cs.size ∧ ∀ t (h : t < (l.flatMap enc).length), cs[off + t]? = some (l.flatMap enc)[t])
/-- The pointer to an element. -/
def ptrE (n : Nat) (v : Value) (i : Int) : Value := match v with | .slice (some a) _ _ => .pointer (some (a.add (i.toNat * n))) | _ => undef
theorem SlE.le (h : SlE n enc H v l) (hl : Le H H') : SlE n enc H' v l := by
  obtain ⟨a, c, rfl, hc, hr⟩ := h
  exact ⟨a, c, rfl, hc, fun i hi => by obtain ⟨ad, e, hh⟩ := hr i hi; exact ⟨ad, e, hl.cell hh⟩⟩
theorem SlE.len (h : SlE n enc H v l) : vLenSl v = some (.int .i64 l.length) := by
  obtain ⟨a, c, rfl, hc, hr⟩ := h; rfl
theorem SlE.base (h : SlE n enc H v l) (hn : ∀ x, (enc x).length = n) (n0 : 0 < n) {i : Nat} (hi : i < l.length) : ∃ a c, v = .slice (some a) l.length c ∧ ∀ j (hj : j < n), H.cell? (a.add (i * n + j)) = (enc l[i])[j]? := by
  obtain ⟨a, c, rfl, hc, hr⟩ := h
  have hb := flat_ix (n := n) hi n0
  obtain ⟨ad, rfl, _⟩ := hr (i * n + 0) (by rw [flat_len hn]; exact hb)
  refine ⟨ad, c, rfl, fun j hj => ?_⟩
  have hk := flat_ix (n := n) hi hj
  obtain ⟨ad', e, hh⟩ := hr (i * n + j) (by rw [flat_len hn]; exact hk)
  cases e
  rw [hh, ← flat_get hn l i j hi hj, List.getElem?_eq_getElem]
theorem SlE.ix (h : SlE n enc H v l) (hn : ∀ x, (enc x).length = n) (n0 : 0 < n) {k : IntKind} {i : Int} (h0 : 0 ≤ i) (h1 : i < l.length) : vIx n v (.int k i) = some (ptrE n v i) := by
  obtain ⟨a, c, rfl, _⟩ := h.base hn n0 (i := i.toNat) (by omega)
  simp only [vIx, ptrE]
  rw [if_pos ⟨h0, by simpa using h1⟩]
theorem SlE.ldn (h : SlE n enc H v l) (hn : ∀ x, (enc x).length = n) (n0 : 0 < n) (d : α) {i : Int} (h0 : 0 ≤ i) (h1 : i < l.length) : vLoadN n (ptrE n v i) H = some (.agg (enc (at_ d l i)).toArray) := by
  have hi : i.toNat < l.length := by omega
  obtain ⟨a, c, rfl, hr⟩ := h.base hn n0 hi
  have e : at_ d l i = l[i.toNat] := by unfold at_; rw [List.getD_eq_getElem?_getD, List.getElem?_eq_getElem hi]; rfl
  simp only [vLoadN, ptrE]
  rw [rd_cells (enc := id) _ n 0 (enc l[i.toNat]) (hn _) (fun j hj => by
    rw [add_add, Nat.zero_add, hr j (by rw [hn] at hj; exact hj), List.getElem?_eq_getElem hj]; rfl), e]
  simp
theorem SlE.fa (h : SlE n enc H v l) (hn : ∀ x, (enc x).length = n) (n0 : 0 < n) {i : Int} (h0 : 0 ≤ i) (h1 : i < l.length) (k : Nat) : vFa k (ptrE n v i) = some (fp (ptrE n v i) k) := by
  obtain ⟨a, c, rfl, _⟩ := h.base hn n0 (i := i.toNat) (by omega)
  rfl
theorem SlE.nilC (h : SlE n enc H v l) (hn : ∀ x, (enc x).length = n) (n0 : 0 < n) {i : Int} (h0 : 0 ≤ i) (h1 : i < l.length) : vNilC (ptrE n v i) = some (ptrE n v i) := by
  obtain ⟨a, c, rfl, _⟩ := h.base hn n0 (i := i.toNat) (by omega)
  rfl
theorem SlE.ld (h : SlE n enc H v l) (hn : ∀ x, (enc x).length = n) (n0 : 0 < n) (d : α) {i : Int} (h0 : 0 ≤ i) (h1 : i < l.length) {k : Nat} (hk : k < n) {x : Value} (hx : (enc (at_ d l i))[k]? = some x) : vLoad (fp (ptrE n v i) k) H = some x := by
  have hi : i.toNat < l.length := by omega
  obtain ⟨a, c, rfl, hr⟩ := h.base hn n0 hi
  have e : at_ d l i = l[i.toNat] := by unfold at_; rw [List.getD_eq_getElem?_getD, List.getElem?_eq_getElem hi]; rfl
  simp only [vLoad, fp, ptrE, add_add]
  rw [hr k hk, ← e, hx]
theorem SlE.firstC (h : SlE n enc H v l) (hn : ∀ x, (enc x).length = n) : firstC H n l.length v = some (l.flatMap enc) := by
  obtain ⟨a, c, rfl, hc, hr⟩ := h
  by_cases h0 : (l.flatMap enc).length = 0
  · have e : l.flatMap enc = [] := List.length_eq_zero_iff.mp h0
    have e2 : l.length * n = 0 := by rw [← flat_len hn]; exact h0
    cases a with
    | none => rw [e]; rfl
    | some ad => simp only [HL.firstC, e2, e]; rfl
  · obtain ⟨ad, rfl, _⟩ := hr 0 (by omega)
    simp only [HL.firstC]
    have := rd_cells (H := H) (enc := id) ad (l.length * n) 0 (l.flatMap enc) (flat_len hn l) (fun i hi => by obtain ⟨ad', e, hh⟩ := hr i hi; cases e; simpa using hh)
    rw [this]; simp
theorem SlE.lenO (h : SlE n enc H v l) : lenO v = some l.length := by
  obtain ⟨a, c, rfl, hc, hr⟩ := h; rfl
theorem OwnE.len (h : OwnE n enc H v l) : vLenSl v = some (.int .i64 l.length) := by
  obtain ⟨a, c, rfl, hc, hr⟩ := h; rfl
theorem OwnE.sl (h : OwnE n enc H v l) (hn : ∀ x, (enc x).length = n) : SlE n enc H v l := by
  obtain ⟨a, c, rfl, hc, hr⟩ := h
  refine ⟨a, c, rfl, hc, fun i hi => ?_⟩
  have h1 := flat_len hn l
  have hc0 : 0 < c := by
    rcases Nat.eq_zero_or_pos c with h | h
    · have : l.length = 0 := by omega
      rw [this, Nat.zero_mul] at h1; omega
    · exact h
  obtain ⟨b, off, cs, e, rfl, hb, hs, hcs⟩ := hr hc0
  exact ⟨_, rfl, by simp only [Hp.cell?, add_none, hb, hcs i hi]; rfl⟩
theorem OwnE.off (h : OwnE n enc H u l) (ho : Off v H H') (ha : Apart u v) : OwnE n enc H' u l := by
  obtain ⟨a, c, rfl, hc, hr⟩ := h
  refine ⟨a, c, rfl, hc, fun h0 => ?_⟩
  obtain ⟨b, off, cs, e, rfl, hb, hs, hcs⟩ := hr h0
  refine ⟨b, off, cs, e, rfl, ho b _ hb (ha b ?_), hs, hcs⟩
  simp only [bk]
  rw [if_neg (by omega)]
theorem OwnE.le (h : OwnE n enc H u l) (hl : Le H H') : OwnE n enc H' u l := by
  obtain ⟨a, c, rfl, hc, hr⟩ := h
  refine ⟨a, c, rfl, hc, fun h0 => ?_⟩
  obtain ⟨b, off, cs, e, rfl, hb, hs, hcs⟩ := hr h0
  exact ⟨b, off, cs, e, rfl, hl b _ hb, hs, hcs⟩
theorem OwnE.known (h : OwnE n enc H u l) : ∀ b, bk u = some b → ∃ o, H b = some o := by
  obtain ⟨a, c, rfl, hc, hr⟩ := h
  intro b hb
  cases a with
  | none => simp [bk] at hb
  | some ad =>
    simp only [bk] at hb
    by_cases h0 : c = 0
    · rw [if_pos h0] at hb; simp at hb
    · rw [if_neg h0] at hb
      obtain ⟨b', off, cs, e, he, hbb, _⟩ := hr (by omega)
      simp only [Option.some.injEq] at hb he
      subst he
      simp only at hb
      subst hb
      exact ⟨_, hbb⟩
theorem OwnE.apart (h : OwnE n enc H u l) (hn : Nw H v) : Apart u v := Apart.of_nw h.known hn
theorem OwnE.one (h : OwnE n enc H v l) : oneCell v = true := by
  obtain ⟨a, c, rfl, _⟩ := h; rfl
theorem OwnE.cells (h : OwnE n enc H v l) : v.cells = #[v] := by
  obtain ⟨a, c, rfl, _⟩ := h; rfl
theorem OwnE.isSl (h : OwnE n enc H v l) : ∃ a n c, v = .slice a n c := by
  obtain ⟨a, c, h, _⟩ := h; exact ⟨_, _, _, h⟩
theorem OwnE.cast {l' : List α} (e : l = l') (h : OwnE n enc H v l) : OwnE n enc H v l' := e ▸ h
theorem OwnE.nil_of (a : Option Addr) : OwnE n enc H (.slice a 0 0) ([] : List α) := ⟨a, 0, rfl, by simp, fun h0 => absurd h0 (by simp)⟩
theorem SlE.nil (c : Nat) (a : Option Addr) : SlE n enc H (.slice a 0 c) ([] : List α) := ⟨a, c, rfl, by simp, fun i hi => absurd hi (by simp)⟩
theorem SlE.one (h : SlE n enc H v l) : oneCell v = true := by
  obtain ⟨a, c, rfl, _⟩ := h; rfl
theorem SlE.cells (h : SlE n enc H v l) : v.cells = #[v] := by
  obtain ⟨a, c, rfl, _⟩ := h; rfl
theorem SlE.cast {l' : List α} (e : l = l') (h : SlE n enc H v l) : SlE n enc H v l' := e ▸ h
/-- An append. -/
theorem OwnE.apd {bytes : Nat} {z : Array Value} {e : TypeId} {w : Value} {K : Value → Hp → Prop} (h : OwnE n enc H v l) (hn : ∀ x, (enc x).length = n) (hz : z.size = n) (hm : SlE n enc H w m) (ho : ∀ x ∈ m, ∀ y ∈ enc x, oneCell y = true)
    (hb : bytes ≤ 64) (hlm : l.length + m.length ≤ 68719476736)
    (hk : ∀ v' H', OwnE n enc H' v' (l ++ m) → Off v H H' → (∀ b, bk v' = some b → bk v = some b ∨ H b = none) → K v' H') : apd n bytes z e v w H K := by
  have hmf := hm.firstC hn
  have hml := hm.lenO
  have hlf := (h.sl hn).firstC hn
  have fl := flat_len hn l
  have fm := flat_len hn m
  have hap : (l ++ m).flatMap enc = l.flatMap enc ++ m.flatMap enc := List.flatMap_append
  obtain ⟨a, c, rfl, hlc, hr⟩ := h
  simp only [HL.apd, hml]
  by_cases hcap : l.length + m.length ≤ c
  · rw [if_pos hcap]
    simp only [hmf]
    by_cases hc0 : c = 0
    · have hl : l = [] := List.length_eq_zero_iff.mp (by omega)
      have hm' : m = [] := List.length_eq_zero_iff.mp (by omega)
      subst hl hm' hc0
      have : K (.slice a (([] : List α).length + ([] : List α).length) 0) H := hk _ H ⟨a, 0, rfl, by simp, fun h0 => absurd h0 (by simp)⟩ (fun b o hb _ => hb) (fun b hb => by cases a <;> simp [bk] at hb)
      cases a with
      | none => exact this
      | some ad => exact this
    · obtain ⟨b, off, cs, e', rfl, hbb, hs, hcs⟩ := hr (by omega)
      have hmul : (l.length + m.length) * n ≤ c * n := Nat.mul_le_mul_right n hcap
      rw [Nat.add_mul] at hmul
      simp only [add_none]
      refine stC_run (b := b) (e := e') (m.flatMap enc) _ 0 cs H rfl rfl hbb (by simp only [Nat.add_zero]; omega) (fun x hx => by
        obtain ⟨y, hy, hxy⟩ := List.mem_flatMap.mp hx; exact ho y hy x hxy) ?_
      intro H' cs' h1 h2 h3 h4 h5
      simp only [Nat.add_zero] at h3 h4
      refine hk _ H' ⟨some ⟨b, off, none⟩, c, by simp, by simpa using hcap, fun _ => ⟨b, off, cs', e', rfl, h1, by omega, ?_⟩⟩ ?_ ?_
      · simp only [hap]
        intro t ht
        rw [List.length_append] at ht
        by_cases htl : t < (l.flatMap enc).length
        · rw [h3 _ (by omega), hcs t htl, List.getElem_append_left htl]
        · have := h4 (t - (l.flatMap enc).length) (by omega)
          rw [show off + l.length * n + (t - (l.flatMap enc).length) = off + t by omega] at this
          rw [this, List.getElem_append_right (by omega)]
      · intro x o hx hne
        simp only [bk, if_neg hc0] at hne
        rw [h5 x (by rintro rfl; exact hne rfl)]; exact hx
      · intro x hx
        left; exact hx
  · rw [if_neg hcap]
    refine ⟨by omega, ?_, ?_⟩
    · have := nsc_le (n := l.length + m.length) (c := c) (by omega)
      exact Nat.le_trans (Nat.mul_le_mul this hb) (by omega)
    simp only [hlf, hmf]
    intro c' hc1 hc2 r hr'
    have hmul : (l.length + m.length) * n ≤ c' * n := Nat.mul_le_mul_right n hc1
    have hsub : (c' - (l.length + m.length)) * n = c' * n - (l.length + m.length) * n := Nat.sub_mul _ _ _
    rw [Nat.add_mul] at hmul hsub
    refine hk _ _ ⟨some ⟨r, 0, none⟩, c', by simp, by simpa using hc1, fun _ => ⟨r, 0, _, e, rfl, Hp.put_same _ _ _, ?_, ?_⟩⟩ ?_ ?_
    · have : (Builtin.zeroCells z (c' - (l.length + m.length))).size = (c' - (l.length + m.length)) * n := by simp [Builtin.zeroCells, hz]
      simp only [Nat.zero_add, Array.size_append, List.size_toArray, this, fl, fm]; omega
    · simp only [hap]
      intro t ht
      rw [Nat.zero_add, Array.getElem?_append_left (by simpa using ht)]
      rw [← Array.getElem?_toList]
      simp only [Array.toList_append]
      rw [List.getElem?_eq_getElem ht]
    · intro x o hx _
      rw [Hp.put_ne _ _ (by rintro rfl; rw [hr'] at hx; exact absurd hx (by simp))]; exact hx
    · intro x hx
      right
      simp only [bk] at hx
      split at hx
      · simp at hx
      · simp only [Option.some.injEq] at hx; subst hx; exact hr'
end
end Go.Proofs.Ythmdmbbdjbhcoaa.HL
/- Fields in slices: one of them. -/
namespace Go.Proofs.Ythmdmbbdjbhcoaa
open HL
/-- A field as it lies in cells. -/
structure Fv where
  r : Int
  c : Int
  v : Value
def encFv (x : Fv) : List Value := [.int .i64 x.r, .int .i64 x.c, x.v]
theorem encFv_n (x : Fv) : (encFv x).length = 3 := rfl
end Go.Proofs.Ythmdmbbdjbhcoaa
/- Slices of fields whose cells are owned. -/
namespace Go.Proofs.Ythmdmbbdjbhcoaa
open HL
set_option maxRecDepth 100000
namespace HL
/-- What has blocks: a slice or a pointer, or a set of blocks. -/
class Bks (α : Type) where inb : α → Nat → Prop
instance instBV : Bks Value := ⟨fun v b => bk v = some b⟩
def Rg : Type := Nat → Prop
instance instBR : Bks Rg := ⟨fun S b => S b⟩
def Apt {α β : Type} [Bks α] [Bks β] (u : α) (v : β) : Prop := ∀ b, Bks.inb u b → ¬ Bks.inb v b
def Kn {α : Type} [Bks α] (H : Hp) (u : α) : Prop := ∀ b, Bks.inb u b → ∃ o, H b = some o
def Nws (H : Hp) (S : Rg) : Prop := ∀ b, S b → H b = none
def OffS (S : Rg) (H H' : Hp) : Prop := ∀ b o, H b = some o → ¬ S b → H' b = some o
section
variable {α β : Type} [Bks α] [Bks β] {u : α} {v : β} {H H' : Hp} {S : Rg}
theorem Apt.symm (h : Apt u v) : Apt v u := fun b h1 h2 => h b h2 h1
theorem Apt.of_nws (hu : Kn H u) (hn : Nws H S) : Apt u S := fun b h1 h2 => by
  obtain ⟨o, ho⟩ := hu b h1
  rw [hn b h2] at ho; exact absurd ho (by simp)
theorem Apt.of_nw {w : Value} (hu : Kn H u) (hn : Nw H w) : Apt u w := fun b h1 h2 => by
  obtain ⟨o, ho⟩ := hu b h1
  rw [hn b h2] at ho; exact absurd ho (by simp)
theorem Nws.le (h : Nws H' S) (hl : Le H H') : Nws H S := fun b hb => by
  cases ho : H b with
  | none => rfl
  | some o => have := hl b o ho; rw [h b hb] at this; exact absurd this (by simp)
theorem OffS.le {H0 : Hp} (h : OffS S H H') (hl : Le H0 H) (hn : Nws H0 S) : Le H0 H' := fun b o hb =>
  h b o (hl b o hb) (fun e => by rw [hn b e] at hb; exact absurd hb (by simp))
theorem OffS.trans {A B C : Hp} (h : OffS S A B) (h' : OffS S B C) : OffS S A C := fun b o hb hv => h' b o (h b o hb hv) hv
theorem OffS.of_le (h : Le H H') : OffS S H H' := fun b o hb _ => h b o hb
/-- What has no block of a set stays. -/
theorem OffS.off {w x : Value} (h : OffS S H H') (ha : Apt w S) : ∀ b o, bk w = some b → H b = some o → H' b = some o := fun b o hb ho => h b o ho (ha b hb)
end
theorem Own.offS {α : Type} {enc : α → Value} {H H' : Hp} {u : Value} {l : List α} {S : Rg} (h : Own enc H u l) (ho : OffS S H H') (ha : Apt u S) : Own enc H' u l := by
  obtain ⟨a, c, rfl, hc, hr⟩ := h
  refine ⟨a, c, rfl, hc, fun h0 => ?_⟩
  obtain ⟨b, off, cs, e, rfl, hb, hs, hcs⟩ := hr h0
  refine ⟨b, off, cs, e, rfl, ho b _ hb (ha b ?_), hs, hcs⟩
  show bk _ = some b
  simp only [bk]
  rw [if_neg (by omega)]
theorem Cel.offS {H H' : Hp} {p : Value} {cs : List Value} {S : Rg} (h : Cel H p cs) (ho : OffS S H H') (ha : Apt p S) : Cel H' p cs := by
  obtain ⟨r, e, rfl, hr⟩ := h
  exact ⟨r, e, rfl, ho r _ hr (ha r rfl)⟩
theorem Ro.offS {α : Type} {enc : α → Value} {H H' : Hp} {u : Value} {l : List α} {S : Rg} (h : Ro enc H u l) (ho : OffS S H H') (ha : Apt u S) : Ro enc H' u l := by
  obtain ⟨⟨a, c, rfl, hc, hr⟩, hk⟩ := h
  have key : ∀ b, bk (.slice a l.length c) = some b → H' b = H b := fun b hb => by
    obtain ⟨o, hbo⟩ := hk b hb
    rw [ho b o hbo (ha b hb), hbo]
  refine ⟨⟨a, c, rfl, hc, fun i hi => ?_⟩, fun b hb => by rw [key b hb]; exact hk b hb⟩
  obtain ⟨ad, rfl, hh⟩ := hr i hi
  refine ⟨ad, rfl, ?_⟩
  have e : H' (ad.add i).block = H (ad.add i).block := by
    rw [add_block]
    exact key _ (by simp only [bk]; rw [if_neg (by omega)])
  unfold Hp.cell? at hh ⊢
  rw [e]; exact hh
/-- A field. -/
structure FdL where
  r : Int
  c : Int
  l : List Int
  deriving DecidableEq
def RelF (P : Value → List Int → Prop) : List Fv → List FdL → Prop
  | [], [] => True
  | x :: L, f :: fs => (x.r = f.r ∧ x.c = f.c ∧ P x.v f.l) ∧ RelF P L fs
  | _, _ => False
section
variable {P Q : Value → List Int → Prop}
theorem RelF.len : ∀ {L : List Fv} {fs : List FdL}, RelF P L fs → L.length = fs.length
  | [], [], _ => rfl
  | x :: L, f :: fs, h => congrArg (· + 1) (RelF.len h.2)
  | [], _ :: _, h => h.elim
  | _ :: _, [], h => h.elim
theorem RelF.imp : ∀ {L : List Fv} {fs : List FdL}, RelF P L fs → (∀ x ∈ L, ∀ l, P x.v l → Q x.v l) → RelF Q L fs
  | [], [], _, _ => trivial
  | x :: L, f :: fs, h, g => ⟨⟨h.1.1, h.1.2.1, g x (by simp) _ h.1.2.2⟩, RelF.imp h.2 (fun y hy => g y (by simp [hy]))⟩
  | [], _ :: _, h, _ => h.elim
  | _ :: _, [], h, _ => h.elim
theorem RelF.app : ∀ {L M : List Fv} {fs gs : List FdL}, RelF P L fs → RelF P M gs → RelF P (L ++ M) (fs ++ gs)
  | [], M, [], gs, _, h => h
  | x :: L, M, f :: fs, gs, h1, h2 => ⟨h1.1, RelF.app h1.2 h2⟩
  | [], _, _ :: _, _, h, _ => h.elim
  | _ :: _, _, [], _, h, _ => h.elim
end
/-- A slice of fields, whose blocks and those of its fields are owned. -/
def Fam (H : Hp) (v : Value) (S : Rg) (fs : List FdL) : Prop :=
  ∃ L, OwnE 3 encFv H v L ∧ RelF (Own eI H) L fs ∧ (∀ x ∈ L, Apart v x.v) ∧ L.Pairwise (fun x y => Apart x.v y.v) ∧ ∀ b, S b ↔ (bk v = some b ∨ ∃ x ∈ L, bk x.v = some b)
theorem RelF.mem {P : Value → List Int → Prop} : ∀ {L : List Fv} {fs : List FdL}, RelF P L fs → ∀ x ∈ L, ∃ l, P x.v l
  | [], [], _ => by simp
  | x :: L, f :: fs, h => fun y hy => by
    rcases List.mem_cons.mp hy with rfl | hy
    · exact ⟨_, h.1.2.2⟩
    · exact RelF.mem h.2 y hy
  | [], _ :: _, h => h.elim
  | _ :: _, [], h => h.elim
section
variable {H H' : Hp} {v : Value} {S : Rg} {fs : List FdL}
theorem Fam.known (h : Fam H v S fs) : Kn H S := by
  obtain ⟨L, h1, h2, h3, h4, h5⟩ := h
  intro b hb
  rcases (h5 b).mp hb with e | ⟨x, hx, e⟩
  · exact h1.known b e
  · obtain ⟨l, hl⟩ := h2.mem x hx
    exact hl.known b e
theorem Fam.le (h : Fam H v S fs) (hl : Le H H') : Fam H' v S fs := by
  obtain ⟨L, h1, h2, h3, h4, h5⟩ := h
  exact ⟨L, h1.le hl, h2.imp (fun _ _ _ h => h.le hl), h3, h4, h5⟩
theorem Fam.off {w : Value} (h : Fam H v S fs) (ho : Off w H H') (ha : Apt S w) : Fam H' v S fs := by
  obtain ⟨L, h1, h2, h3, h4, h5⟩ := h
  exact ⟨L, h1.off ho (fun b hb => ha b ((h5 b).mpr (.inl hb))), h2.imp (fun x hx _ h => h.off ho (fun b hb => ha b ((h5 b).mpr (.inr ⟨x, hx, hb⟩)))), h3, h4, h5⟩
theorem OwnE.offS {n : Nat} {α : Type} {enc : α → List Value} {u : Value} {l : List α} (h : OwnE n enc H u l) (ho : OffS S H H') (ha : Apt u S) : OwnE n enc H' u l := by
  obtain ⟨a, c, rfl, hc, hr⟩ := h
  refine ⟨a, c, rfl, hc, fun h0 => ?_⟩
  obtain ⟨b, off, cs, e, rfl, hb, hs, hcs⟩ := hr h0
  refine ⟨b, off, cs, e, rfl, ho b _ hb (ha b ?_), hs, hcs⟩
  show bk _ = some b
  simp only [bk]
  rw [if_neg (by omega)]
theorem Fam.offS {T : Rg} (h : Fam H v S fs) (ho : OffS T H H') (ha : Apt S T) : Fam H' v S fs := by
  obtain ⟨L, h1, h2, h3, h4, h5⟩ := h
  exact ⟨L, h1.offS ho (fun b hb => ha b ((h5 b).mpr (.inl hb))), h2.imp (fun x hx _ h => h.offS ho (fun b hb => ha b ((h5 b).mpr (.inr ⟨x, hx, hb⟩)))), h3, h4, h5⟩
theorem Fam.len (h : Fam H v S fs) : vLenSl v = some (.int .i64 fs.length) := by
  obtain ⟨L, h1, h2, _⟩ := h
  rw [h1.len, h2.len]
theorem Fam.one (h : Fam H v S fs) : oneCell v = true := by obtain ⟨L, h1, _⟩ := h; exact h1.one
theorem Fam.cells (h : Fam H v S fs) : v.cells = #[v] := by obtain ⟨L, h1, _⟩ := h; exact h1.cells
theorem Fam.isSl (h : Fam H v S fs) : ∃ a n c, v = .slice a n c := by obtain ⟨L, h1, _⟩ := h; exact h1.isSl
theorem Fam.cast {gs : List FdL} (e : fs = gs) (h : Fam H v S fs) : Fam H v S gs := e ▸ h
theorem Fam.nil_of (a : Option Addr) : Fam H (.slice a 0 0) (fun _ => False) [] :=
  ⟨[], OwnE.nil_of a, trivial, by simp, List.Pairwise.nil, fun b => ⟨fun h => h.elim, fun h => by
    rcases h with h | ⟨x, hx, _⟩
    · cases a <;> simp [bk] at h
    · simp at hx⟩⟩
/-- One more. -/
theorem Fam.push {bytes : Nat} {z : Array Value} {e : TypeId} {w x : Value} {r c : Int} {l : List Int} {K : Value → Hp → Prop} (h : Fam H v S fs) (hz : z.size = 3) (hw : SlE 3 encFv H w [⟨r, c, x⟩]) (hx : Own eI H x l) (ax : Apt x S)
    (hb : bytes ≤ 64) (hl : fs.length < 1000000)
    (hk : ∀ v' S' H', Fam H' v' S' (fs ++ [⟨r, c, l⟩]) → OffS S H H' → (∀ b, S' b → S b ∨ bk x = some b ∨ H b = none) → (∀ b, bk x = some b → S' b) → Own eI H' x l → K v' H') : apd 3 bytes z e v w H K := by
  obtain ⟨L, h1, h2, h3, h4, h5⟩ := h
  have hlen := h2.len
  have axv : Apart x v := fun b hb hv => ax b hb ((h5 b).mpr (.inl hv))
  refine OwnE.apd h1 encFv_n hz hw (fun y hy t ht => ?_) hb (by simp; omega) (fun v' H' ov off hb' => ?_)
  · simp only [List.mem_singleton] at hy
    subst hy
    simp only [encFv, List.mem_cons, List.not_mem_nil, or_false] at ht
    rcases ht with rfl | rfl | rfl
    · rfl
    · rfl
    · exact hx.one
  have ax' : ∀ y ∈ L, Apart v' y.v := fun y hy b e1 e2 => by
    rcases hb' b e1 with e3 | e3
    · exact h3 y hy b e3 e2
    · obtain ⟨m, hm⟩ := h2.mem y hy
      obtain ⟨o, ho⟩ := hm.known b e2
      rw [e3] at ho; simp at ho
  have axx : Apart v' x := fun b e1 e2 => by
    rcases hb' b e1 with e3 | e3
    · exact axv b e2 e3
    · obtain ⟨o, ho⟩ := hx.known b e2
      rw [e3] at ho; simp at ho
  have hx' := hx.off off axv
  refine hk v' (fun b => bk v' = some b ∨ ∃ y ∈ L ++ [⟨r, c, x⟩], bk y.v = some b) H' ⟨_, ov, ?_, ?_, ?_, fun b => Iff.rfl⟩ (fun b o hbo hn => off b o hbo (fun e => hn ((h5 b).mpr (.inl e)))) ?_ (fun b hb => .inr ⟨⟨r, c, x⟩, by simp, hb⟩) hx'
  · exact (h2.imp (fun y hy m h => h.off off (h3 y hy).symm)).app ⟨⟨rfl, rfl, hx'⟩, trivial⟩
  · intro y hy
    rcases List.mem_append.mp hy with hy | hy
    · exact ax' y hy
    · simp only [List.mem_singleton] at hy; subst hy; exact axx
  · rw [List.pairwise_append]
    refine ⟨h4, List.pairwise_singleton _ _, fun y hy t ht => ?_⟩
    simp only [List.mem_singleton] at ht
    subst ht
    exact fun b e1 e2 => ax b e2 ((h5 b).mpr (.inr ⟨y, hy, e1⟩))
  · intro b hb
    rcases hb with hb | ⟨y, hy, e⟩
    · rcases hb' b hb with e3 | e3
      · exact .inl ((h5 b).mpr (.inl e3))
      · exact .inr (.inr e3)
    · rcases List.mem_append.mp hy with hy | hy
      · exact .inl ((h5 b).mpr (.inr ⟨y, hy, e⟩))
      · simp only [List.mem_singleton] at hy; subst hy; exact .inr (.inl e)
/-- Apart from what was pushed to. -/
theorem Apt.push {α : Type} [Bks α] {u : α} {S' : Rg} {x : Value} (hu : Kn H u) (hS : Apt u S) (hx : Apt u x) (hb : ∀ b, S' b → S b ∨ bk x = some b ∨ H b = none) : Apt u S' := fun b h1 h2 => by
  rcases hb b h2 with h | h | h
  · exact hS b h1 h
  · exact hx b h1 h
  · obtain ⟨o, ho⟩ := hu b h1
    rw [h] at ho; simp at ho
theorem Nws.push {H0 : Hp} {S' : Rg} {x : Value} (hl : Le H0 H) (hS : Nws H0 S) (hx : Nw H0 x) (hb : ∀ b, S' b → S b ∨ bk x = some b ∨ H b = none) : Nws H0 S' := fun b h2 => by
  rcases hb b h2 with h | h | h
  · exact hS b h
  · exact hx b h
  · cases ho : H0 b with
    | none => rfl
    | some o => rw [hl b o ho] at h; simp at h
end
end HL
end Go.Proofs.Ythmdmbbdjbhcoaa
/- Maps that count numbers, and ranges over them. -/
namespace Go.Proofs.Ythmdmbbdjbhcoaa.HL
set_option maxRecDepth 100000
/-- Entries, told in the order in which they were born. -/
def mkE : Nat → List (Int × Int) → List MapEntry
  | _, [] => []
  | i, m :: ms => { key := .int .i64 m.1, val := .int .i64 m.2, born := i } :: mkE (i + 1) ms
theorem mkE_len : ∀ (ms : List (Int × Int)) (i : Nat), (mkE i ms).length = ms.length
  | [], _ => rfl
  | m :: ms, i => by simp [mkE, mkE_len ms]
theorem mkE_app : ∀ (ms ns : List (Int × Int)) (i : Nat), mkE i (ms ++ ns) = mkE i ms ++ mkE (i + ms.length) ns
  | [], ns, i => rfl
  | m :: ms, ns, i => by
    simp only [mkE, List.cons_append, mkE_app ms ns (i + 1), List.length_cons]
    rw [show i + 1 + ms.length = i + (ms.length + 1) by omega]
theorem mkE_get : ∀ (ms : List (Int × Int)) (i j : Nat), (mkE i ms)[j]? = (ms[j]?).map fun m => { key := .int .i64 m.1, val := .int .i64 m.2, born := i + j }
  | [], i, j => by simp [mkE]
  | m :: ms, i, 0 => by simp [mkE]
  | m :: ms, i, j + 1 => by
    simp only [mkE, List.getElem?_cons_succ, mkE_get ms (i + 1) j]
    rw [show i + 1 + j = i + (j + 1) by omega]
theorem mkE_mem {ms : List (Int × Int)} {e : MapEntry} (h : e ∈ mkE 0 ms) : ∃ j, ∃ hj : j < ms.length, e = { key := .int .i64 ms[j].1, val := .int .i64 ms[j].2, born := j } := by
  obtain ⟨j, hj, rfl⟩ := List.mem_iff_getElem.mp h
  have hj' : j < ms.length := by rw [mkE_len] at hj; exact hj
  refine ⟨j, hj', ?_⟩
  have := mkE_get ms 0 j
  rw [List.getElem?_eq_getElem hj, List.getElem?_eq_getElem hj'] at this
  simpa using this
theorem mkE_in {ms : List (Int × Int)} {j : Nat} (hj : j < ms.length) : ({ key := .int .i64 ms[j].1, val := .int .i64 ms[j].2, born := j } : MapEntry) ∈ mkE 0 ms := by
  have := mkE_get ms 0 j
  rw [List.getElem?_eq_getElem hj] at this
  simp only [Option.map_some, Nat.zero_add] at this
  exact List.mem_of_getElem? this
/-- Where a number stands, and what is told of it. -/
def posK (k : Int) : List (Int × Int) → Option (Nat × Int)
  | [] => none
  | m :: ms => if k = m.1 then some (0, m.2) else (posK k ms).map fun p => (p.1 + 1, p.2)
theorem posK_at {k : Int} : ∀ {ms : List (Int × Int)} {i : Nat} {v : Int}, posK k ms = some (i, v) → ms[i]? = some (k, v)
  | [], i, v, h => by simp [posK] at h
  | m :: ms, i, v, h => by
    unfold posK at h
    split at h
    · rename_i hk
      simp only [Option.some.injEq, Prod.mk.injEq] at h
      obtain ⟨rfl, rfl⟩ := h
      rw [hk]; rfl
    · cases hp : posK k ms with
      | none => rw [hp] at h; simp at h
      | some p =>
        rw [hp] at h
        simp only [Option.map_some, Option.some.injEq, Prod.mk.injEq] at h
        obtain ⟨rfl, rfl⟩ := h
        rw [List.getElem?_cons_succ]
        exact posK_at hp
theorem posK_none {k : Int} : ∀ {ms : List (Int × Int)}, posK k ms = none → ∀ m ∈ ms, m.1 ≠ k
  | [], _, m, hm => by simp at hm
  | x :: ms, h, m, hm => by
    unfold posK at h
    split at h
    · simp at h
    · rename_i hk
      rcases List.mem_cons.mp hm with rfl | hm
      · exact fun e => hk e.symm
      · exact posK_none (by cases hp : posK k ms with | none => rfl | some p => rw [hp] at h; simp at h) m hm
theorem findNow_c {kd : IntKind} (k : Int) : ∀ (ms : List (Int × Int)) (i j : Nat), Instr.findNow (.int kd) (.int .i64 k) (mkE i ms) j = some ((posK k ms).map fun p => (p.1 + j, Value.int .i64 p.2))
  | [], i, j => rfl
  | m :: ms, i, j => by
    unfold mkE Instr.findNow posK
    simp only [Instr.sameNow, if_true]
    by_cases h : k = m.1
    · rw [if_pos h, show (k == m.1) = true by simp [h]]; simp
    · rw [if_neg h, show (k == m.1) = false by simp [h]]
      simp only
      rw [findNow_c k ms (i + 1) (j + 1)]
      cases posK k ms with
      | none => rfl
      | some p => simp; omega
/-- A map that is owned. -/
def MpC (H : Hp) (p : Value) (S : Rg) (ms : List (Int × Int)) : Prop := ∃ r, p = .map (some r) ∧ H r = some (.map (mkE 0 ms).toArray ms.length) ∧ ∀ b, S b ↔ b = r
def mapCI (P : Program) (t : TypeId) : Bool := match P.underlying t with
  | some (.map kt et) => (match P.underlying kt, zeroO P et with | some (.int .i64), some (.int .i64 0) => true | _, _ => false)
  | _ => false
theorem mapCI_of {P : Program} {t : TypeId} (h : mapCI P t = true) : ∃ kt et, P.underlying t = some (.map kt et) ∧ P.underlying kt = some (.int .i64) ∧ zeroO P et = some (.int .i64 0) := by
  unfold mapCI at h
  split at h
  · rename_i kt et he
    split at h
    · rename_i h1 h2; exact ⟨kt, et, he, h1, h2⟩
    · simp at h
  · simp at h
section
variable {H H' : Hp} {p : Value} {S : Rg} {ms ns : List (Int × Int)}
theorem MpC.cast (e : ms = ns) (h : MpC H p S ms) : MpC H p S ns := e ▸ h
theorem MpC.known (h : MpC H p S ms) : Kn H S := by
  obtain ⟨r, _, hr, hS⟩ := h
  intro b hb
  rw [(hS b).mp hb]; exact ⟨_, hr⟩
theorem MpC.le (h : MpC H p S ms) (hl : Le H H') : MpC H' p S ms := by
  obtain ⟨r, e, hr, hS⟩ := h
  exact ⟨r, e, hl r _ hr, hS⟩
theorem MpC.off {w : Value} (h : MpC H p S ms) (ho : Off w H H') (ha : Apt S w) : MpC H' p S ms := by
  obtain ⟨r, e, hr, hS⟩ := h
  exact ⟨r, e, ho r _ hr (ha r ((hS r).mpr rfl)), hS⟩
theorem MpC.offS {T : Rg} (h : MpC H p S ms) (ho : OffS T H H') (ha : Apt S T) : MpC H' p S ms := by
  obtain ⟨r, e, hr, hS⟩ := h
  exact ⟨r, e, ho r _ hr (ha r ((hS r).mpr rfl)), hS⟩
theorem MpC.new_ {K : Value → Hp → Prop} (hk : ∀ p S H', MpC H' p S [] → Nws H S → Le H H' → K p H') : opEv.nwM H K := fun r hr =>
  hk (.map (some r)) (fun b => b = r) (H.put r (.map #[] 0)) ⟨r, rfl, Hp.put_same _ _ _, fun _ => Iff.rfl⟩ (fun b hb => by have : b = r := hb; rw [this]; exact hr) (Le.put _ hr)
theorem val_checkKeyC (P : Program) (b : Bool) (n : Nat) (t : TypeId) (k : Int) (H : Hp) (ht : P.underlying t = some (.int .i64)) : val P (Instr.checkKey b (n + 1) t (.int .i64 k)) H = some () := by
  unfold Instr.checkKey
  rw [val_bind', val_underlying, ht]
  rfl
theorem val_findKeyC {P : Program} {t : TypeId} {k : Int} (ht : P.underlying t = some (.int .i64)) : val P (Instr.findKey t (.int .i64 k) (mkE 0 ms)) H = some ((posK k ms).map fun p => (p.1, Value.int .i64 p.2)) := by
  unfold Instr.findKey
  rw [val_bind', val_underlying, ht]
  simp only [Option.bind_some]
  rw [findNow_c k ms 0 0]
  rfl
/-- An entry for a number, its number and its place; a new one where there was none. -/
def entK (k : Int) (ms : List (Int × Int)) : List (Int × Int) := match posK k ms with | some _ => ms | none => ms ++ [(k, 0)]
def entI (k : Int) (ms : List (Int × Int)) : Nat := match posK k ms with | some p => p.1 | none => ms.length
def entV (k : Int) (ms : List (Int × Int)) : Int := match posK k ms with | some p => p.2 | none => 0
theorem MpC.entry {P : Program} {t : TypeId} {k : Int} {K : Value → Hp → Prop} (h : MpC H p S ms) (ht : mapCI P t = true)
    (hK : ∀ H', MpC H' p S (entK k ms) → OffS S H H' → K (.tuple #[.int .i64 (entV k ms), .int .i64 (entI k ms : Int)]) H') : hp P (Instr.mapEntry t p (.int .i64 k)) H K := by
  obtain ⟨r, rfl, hr, hS⟩ := h
  obtain ⟨kt, et, h1, h2, h3⟩ := mapCI_of ht
  unfold Instr.mapEntry
  have e1 : val P (getObj r) H = some (.map (mkE 0 ms).toArray ms.length) := by
    show val P (Sem.getObj r Sem.pure) H = _
    simp only [val, hr]
  refine hp_val_bind P _ _ H K _ (by rw [val_underlying, h1]) ?_
  refine hp_val_bind P _ _ H K _ e1 ?_
  refine hp_val_bind P _ _ H K _ (val_checkKeyC P _ 9999 kt k H h2) ?_
  refine hp_val_bind P _ _ H K _ (val_findKeyC (ms := ms) h2) ?_
  have hoff : ∀ o, OffS S H (H.put r o) := fun o b o' hb hn => by
    rw [Hp.put_ne _ _ (by rintro rfl; exact hn ((hS _).mpr rfl))]; exact hb
  cases hp' : posK k ms with
  | none =>
    simp only [Option.map_none]
    refine hp_val_bind P _ _ H K _ (by rw [val_zeroValue, h3]) ?_
    show hp P (Sem.setObj r _ (Sem.pure _)) H K
    simp only [hp, hr]
    have := hK (H.put r (.map ((mkE 0 ms).toArray.push { key := .int .i64 k, val := .int .i64 0, born := ms.length }) (ms.length + 1))) ⟨r, rfl, ?_, hS⟩ (hoff _)
    · simpa only [entV, entI, hp', goInt] using this
    · rw [Hp.put_same]
      unfold entK
      rw [hp']
      simp only [mkE_app, Nat.zero_add, List.length_append, List.length_singleton]
      simp [mkE]
  | some q =>
    obtain ⟨i, v⟩ := q
    simp only [Option.map_some]
    have hat := posK_at hp'
    have hge : (mkE 0 ms)[i]? = some { key := .int .i64 k, val := .int .i64 v, born := i } := by rw [mkE_get, hat]; simp
    have hge' : (mkE 0 ms).toArray[i]? = some { key := .int .i64 k, val := .int .i64 v, born := i } := by simpa using hge
    rw [hge']
    simp only [Option.map_some, Option.getD_some]
    refine hp_val_bind P _ _ H K (.int .i64 k) (by unfold Instr.keyThatStays Instr.sameBits; simp [val_pure]) ?_
    show hp P (Sem.setObj r _ (Sem.pure _)) H K
    simp only [hp, hr]
    have hmod : (mkE 0 ms).toArray.modify i (fun e => { e with key := .int .i64 k }) = (mkE 0 ms).toArray := by
      apply Array.ext_getElem?
      intro j
      rw [Array.getElem?_modify]
      by_cases e : i = j
      · subst e; rw [if_pos rfl, hge']; rfl
      · rw [if_neg e]
    rw [hmod]
    have := hK (H.put r (.map (mkE 0 ms).toArray ms.length)) ⟨r, rfl, ?_, hS⟩ (hoff _)
    · simpa only [entV, entI, hp', goInt] using this
    · rw [Hp.put_same]
      unfold entK
      rw [hp']
/-- A number told anew. -/
def updK (k x : Int) (ms : List (Int × Int)) : List (Int × Int) := (entK k ms).set (entI k ms) (k, x)
theorem updK_len (k x : Int) (ms : List (Int × Int)) : (updK k x ms).length ≤ ms.length + 1 := by
  unfold updK entK
  rw [List.length_set]
  cases posK k ms with
  | none => simp
  | some p => simp
theorem MpC.upd {P : Program} {t : TypeId} {k x : Int} {K : Unit → Hp → Prop} (h : MpC H p S ms) (ht : mapCI P t = true)
    (hK : ∀ H', MpC H' p S (updK k x ms) → OffS S H H' → K () H') : hp P (Instr.mapUpdate t p (.int .i64 k) (.int .i64 x)) H K := by
  obtain ⟨r, rfl, hr, hS⟩ := h
  obtain ⟨kt, et, h1, h2, h3⟩ := mapCI_of ht
  unfold Instr.mapUpdate
  have e1 : val P (getObj r) H = some (.map (mkE 0 ms).toArray ms.length) := by
    show val P (Sem.getObj r Sem.pure) H = _
    simp only [val, hr]
  refine hp_val_bind P _ _ H K _ (by rw [val_underlying, h1]) ?_
  refine hp_val_bind P _ _ H K _ e1 ?_
  refine hp_val_bind P _ _ H K _ (val_checkKeyC P _ 9999 kt k H h2) ?_
  refine hp_val_bind P _ _ H K _ (val_findKeyC (ms := ms) h2) ?_
  have hoff : ∀ o, OffS S H (H.put r o) := fun o b o' hb hn => by
    rw [Hp.put_ne _ _ (by rintro rfl; exact hn ((hS _).mpr rfl))]; exact hb
  cases hp' : posK k ms with
  | none =>
    simp only [Option.map_none]
    show hp P (Sem.setObj r _ (Sem.pure _)) H K
    simp only [hp, hr]
    refine hK (H.put r (.map ((mkE 0 ms).toArray.push { key := .int .i64 k, val := .int .i64 x, born := ms.length }) (ms.length + 1))) ⟨r, rfl, ?_, hS⟩ (hoff _)
    rw [Hp.put_same]
    unfold updK entK entI
    rw [hp']
    simp only
    rw [show (ms ++ [(k, (0 : Int))]).set ms.length (k, x) = ms ++ [(k, x)] by rw [List.set_append_right _ _ (Nat.le_refl _)]; simp]
    simp only [mkE_app, Nat.zero_add, List.length_append, List.length_singleton]
    simp [mkE]
  | some q =>
    obtain ⟨i, v⟩ := q
    simp only [Option.map_some]
    have hat := posK_at hp'
    have hlt : i < ms.length := by
      rcases Nat.lt_or_ge i ms.length with g | g
      · exact g
      · rw [List.getElem?_eq_none g] at hat; simp at hat
    have hge : ∀ j : Nat, (mkE 0 ms).toArray[j]? = (ms[j]?).map fun m => ({ key := .int .i64 m.1, val := .int .i64 m.2, born := j } : MapEntry) := fun j => by
      have := mkE_get ms 0 j
      simpa using this
    rw [hge i, hat]
    simp only [Option.map_some, Option.getD_some]
    refine hp_val_bind P _ _ H K (.int .i64 k) (by unfold Instr.keyThatStays Instr.sameBits; simp [val_pure]) ?_
    show hp P (Sem.setObj r _ (Sem.pure _)) H K
    simp only [hp, hr]
    refine hK _ ⟨r, rfl, ?_, hS⟩ (hoff _)
    rw [Hp.put_same]
    unfold updK entK entI
    rw [hp']
    simp only
    rw [List.length_set]
    congr 2
    apply Array.ext_getElem?
    intro j
    rw [Array.getElem?_modify, hge j]
    have e2 := mkE_get (ms.set i (k, x)) 0 j
    rw [List.getElem?_set] at e2
    by_cases e : i = j
    · subst e
      rw [if_pos rfl, hat]
      rw [if_pos rfl, if_pos hlt] at e2
      simpa using e2.symm
    · rw [if_neg e]
      rw [if_neg e] at e2
      simpa using e2.symm
theorem MpC.look1 {P : Program} {t : TypeId} {k : Int} {K : Value → Hp → Prop} (h : MpC H p S ms) (ht : mapCI P t = true) (hK : K (.int .i64 (entV k ms)) H) : hp P (Instr.lookup t p (.int .i64 k) false) H K := by
  obtain ⟨r, rfl, hr, hS⟩ := h
  obtain ⟨kt, et, h1, h2, h3⟩ := mapCI_of ht
  refine hp_of_val P _ H K _ ?_ hK
  unfold Instr.lookup
  have e1 : val P (getObj r) H = some (.map (mkE 0 ms).toArray ms.length) := by
    show val P (Sem.getObj r Sem.pure) H = _
    simp only [val, hr]
  rw [val_bind', val_underlying, h1]
  simp only [Option.bind_some]
  rw [val_bind']
  simp only [val_bind', e1, Option.bind_some, val_pure, val_checkKeyC P _ 9999 kt k H h2, val_findKeyC (ms := ms) h2]
  unfold entV
  cases posK k ms with
  | none => simp only [Option.map_none, val_bind', val_zeroValue, h3, Option.bind_some, val_pure]; rfl
  | some x => simp only [Option.map_some]; rfl
def keyN (ms : List (Int × Int)) (j : Nat) : Int := (ms[j]?.getD (0, 0)).1
def valN (ms : List (Int × Int)) (j : Nat) : Int := (ms[j]?.getD (0, 0)).2
theorem keyN_at {ms : List (Int × Int)} {j : Nat} (h : j < ms.length) : ms[j].1 = keyN ms j ∧ ms[j].2 = valN ms j := by
  unfold keyN valN
  rw [List.getElem?_eq_getElem h]
  exact ⟨rfl, rfl⟩
theorem vExt_10 (a : Value) : vExt (.tuple #[a]) 0 = some a := rfl
/-- An iterator over a map: what it has given. -/
def ItC (H : Hp) (it m : Value) (n : Nat) (js : List Nat) : Prop := ∃ r q seen, it = .pointer (some ⟨r, 0, none⟩) ∧ m = .map (some q) ∧ H r = some (.mapIter (some q) n seen n) ∧ seen.toList = js
variable {it m : Value} {n : Nat} {js ks : List Nat}
theorem ItC.cast (e : js = ks) (h : ItC H it m n js) : ItC H it m n ks := e ▸ h
theorem ItC.known (h : ItC H it m n js) : ∀ b, bk it = some b → ∃ o, H b = some o := by
  obtain ⟨r, q, seen, rfl, _, hr, _⟩ := h
  intro b hb
  simp only [bk, Option.some.injEq] at hb
  subst hb; exact ⟨_, hr⟩
theorem ItC.le (h : ItC H it m n js) (hl : Le H H') : ItC H' it m n js := by
  obtain ⟨r, q, seen, e, e2, hr, hs⟩ := h
  exact ⟨r, q, seen, e, e2, hl _ _ hr, hs⟩
theorem ItC.off {w : Value} (h : ItC H it m n js) (ho : Off w H H') (ha : Apart it w) : ItC H' it m n js := by
  obtain ⟨r, q, seen, rfl, e2, hr, hs⟩ := h
  exact ⟨r, q, seen, rfl, e2, ho r _ hr (ha r rfl), hs⟩
theorem ItC.offS {T : Rg} (h : ItC H it m n js) (ho : OffS T H H') (ha : Apt it T) : ItC H' it m n js := by
  obtain ⟨r, q, seen, rfl, e2, hr, hs⟩ := h
  exact ⟨r, q, seen, rfl, e2, ho r _ hr (ha r rfl), hs⟩
theorem ItC.apart {w : Value} (h : ItC H it m n js) (hn : Nw H w) : Apart it w := Apart.of_nw h.known hn
theorem ItC.new_ {P : Program} {t : TypeId} {K : Value → Hp → Prop} (hm : MpC H m S ms) (ht : mapCI P t = true) (hk : ∀ it H', ItC H' it m ms.length [] → Nw H it → Le H H' → K it H') : hp P (Instr.range t m) H K := by
  obtain ⟨q, rfl, hq, hS⟩ := hm
  obtain ⟨kt, et, h1, h2, h3⟩ := mapCI_of ht
  unfold Instr.range
  have e1 : val P (getObj q) H = some (.map (mkE 0 ms).toArray ms.length) := by
    show val P (Sem.getObj q Sem.pure) H = _
    simp only [val, hq]
  refine hp_val_bind P _ _ H K (.map kt et) (by rw [val_underlying, h1]) ?_
  simp only [hp_bind']
  refine hp_val_bind P _ _ H _ _ e1 ?_
  show hp P (Sem.pure _) H _
  show hp P (Sem.new _ Sem.pure) H _
  intro r hr
  refine hk (.pointer (some ⟨r, 0, none⟩)) _ ⟨r, q, #[], rfl, rfl, Hp.put_same _ _ _, rfl⟩ (fun b hb => ?_) (Le.put _ hr)
  simp only [bk, Option.some.injEq] at hb
  subst hb; exact hr
theorem ItC.next {P : Program} {ty : TypeId} {K : Value → Hp → Prop} (hi : ItC H it m ms.length js) (hm : MpC H m S ms)
    (h1 : ∀ (j : Nat) (hj : j < ms.length) H', j ∉ js → ItC H' it m ms.length (js ++ [j]) → Off it H H' → K (.tuple #[.bool true, .int .i64 (keyN ms j), .int .i64 (valN ms j)]) H')
    (h2 : (∀ j, j < ms.length → j ∈ js) → K (.tuple #[.bool false]) H) : hp P (Instr.next it false ty) H K := by
  obtain ⟨r, q, seen, rfl, rfl, hr, hs⟩ := hi
  obtain ⟨q', e, hq, hS⟩ := hm
  simp only [Value.map.injEq, Option.some.injEq] at e
  subst e
  unfold Instr.next
  have e0 : val P (getObj r) H = some (.mapIter (some q) ms.length seen ms.length) := by
    show val P (Sem.getObj r Sem.pure) H = _
    simp only [val, hr]
  have e1 : val P (getObj q) H = some (.map (mkE 0 ms).toArray ms.length) := by
    show val P (Sem.getObj q Sem.pure) H = _
    simp only [val, hq]
  refine hp_val_bind P _ _ H K _ e0 ?_
  refine hp_val_bind P _ _ H K _ e1 ?_
  have hb : (!seen.isEmpty && !(mkE 0 ms).toArray.isEmpty && (mkE 0 ms).toArray.all (fun e => decide (e.born ≥ ms.length))) = false := by
    cases ms with
    | nil => simp [mkE]
    | cons x xs => simp [mkE]
  simp only [hb, Bool.false_eq_true, if_false]
  have hold : ((mkE 0 ms).toArray.filter fun e => !seen.contains e.born).filter (fun e => decide (e.born < ms.length)) = (mkE 0 ms).toArray.filter fun e => !seen.contains e.born := by
    rw [Array.filter_eq_self]
    intro e he
    obtain ⟨j, hj, rfl⟩ := mkE_mem (by simpa using (Array.mem_filter.mp he).1)
    simpa using hj
  have hnew : ((mkE 0 ms).toArray.filter fun e => !seen.contains e.born).filter (fun e => decide (e.born ≥ ms.length)) = #[] := by
    rw [Array.filter_eq_empty_iff]
    intro e he
    obtain ⟨j, hj, rfl⟩ := mkE_mem (by simpa using (Array.mem_filter.mp he).1)
    simp; omega
  rw [hold, hnew]
  generalize hL : (mkE 0 ms).toArray.filter (fun e => !seen.contains e.born) = L
  have hmem : ∀ e, e ∈ L → ∃ j, ∃ hj : j < ms.length, j ∉ js ∧ e = { key := .int .i64 ms[j].1, val := .int .i64 ms[j].2, born := j } := by
    intro e he
    rw [← hL] at he
    obtain ⟨g1, g2⟩ := Array.mem_filter.mp he
    obtain ⟨j, hj, rfl⟩ := mkE_mem (by simpa using g1)
    refine ⟨j, hj, ?_, rfl⟩
    rw [← hs]
    simpa using g2
  rw [Array.append_empty]
  generalize hC : (if L.isEmpty = true then (#[none] : Array (Option MapEntry)) else #[]) ++ L.map some = C
  have hCs : 0 < C.size := by
    rw [← hC]
    by_cases g : L.isEmpty = true
    · rw [if_pos g]; simp; omega
    · rw [if_neg g]
      simp only [Array.isEmpty, decide_eq_true_eq] at g
      simp; omega
  have hall : ∀ i, i < C.size → hp P (match C[i]? with
      | some (some e) => do
        setObj r (.mapIter (some q) ms.length (seen.push e.born) ms.length)
        pure (.tuple #[.bool true, e.key, e.val])
      | some none => pure (.tuple #[.bool false])
      | none => stuck "Next: no such candidate") H K := by
    intro i hi
    rw [Array.getElem?_eq_getElem hi]
    cases hc : C[i] with
    | none =>
      refine h2 (fun j hj => ?_)
      have hem : L.isEmpty = true := by
        have : none ∈ C := by rw [← hc]; exact Array.getElem_mem hi
        rw [← hC] at this
        by_cases g : L.isEmpty = true
        · exact g
        · rw [if_neg g] at this; simp at this
      by_cases hin : j ∈ js
      · exact hin
      · exfalso
        have hx : ({ key := .int .i64 ms[j].1, val := .int .i64 ms[j].2, born := j } : MapEntry) ∈ L := by
          rw [← hL]
          refine Array.mem_filter.mpr ⟨by simpa using mkE_in hj, ?_⟩
          rw [← hs] at hin
          simpa using hin
        rw [Array.isEmpty_iff] at hem
        rw [hem] at hx; simp at hx
    | some e =>
      have hx : e ∈ L := by
        have : some e ∈ C := by rw [← hc]; exact Array.getElem_mem hi
        rw [← hC] at this
        by_cases g : L.isEmpty = true
        · rw [if_pos g] at this
          rw [Array.isEmpty_iff] at g
          rw [g] at this; simp at this
        · rw [if_neg g] at this; simpa using this
      obtain ⟨j, hj, hn, rfl⟩ := hmem e hx
      show hp P (Sem.setObj r _ (Sem.pure _)) H K
      simp only [hp, hr]
      rw [(keyN_at hj).1, (keyN_at hj).2]
      refine h1 j hj _ hn ⟨r, q, _, rfl, rfl, Hp.put_same _ _ _, by simp [hs]⟩ (fun b o hb hn' => ?_)
      rw [Hp.put_ne _ _ (by rintro rfl; exact hn' rfl)]; exact hb
  show hp P (Sem.choose (.mapNext C.size) _) H K
  simp only [hp]
  split
  · exact hall 0 hCs
  · intro t
    exact hall (t % C.size) (Nat.mod_lt _ hCs)
theorem ItC.entry {P : Program} {K : Value → Hp → Prop} {j : Nat} (hi : ItC H it m ms.length (js ++ [j])) (hm : MpC H m S ms) (hj : j < ms.length)
    (hK : K (.tuple #[.int .i64 (keyN ms j), .int .i64 (valN ms j)]) H) : hp P (Instr.entry it) H K := by
  obtain ⟨r, q, seen, rfl, rfl, hr, hs⟩ := hi
  obtain ⟨q', e, hq, hS⟩ := hm
  simp only [Value.map.injEq, Option.some.injEq] at e
  subst e
  have e0 : val P (getObj r) H = some (.mapIter (some q) ms.length seen ms.length) := by
    show val P (Sem.getObj r Sem.pure) H = _
    simp only [val, hr]
  have e1 : val P (getObj q) H = some (.map (mkE 0 ms).toArray ms.length) := by
    show val P (Sem.getObj q Sem.pure) H = _
    simp only [val, hq]
  refine hp_of_val P _ H K _ ?_ hK
  have hb : seen.back? = some j := by
    have : seen = (js ++ [j]).toArray := by rw [← hs]
    rw [this]; simp
  have hf : (mkE 0 ms).toArray.find? (fun e => e.born == j) = some ({ key := .int .i64 ms[j].1, val := .int .i64 ms[j].2, born := j } : MapEntry) := by
    rw [List.find?_toArray]
    have key : ∀ (xs : List (Int × Int)) (i j : Nat) (hj : j < xs.length), (mkE i xs).find? (fun e => e.born == i + j) = some ({ key := .int .i64 xs[j].1, val := .int .i64 xs[j].2, born := i + j } : MapEntry) := by
      intro xs
      induction xs with
      | nil => intro i j hj; simp at hj
      | cons a xs ih =>
        intro i j hj
        unfold mkE
        cases j with
        | zero => simp
        | succ j =>
          rw [List.find?_cons_of_neg (by simp)]
          have := ih (i + 1) j (by simpa using hj)
          rw [show i + 1 + j = i + (j + 1) by omega] at this
          simpa using this
    have := key ms 0 j hj
    simpa using this
  unfold Instr.entry
  show val P (getObj r >>= _) H = _
  rw [val_bind', e0, Option.bind_some]
  simp only [hb]
  rw [val_bind', e1, Option.bind_some]
  simp only [bne_self_eq_false, Bool.false_eq_true, if_false, hf]
  rw [← (keyN_at hj).1, ← (keyN_at hj).2]
  rfl
end
end Go.Proofs.Ythmdmbbdjbhcoaa.HL
/- Cycles counted: maps that count lengths, sorted lengths, whole numbers of rings, images; by plain law. -/
namespace Go.Proofs.Ythmdmbbdjbhcoaa
open HL
/-- How often each length is told among some, 0 left out. -/
def cntK (L : List Int) (k : Nat) : Int := if k = 0 then 0 else (L.count (k : Int) : Int)
/-- Lengths and counts, the least length first. -/
def csG (c : Nat → Int) (m : Nat) : List Int := (List.range m).flatMap fun k => if 0 < c k then [(k : Int), c k] else []
def posC (L : List Int) : Int := (L.countP (fun x => decide (0 < x)) : Int)
theorem csG_succ {c : Nat → Int} {m : Nat} : csG c (m + 1) = csG c m ++ (if 0 < c m then [(m : Int), c m] else []) := by
  unfold csG
  rw [List.range_succ, List.flatMap_append]
  simp
theorem csG_yes {c : Nat → Int} {m : Nat} (h : 0 < c m) : csG c m ++ [(m : Int), c m] = csG c (m + 1) := by rw [csG_succ, if_pos h]
theorem csG_no {c : Nat → Int} {m : Nat} (h : ¬ 0 < c m) : csG c m = csG c (m + 1) := by rw [csG_succ, if_neg h, List.append_nil]
theorem csG_len {c : Nat → Int} : ∀ {m : Nat}, (csG c m).length ≤ 2 * m
  | 0 => by simp [csG]
  | m + 1 => by
    have := csG_len (c := c) (m := m)
    rw [csG_succ, List.length_append]
    split <;> simp <;> omega
theorem count_take {L : List Int} {t : Nat} (h : t < L.length) (k : Int) : ((L.take (t + 1)).count k : Int) = ((L.take t).count k : Int) + (if at_ 0 L (t : Int) = k then 1 else 0) := by
  rw [List.take_succ_eq_append_getElem h, List.count_append, List.count_singleton, at_eq 0 L h]
  by_cases e : L[t] = k
  · subst e; simp
  · rw [if_neg e]; simp [e]
theorem posC_take {L : List Int} {t : Nat} (h : t < L.length) : posC (L.take (t + 1)) = posC (L.take t) + (if 0 < at_ 0 L (t : Int) then 1 else 0) := by
  unfold posC
  rw [List.take_succ_eq_append_getElem h, List.countP_append, at_eq 0 L h]
  by_cases e : 0 < L[t]
  · rw [if_pos e]; simp [e]
  · rw [if_neg e]; simp [e]
theorem posC_bnd (L : List Int) : 0 ≤ posC L ∧ posC L ≤ L.length := by
  unfold posC
  have := List.countP_le_length (p := fun x : Int => decide (0 < x)) (l := L)
  omega
theorem cnt_bnd (L : List Int) (k : Nat) : 0 ≤ cntK L k ∧ cntK L k ≤ L.length := by
  unfold cntK
  have := List.count_le_length (a := (k : Int)) (l := L)
  split <;> omega
/-- The counts as a list. -/
def cnL (L : List Int) (N : Nat) : List Int := (List.range N).map (cntK L)
theorem cnL_len (L : List Int) (N : Nat) : (cnL L N).length = N := by simp [cnL]
theorem cnL_at {L : List Int} {N k : Nat} (h : k < N) : at_ 0 (cnL L N) (k : Int) = cntK L k := by
  rw [at_eq 0 _ (by rw [cnL_len]; exact h)]; simp [cnL]
theorem cnL_nil (N : Nat) : List.replicate N (0 : Int) = cnL [] N := by
  apply List.ext_getElem
  · simp [cnL]
  · intro i h1 h2; simp [cnL, cntK]
theorem cnL_set {L : List Int} {N t k : Nat} (ht : t < L.length) (hk : at_ 0 L (t : Int) = (k : Int)) (k0 : 0 < k) : (cnL (L.take t) N).set k (cntK (L.take t) k + 1) = cnL (L.take (t + 1)) N := by
  apply List.ext_getElem
  · simp [cnL]
  · intro i h1 h2
    simp only [cnL, List.getElem_set, List.getElem_map, List.getElem_range]
    have := count_take ht (i : Int)
    rw [hk] at this
    by_cases e : k = i
    · subst e
      rw [if_pos rfl]
      unfold cntK
      rw [if_neg (by omega), if_neg (by omega), this, if_pos rfl]
    · rw [if_neg e]
      unfold cntK
      by_cases e0 : i = 0
      · rw [if_pos e0, if_pos e0]
      · rw [if_neg e0, if_neg e0, this, if_neg (by omega)]; simp
theorem cnL_skip {L : List Int} {N t : Nat} (ht : t < L.length) (hk : ¬ 0 < at_ 0 L (t : Int)) : cnL (L.take t) N = cnL (L.take (t + 1)) N := by
  apply List.ext_getElem
  · simp [cnL]
  · intro i h1 h2
    simp only [cnL, List.getElem_map, List.getElem_range]
    have := count_take ht (i : Int)
    unfold cntK
    by_cases e0 : i = 0
    · rw [if_pos e0, if_pos e0]
    · rw [if_neg e0, if_neg e0, this, if_neg (by omega)]; simp
/-! ### the map -/
/-- What is told of a map that counts. -/
structure CntI (L : List Int) (ms : List (Int × Int)) : Prop where
  nd : ∀ i j (hi : i < j) (hj : j < ms.length), (ms[i]'(by omega)).1 ≠ ms[j].1
  ps : ∀ j (hj : j < ms.length), 0 < ms[j].1 ∧ 0 < ms[j].2 ∧ ms[j].2 = (L.count ms[j].1 : Int)
  al : ∀ k : Int, 0 < k → 0 < L.count k → ∃ j, ∃ hj : j < ms.length, ms[j].1 = k
def incM (k : Int) (ms : List (Int × Int)) : List (Int × Int) := (entK k ms).set (entI k ms) (k, entV k ms + 1)
theorem CntI.nil : CntI [] [] := ⟨fun i j _ h => by simp at h, fun j h => by simp at h, fun k _ h => by simp at h⟩
theorem CntI.skip {L : List Int} {ms : List (Int × Int)} {x : Int} (h : CntI L ms) (hx : ¬ 0 < x) : CntI (L ++ [x]) ms := by
  refine ⟨h.nd, fun j hj => ?_, fun k k0 hk => ?_⟩
  · obtain ⟨a, b, c⟩ := h.ps j hj
    refine ⟨a, b, ?_⟩
    rw [c, List.count_append, List.count_singleton]
    rw [show (x == ms[j].1) = false by simp; omega]; simp
  · refine h.al k k0 ?_
    rw [List.count_append, List.count_singleton, show (x == k) = false by simp; omega] at hk
    simpa using hk
theorem entV_at {k : Int} {L : List Int} {ms : List (Int × Int)} (h : CntI L ms) (k0 : 0 < k) : entV k ms = (L.count k : Int) := by
  unfold entV
  cases hp : posK k ms with
  | none =>
    simp only
    by_cases hc : 0 < L.count k
    · obtain ⟨j, hj, e⟩ := h.al k k0 hc
      exact absurd e (posK_none hp _ (List.getElem_mem hj))
    · omega
  | some p =>
    obtain ⟨i, v⟩ := p
    have := posK_at hp
    obtain ⟨hi, e⟩ := List.getElem?_eq_some_iff.mp this
    have hps := (h.ps i hi).2.2
    rw [e] at hps
    exact hps
theorem CntI.inc {L : List Int} {ms : List (Int × Int)} {x : Int} (h : CntI L ms) (hx : 0 < x) : CntI (L ++ [x]) (incM x ms) := by
  have hv := entV_at h hx
  have hcn : ∀ k : Int, ((L ++ [x]).count k : Int) = (L.count k : Int) + (if x = k then 1 else 0) := fun k => by
    rw [List.count_append, List.count_singleton]
    by_cases e : x = k
    · subst e; simp
    · rw [if_neg e]; simp [e]
  unfold incM
  rw [hv]
  unfold entK entI
  cases hp : posK x ms with
  | none =>
    have hno := posK_none hp
    have hc0 : L.count x = 0 := by
      rcases Nat.eq_zero_or_pos (L.count x) with g | g
      · exact g
      · obtain ⟨j, hj, e⟩ := h.al x hx g
        exact absurd e (hno _ (List.getElem_mem hj))
    simp only
    rw [hc0, show (ms ++ [(x, (0 : Int))]).set ms.length (x, ((0 : Nat) : Int) + 1) = ms ++ [(x, 1)] by rw [List.set_append_right _ _ (Nat.le_refl _)]; simp]
    refine ⟨fun i j hi hj => ?_, fun j hj => ?_, fun k k0 hk => ?_⟩
    · simp only [List.length_append, List.length_singleton] at hj
      by_cases e : j = ms.length
      · subst e
        rw [List.getElem_append_left (by omega), List.getElem_append_right (Nat.le_refl _)]
        simp only [Nat.sub_self, List.getElem_singleton]
        exact hno _ (List.getElem_mem _)
      · rw [List.getElem_append_left (by omega), List.getElem_append_left (by omega)]
        exact h.nd i j hi (by omega)
    · simp only [List.length_append, List.length_singleton] at hj
      by_cases e : j = ms.length
      · subst e
        rw [List.getElem_append_right (Nat.le_refl _)]
        simp only [Nat.sub_self, List.getElem_singleton]
        have := hcn x
        rw [if_pos rfl, hc0] at this
        exact ⟨hx, by omega, by rw [this]; rfl⟩
      · rw [List.getElem_append_left (by omega)]
        obtain ⟨a, b, c⟩ := h.ps j (by omega)
        refine ⟨a, b, ?_⟩
        rw [hcn, if_neg (fun e2 => hno _ (List.getElem_mem (show j < ms.length by omega)) e2.symm), c]; simp
    · by_cases e : x = k
      · exact ⟨ms.length, by simp, by rw [List.getElem_append_right (Nat.le_refl _)]; simpa using e⟩
      · have := hcn k
        rw [if_neg e] at this
        obtain ⟨j, hj, e2⟩ := h.al k k0 (by omega)
        exact ⟨j, by simp; omega, by rw [List.getElem_append_left hj]; exact e2⟩
  | some p =>
    obtain ⟨i0, v⟩ := p
    obtain ⟨hi0, e0⟩ := List.getElem?_eq_some_iff.mp (posK_at hp)
    simp only
    have hk1 : ∀ j (hj : j < ms.length), ((ms.set i0 (x, (L.count x : Int) + 1))[j]'(by simpa using hj)).1 = ms[j].1 := fun j hj => by
      rw [List.getElem_set]
      by_cases e : i0 = j
      · subst e; rw [if_pos rfl, e0]
      · rw [if_neg e]
    refine ⟨fun i j hi hj => ?_, fun j hj => ?_, fun k k0 hk => ?_⟩
    · simp only [List.length_set] at hj
      rw [hk1 i (by omega), hk1 j hj]
      exact h.nd i j hi hj
    · simp only [List.length_set] at hj
      rw [hk1 j hj]
      obtain ⟨a, b, c⟩ := h.ps j hj
      rw [List.getElem_set]
      by_cases e : i0 = j
      · subst e
        rw [if_pos rfl, e0, hcn, if_pos rfl]
        exact ⟨hx, by show (0 : Int) < (L.count x : Int) + 1; omega, rfl⟩
      · rw [if_neg e, hcn, if_neg (fun e2 => by
          rcases Nat.lt_or_gt_of_ne e with g | g
          · exact h.nd i0 j g hj (by rw [e0, e2])
          · exact h.nd j i0 g hi0 (by rw [e0, e2]))]
        exact ⟨a, b, by rw [c]; simp⟩
    · have := hcn k
      by_cases e : x = k
      · exact ⟨i0, by simpa using hi0, by rw [hk1 i0 hi0, e0]; exact e⟩
      · rw [if_neg e] at this
        obtain ⟨j, hj, e2⟩ := h.al k k0 (by omega)
        exact ⟨j, by simpa using hj, by rw [hk1 j hj]; exact e2⟩
theorem CntI.take {L : List Int} {ms : List (Int × Int)} {t : Nat} (h : CntI (L.take t) ms) (ht : t < L.length) (hx : 0 < at_ 0 L (t : Int)) : CntI (L.take (t + 1)) (incM (at_ 0 L (t : Int)) ms) := by
  rw [List.take_succ_eq_append_getElem ht, ← at_eq 0 L ht]; exact h.inc hx
theorem CntI.pass {L : List Int} {ms : List (Int × Int)} {t : Nat} (h : CntI (L.take t) ms) (ht : t < L.length) (hx : ¬ 0 < at_ 0 L (t : Int)) : CntI (L.take (t + 1)) ms := by
  rw [List.take_succ_eq_append_getElem ht, ← at_eq 0 L ht]; exact h.skip hx
/-- Lists that rise and have the same things are the same. -/
theorem rise_eq : ∀ {A B : List Int}, A.Pairwise (· < ·) → B.Pairwise (· < ·) → (∀ x, x ∈ A ↔ x ∈ B) → A = B
  | [], [], _, _, _ => rfl
  | [], b :: B, _, _, h => absurd ((h b).mpr (by simp)) (by simp)
  | a :: A, [], _, _, h => absurd ((h a).mp (by simp)) (by simp)
  | a :: A, b :: B, hA, hB, h => by
    rw [List.pairwise_cons] at hA hB
    have e : a = b := by
      rcases List.mem_cons.mp ((h a).mp (by simp)) with e | g1
      · exact e
      · rcases List.mem_cons.mp ((h b).mpr (by simp)) with e | g2
        · exact e.symm
        · have := hA.1 b g2
          have := hB.1 a g1
          omega
    subst e
    rw [rise_eq hA.2 hB.2 (fun x => ?_)]
    constructor
    · intro hx
      rcases List.mem_cons.mp ((h x).mp (by simp [hx])) with e | g
      · have := hA.1 x hx; omega
      · exact g
    · intro hx
      rcases List.mem_cons.mp ((h x).mpr (by simp [hx])) with e | g
      · have := hB.1 x hx; omega
      · exact g
/-- The lengths that are told. -/
def kyL (c : Nat → Int) (m : Nat) : List Int := ((List.range m).filter fun k => decide (0 < c k)).map fun (k : Nat) => (k : Int)
theorem kyL_rise (c : Nat → Int) (m : Nat) : (kyL c m).Pairwise (· < ·) := by
  unfold kyL
  rw [List.pairwise_map]
  exact (List.pairwise_lt_range.filter _).imp fun h => by omega
theorem csG_ky (c : Nat → Int) : ∀ m : Nat, csG c m = (kyL c m).flatMap fun k => [k, c k.toNat]
  | 0 => rfl
  | m + 1 => by
    rw [csG_succ, csG_ky c m]
    unfold kyL
    rw [List.range_succ, List.filter_append, List.map_append, List.flatMap_append]
    congr 1
    by_cases h : 0 < c m
    · rw [if_pos h]; simp [h]
    · rw [if_neg h]; simp [h]
/-- The sorted keys. -/
theorem keys_eq {L ks S : List Int} {ms : List (Int × Int)} {js : List Nat} {N : Nat} (h : CntI L ms) (hL : ∀ x ∈ L, 0 ≤ x ∧ x ≤ (N : Int)) (hnd : js.Nodup) (hb : ∀ j ∈ js, j < ms.length) (hall : ∀ j, j < ms.length → j ∈ js)
    (hk : ks = js.map fun j => keyN ms j) (hS : S = ks.mergeSort fun x y => decide (x ≤ y)) : S = kyL (cntK L) (N + 1) := by
  have hget : ∀ j (hj : j < ms.length), keyN ms j = ms[j].1 := fun j hj => (keyN_at hj).1.symm
  have hperm : S.Perm ks := by rw [hS]; exact List.mergeSort_perm _ _
  have hle : S.Pairwise (fun x y => x ≤ y) := by
    have := List.pairwise_mergeSort (le := fun x y : Int => decide (x ≤ y)) (fun a b c h1 h2 => by simp only [decide_eq_true_eq] at *; omega) (fun a b => by simp only [Bool.or_eq_true, decide_eq_true_eq]; omega) ks
    rw [hS]
    exact this.imp fun h => by simpa using h
  have hnk : ks.Nodup := by
    rw [hk]
    unfold List.Nodup
    rw [List.pairwise_map]
    refine (List.Pairwise.and_mem.mp hnd).imp fun {a b} hab e => ?_
    obtain ⟨ha, hb', hne⟩ := hab
    have h1 := hb a ha
    have h2 := hb b hb'
    rw [hget a h1, hget b h2] at e
    rcases Nat.lt_or_gt_of_ne hne with g | g
    · exact h.nd a b g h2 e
    · exact h.nd b a g h1 e.symm
  have hnS : S.Nodup := hperm.nodup_iff.mpr hnk
  refine rise_eq ?_ (kyL_rise _ _) (fun x => ?_)
  · exact (List.pairwise_and_iff.mpr ⟨hle, hnS⟩).imp fun {a b} hab => by
      have := hab.1; have := hab.2; omega
  · rw [hperm.mem_iff, hk]
    unfold kyL
    simp only [List.mem_map, List.mem_filter, List.mem_range, decide_eq_true_eq]
    constructor
    · rintro ⟨j, hj, rfl⟩
      have hj' := hb j hj
      rw [hget j hj']
      obtain ⟨a, b, c⟩ := h.ps j hj'
      have hm : ms[j].1 ∈ L := List.count_pos_iff.mp (by omega)
      have hb2 := hL _ hm
      refine ⟨ms[j].1.toNat, ⟨by omega, ?_⟩, by omega⟩
      unfold cntK
      rw [if_neg (by omega), Int.toNat_of_nonneg (by omega)]
      omega
    · rintro ⟨k, ⟨hk1, hk2⟩, rfl⟩
      unfold cntK at hk2
      split at hk2
      · omega
      · obtain ⟨j, hj, e⟩ := h.al (k : Int) (by omega) (by omega)
        exact ⟨j, hall j hj, by rw [hget j hj]; exact e⟩
theorem flatMap_same {α β : Type} {f g : α → List β} : ∀ {l : List α}, (∀ x ∈ l, f x = g x) → l.flatMap f = l.flatMap g
  | [], _ => rfl
  | a :: l, h => by
    rw [List.flatMap_cons, List.flatMap_cons, h a (by simp), flatMap_same (fun x hx => h x (by simp [hx]))]
/-- Lengths and counts out of a map, one length after the other. -/
theorem cyc_out {L S : List Int} {ms : List (Int × Int)} {N : Nat} (h : CntI L ms) (hS : S = kyL (cntK L) (N + 1)) : S.flatMap (fun k => [k, entV k ms]) = csG (cntK L) (N + 1) := by
  rw [csG_ky, ← hS]
  refine flatMap_same (fun k hk => ?_)
  rw [hS] at hk
  unfold kyL at hk
  simp only [List.mem_map, List.mem_filter, List.mem_range, decide_eq_true_eq] at hk
  obtain ⟨i, ⟨_, hi⟩, rfl⟩ := hk
  unfold cntK at hi
  split at hi
  · omega
  · rename_i h0
    rw [entV_at h (by omega)]
    unfold cntK
    rw [Int.toNat_natCast, if_neg h0]
/-! ### whole numbers of rings -/
theorem nd_le : ∀ {A B : List Nat}, A.Nodup → (∀ x ∈ A, x ∈ B) → A.length ≤ B.length
  | [], B, _, _ => by simp
  | a :: A, B, h, hs => by
    have h' := List.nodup_cons.mp h
    have := nd_le (A := A) (B := B.erase a) h'.2 (fun x hx => (List.mem_erase_of_ne (fun e => h'.1 (by rw [← e]; exact hx))).mpr (hs x (by simp [hx])))
    rw [List.length_erase_of_mem (hs a (by simp))] at this
    have hp : 0 < B.length := List.length_pos_of_mem (hs a (by simp))
    rw [List.length_cons]; omega
theorem filt_add {α : Type} (p : α → Bool) : ∀ l : List α, l.length = (l.filter p).length + (l.filter fun x => !p x).length
  | [] => rfl
  | a :: l => by
    have := filt_add p l
    cases h : p a <;> simp [h] <;> omega
theorem orb_div {F : Nat → Nat} {N p : Nat} (hp : 1 ≤ p) : ∀ (n : Nat) (xs : List Nat), xs.length ≤ n → xs.Nodup → (∀ x ∈ xs, F x ∈ xs) → (∀ x ∈ xs, perN F N x = p) → xs.length % p = 0
  | 0, xs, hn, _, _, _ => by rw [show xs.length = 0 by omega]; simp
  | n + 1, [], _, _, _, _ => by simp
  | n + 1, x :: xs, hn, hnd, hc, hper => by
    have hx := hper x (by simp)
    obtain ⟨_, _, h3, h4⟩ := perN_spec (F := F) (N := N) (x := x) (by omega)
    rw [hx] at h3 h4
    have hd : ∀ i j, i < j → j < p → itF F i x ≠ itF F j x := fun i j g1 g2 e => by
      have e2 : itF F (p - j + i) x = x := by rw [itF_add, e, ← itF_add, show p - j + j = p by omega, h3]
      exact h4 _ (by omega) (by omega) e2
    have hin : ∀ j, itF F j x ∈ x :: xs := fun j => by
      induction j with
      | zero => simp [itF]
      | succ j ih => exact hc _ ih
    let O := (List.range p).map fun j => itF F j x
    have hO : O.Nodup := by
      unfold List.Nodup
      show ((List.range p).map _).Pairwise _
      rw [List.pairwise_map]
      exact (List.Pairwise.and_mem.mp List.pairwise_lt_range).imp fun {a b} h => hd a b h.2.2 (List.mem_range.mp h.2.1)
    have hmO : ∀ y, y ∈ O ↔ ∃ j, j < p ∧ itF F j x = y := fun y => by simp [O]
    let ys := (x :: xs).filter fun y => !decide (y ∈ O)
    have hys : ∀ y, y ∈ ys ↔ y ∈ x :: xs ∧ y ∉ O := fun y => by simp [ys]
    have hlen : (x :: xs).length = p + ys.length := by
      have h1 : (x :: xs).length = ((x :: xs).filter fun y => decide (y ∈ O)).length + ys.length := by
        exact filt_add (fun y => decide (y ∈ O)) (x :: xs)
      have h2 : ((x :: xs).filter fun y => decide (y ∈ O)).length ≤ O.length := nd_le (hnd.filter _) (fun y hy => by simpa using (List.mem_filter.mp hy).2)
      have h3' : O.length ≤ ((x :: xs).filter fun y => decide (y ∈ O)).length := nd_le hO (fun y hy => by
        refine List.mem_filter.mpr ⟨?_, by simpa using hy⟩
        obtain ⟨j, _, rfl⟩ := (hmO y).mp hy
        exact hin j)
      have h4' : O.length = p := by simp [O]
      omega
    have hmod : ∀ j, ∃ i, i < p ∧ itF F j x = itF F i x := fun j => by
      induction j with
      | zero => exact ⟨0, by omega, rfl⟩
      | succ j ih =>
        obtain ⟨i, hi, e⟩ := ih
        by_cases g : i + 1 = p
        · refine ⟨0, by omega, ?_⟩
          show F (itF F j x) = x
          rw [e]
          have : itF F (i + 1) x = x := by rw [g]; exact h3
          exact this
        · exact ⟨i + 1, by omega, by show F _ = F _; rw [e]⟩
    have ih := orb_div (F := F) (N := N) hp n ys (by rw [hlen] at hn; omega) (hnd.filter _) (fun y hy => by
      obtain ⟨g1, g2⟩ := (hys y).mp hy
      refine (hys _).mpr ⟨hc y g1, fun hO' => g2 ?_⟩
      obtain ⟨j, hj, e⟩ := (hmO _).mp hO'
      obtain ⟨_, _, k3, _⟩ := perN_spec (F := F) (N := N) (x := y) (by rw [hper y g1]; omega)
      rw [hper y g1] at k3
      have ey : y = itF F (p - 1 + j) x := by
        rw [itF_add, e, ← itF_succ', show p - 1 + 1 = p by omega, k3]
      obtain ⟨i, hi, e2⟩ := hmod (p - 1 + j)
      exact (hmO y).mpr ⟨i, hi, by rw [← e2, ← ey]⟩) (fun y hy => hper y ((hys y).mp hy).1)
    rw [hlen, Nat.add_mod_left]
    exact ih
theorem cyL_count {nx : List Int} {k : Nat} : (cyL nx).count (k : Int) = ((List.range nx.length).filter fun x => decide (perN (nxF nx) nx.length x = k)).length := by
  unfold cyL
  rw [List.count_eq_countP, List.countP_map, List.countP_eq_length_filter]
  congr 1
  apply List.filter_congr
  intro x _
  simp only [Function.comp]
  by_cases h : perN (nxF nx) nx.length x = k
  · simp [h]
  · simp [h]; omega
theorem cyc_div {nx : List Int} (h : nxP nx) {k : Nat} (k0 : 1 ≤ k) : (cyL nx).count (k : Int) % k = 0 := by
  rw [cyL_count]
  refine orb_div (F := nxF nx) (N := nx.length) k0 _ _ (Nat.le_refl _) (List.nodup_range.filter _) (fun x hx => ?_) (fun x hx => by simpa using (List.mem_filter.mp hx).2)
  obtain ⟨h1, h2⟩ := List.mem_filter.mp hx
  have hx' := List.mem_range.mp h1
  have hk : perN (nxF nx) nx.length x = k := by simpa using h2
  refine List.mem_filter.mpr ⟨List.mem_range.mpr (nxF_lt h x hx'), ?_⟩
  rw [perN_next (nxF_lt h) hx' (by omega), hk]; simp
/-- What is known of lengths and counts. -/
theorem cyc_row {nx : List Int} (h : nxP nx) {k : Nat} (hk : 0 < cntK (cyL nx) k) : 1 ≤ (k : Int) ∧ (k : Int) ≤ cntK (cyL nx) k ∧ cntK (cyL nx) k % (k : Int) = 0 := by
  unfold cntK at hk ⊢
  split at hk
  · omega
  · rename_i h0
    rw [if_neg h0]
    have hd := cyc_div h (k := k) (by omega)
    have hle : k ≤ (cyL nx).count (k : Int) := Nat.le_of_dvd (by omega) (Nat.dvd_of_mod_eq_zero hd)
    refine ⟨by omega, by omega, ?_⟩
    rw [← Int.natCast_emod, hd]; rfl
/-! ### sums -/
def smK (c : Nat → Int) (l : List Int) : Int := (l.map fun k => c k.toNat).sum
theorem smK_snoc (c : Nat → Int) (l : List Int) (x : Int) : smK c (l ++ [x]) = smK c l + c x.toNat := by simp [smK]
theorem smK_ky (c : Nat → Int) (h : ∀ k, 0 ≤ c k) : ∀ m : Nat, smK c (kyL c m) = ((List.range m).map c).sum
  | 0 => rfl
  | m + 1 => by
    have ih := smK_ky c h m
    have e : kyL c (m + 1) = kyL c m ++ (if 0 < c m then [(m : Int)] else []) := by
      unfold kyL
      rw [List.range_succ, List.filter_append, List.map_append]
      congr 1
      by_cases g : 0 < c m
      · rw [if_pos g]; simp [g]
      · rw [if_neg g]; simp [g]
    rw [e, List.range_succ, List.map_append, List.sum_append, ← ih]
    by_cases g : 0 < c m
    · rw [if_pos g, smK_snoc]; simp
    · rw [if_neg g]; have := h m; simp; omega
theorem sum_add_one {f g : Nat → Int} {m x : Nat} (hx : x < m) (h : ∀ k, k < m → g k = f k + if x = k then 1 else 0) : ((List.range m).map g).sum = ((List.range m).map f).sum + 1 := by
  induction m with
  | zero => omega
  | succ m ih =>
    rw [List.range_succ, List.map_append, List.map_append, List.sum_append, List.sum_append]
    by_cases e : x = m
    · subst e
      have e1 : (List.range x).map g = (List.range x).map f := List.map_congr_left fun k hk => by
        have hk' := List.mem_range.mp hk
        rw [h k (by omega), if_neg (by omega)]; simp
      rw [e1]
      have := h x (by omega)
      rw [if_pos rfl] at this
      simp [this]; omega
    · rw [ih (by omega) (fun k hk => h k (by omega))]
      have := h m (by omega)
      rw [if_neg e] at this
      simp [this]; omega
theorem cnt_sum {L : List Int} {N : Nat} (hL : ∀ x ∈ L, 0 ≤ x ∧ x ≤ (N : Int)) : ((List.range (N + 1)).map (cntK L)).sum = posC L := by
  have key : ∀ t, t ≤ L.length → ((List.range (N + 1)).map (cntK (L.take t))).sum = posC (L.take t) := by
    intro t
    induction t with
    | zero =>
      intro _
      have e : (List.range (N + 1)).map (cntK (L.take 0)) = List.replicate (N + 1) 0 := by
        apply List.ext_getElem
        · simp
        · intro i h1 h2; simp [cntK]
      rw [e]; simp [posC]
    | succ t ih =>
      intro ht
      rw [posC_take (by omega), ← ih (by omega)]
      have hm := hL _ (at_mem 0 L (i := (t : Int)) (by omega) (by omega))
      by_cases hp : 0 < at_ 0 L (t : Int)
      · rw [if_pos hp]
        refine sum_add_one (x := (at_ 0 L (t : Int)).toNat) (by omega) (fun k _ => ?_)
        unfold cntK
        by_cases k0 : k = 0
        · rw [if_pos k0, if_pos k0, if_neg (by omega)]; rfl
        · rw [if_neg k0, if_neg k0, count_take (by omega)]
          by_cases e : at_ 0 L (t : Int) = (k : Int)
          · rw [if_pos e, if_pos (by omega)]
          · rw [if_neg e, if_neg (by omega)]
      · rw [if_neg hp]
        have e : (List.range (N + 1)).map (cntK (L.take (t + 1))) = (List.range (N + 1)).map (cntK (L.take t)) := List.map_congr_left fun k _ => by
          unfold cntK
          by_cases k0 : k = 0
          · rw [if_pos k0, if_pos k0]
          · rw [if_neg k0, if_neg k0, count_take (by omega), if_neg (by omega)]; simp
        rw [e]; simp
  have := key L.length (Nat.le_refl _)
  rwa [List.take_length] at this
theorem cyL_in {nx : List Int} : ∀ x ∈ cyL nx, 0 ≤ x ∧ x ≤ (nx.length : Int) := fun x hx => by
  unfold cyL at hx
  obtain ⟨k, _, rfl⟩ := List.mem_map.mp hx
  have := perN_le (F := nxF nx) (N := nx.length) k
  omega
/-- The counts' sum is told. -/
theorem smK_all (nx : List Int) : smK (cntK (cyL nx)) (kyL (cntK (cyL nx)) (nx.length + 1)) = posC (cyL nx) := by
  rw [smK_ky _ (fun k => (cnt_bnd _ k).1), cnt_sum cyL_in]
theorem csG_at {c : Nat → Int} {m t : Nat} (ht : t < (kyL c m).length) : at_ 0 (csG c m) (2 * (t : Int)) = at_ 0 (kyL c m) (t : Int) ∧ at_ 0 (csG c m) (2 * (t : Int) + 1) = c (at_ 0 (kyL c m) (t : Int)).toNat := by
  rw [csG_ky]
  generalize kyL c m = l at ht
  have key : ∀ (l : List Int) (t : Nat), t < l.length → at_ 0 (l.flatMap fun k => [k, c k.toNat]) ((2 * t : Nat) : Int) = at_ 0 l (t : Int) ∧ at_ 0 (l.flatMap fun k => [k, c k.toNat]) ((2 * t + 1 : Nat) : Int) = c (at_ 0 l (t : Int)).toNat := by
    intro l
    induction l with
    | nil => intro t h; simp at h
    | cons a l ih =>
      intro t h
      cases t with
      | zero => exact ⟨rfl, rfl⟩
      | succ t =>
        obtain ⟨i1, i2⟩ := ih t (by simpa using h)
        have e0 : at_ 0 (a :: l) ((t + 1 : Nat) : Int) = at_ 0 l (t : Int) := by
          rw [at_eq 0 _ h, at_eq 0 _ (by simpa using h)]; simp
        rw [e0, ← i2, ← i1]
        rw [List.flatMap_cons]
        unfold at_
        simp only [Int.toNat_natCast, List.getD_eq_getElem?_getD]
        rw [show 2 * (t + 1) = 2 * t + 1 + 1 by omega, show 2 * t + 1 + 1 + 1 = (2 * t + 1) + 1 + 1 by omega]
        exact ⟨rfl, rfl⟩
  obtain ⟨k1, k2⟩ := key l t ht
  exact ⟨by rw [← k1]; congr 1, by rw [← k2]; congr 1⟩
theorem csG_len2 {c : Nat → Int} {m : Nat} : (csG c m).length = 2 * (kyL c m).length := by
  rw [csG_ky]
  generalize kyL c m = l
  induction l with
  | nil => rfl
  | cons a l ih => rw [List.flatMap_cons, List.length_append, ih]; simp; omega
theorem ky_pos {c : Nat → Int} {m t : Nat} (ht : t < (kyL c m).length) : ∃ k : Nat, at_ 0 (kyL c m) (t : Int) = (k : Int) ∧ 0 < c k ∧ k < m := by
  have := at_mem 0 (kyL c m) (i := (t : Int)) (by omega) (by omega)
  unfold kyL at this ⊢
  simp only [List.mem_map, List.mem_filter, List.mem_range, decide_eq_true_eq] at this
  obtain ⟨k, ⟨h1, h2⟩, e⟩ := this
  exact ⟨k, e.symm, h2, h1⟩
theorem smK_take {c : Nat → Int} {l : List Int} {t : Nat} (ht : t < l.length) : smK c (l.take (t + 1)) = smK c (l.take t) + c (at_ 0 l (t : Int)).toNat := by
  rw [List.take_succ_eq_append_getElem ht, smK_snoc, at_eq 0 l ht]
theorem smK_bnd {c : Nat → Int} {b : Int} (h : ∀ k, 0 ≤ c k ∧ c k ≤ b) : ∀ l : List Int, 0 ≤ smK c l ∧ smK c l ≤ l.length * b
  | [] => by simp [smK]
  | a :: l => by
    have ⟨p, q⟩ := smK_bnd h l
    have := h a.toNat
    have e : smK c (a :: l) = c a.toNat + smK c l := by simp [smK]
    rw [e, List.length_cons, Int.natCast_add, Int.add_mul]
    simp; omega
/-! ### images -/
/-- What has been led to, by the first t steps. -/
def imS (nx : List Int) (t : Nat) : List Bool := (List.range nx.length).map fun (y : Nat) => decide ((y : Int) ∈ nx.take t)
def imN (nx : List Int) (t : Nat) : Int := ((imS nx t).countP id : Int)
theorem imS_len (nx : List Int) (t : Nat) : (imS nx t).length = nx.length := by simp [imS]
theorem imS_zero (nx : List Int) : List.replicate nx.length false = imS nx 0 := by
  apply List.ext_getElem
  · simp [imS]
  · intro i h1 h2; simp [imS]
theorem imN_zero (nx : List Int) : imN nx 0 = 0 := by
  unfold imN
  rw [← imS_zero, List.countP_replicate]; rfl
theorem imS_at {nx : List Int} {t y : Nat} (h : y < nx.length) : at_ false (imS nx t) (y : Int) = decide ((y : Int) ∈ nx.take t) := by
  rw [at_eq false _ (by rw [imS_len]; exact h)]; simp [imS]
theorem mem_take_succ {nx : List Int} {t : Nat} (ht : t < nx.length) (y : Int) : y ∈ nx.take (t + 1) ↔ y ∈ nx.take t ∨ y = at_ 0 nx (t : Int) := by
  rw [List.take_succ_eq_append_getElem ht, List.mem_append, List.mem_singleton, at_eq 0 nx ht]
theorem imS_skip {nx : List Int} {t : Nat} (ht : t < nx.length) (h : at_ 0 nx (t : Int) ∈ nx.take t) : imS nx t = imS nx (t + 1) := by
  apply List.ext_getElem
  · simp [imS]
  · intro i h1 h2
    simp only [imS, List.getElem_map, List.getElem_range]
    rw [decide_eq_decide, mem_take_succ ht]
    exact ⟨.inl, fun g => g.elim id (fun e => by rw [e]; exact h)⟩
theorem imS_put {nx : List Int} {t k : Nat} (ht : t < nx.length) (hk : k = (at_ 0 nx (t : Int)).toNat) (h0 : 0 ≤ at_ 0 nx (t : Int)) : (imS nx t).set k true = imS nx (t + 1) := by
  subst hk
  apply List.ext_getElem
  · simp [imS]
  · intro i h1 h2
    simp only [imS, List.getElem_set, List.getElem_map, List.getElem_range]
    by_cases e : (at_ 0 nx (t : Int)).toNat = i
    · rw [if_pos e]
      exact (decide_eq_true ((mem_take_succ ht _).mpr (.inr (by omega)))).symm
    · rw [if_neg e, decide_eq_decide, mem_take_succ ht]
      exact ⟨.inl, fun g => g.elim id (fun e2 => absurd (show (at_ 0 nx (t : Int)).toNat = i by omega) e)⟩
theorem imN_put {nx : List Int} {t : Nat} (hx : nxP nx) (ht : t < nx.length) (h : ¬ at_ 0 nx (t : Int) ∈ nx.take t) : imN nx (t + 1) = imN nx t + 1 := by
  have hb := hx _ (at_mem 0 nx (i := (t : Int)) (by omega) (by omega))
  have hlt : (at_ 0 nx (t : Int)).toNat < (imS nx t).length := by rw [imS_len]; omega
  unfold imN
  rw [← imS_put ht rfl hb.1, List.countP_set hlt]
  have e : (imS nx t)[(at_ 0 nx (t : Int)).toNat] = false := by
    have := imS_at (nx := nx) (t := t) (y := (at_ 0 nx (t : Int)).toNat) (by omega)
    rw [at_eq false _ hlt] at this
    rw [this, Int.toNat_of_nonneg hb.1]
    exact decide_eq_false h
  rw [e]
  simp
theorem imN_bnd (nx : List Int) (t : Nat) : 0 ≤ imN nx t ∧ imN nx t ≤ nx.length := by
  unfold imN
  have := List.countP_le_length (p := id) (l := imS nx t)
  rw [imS_len] at this
  omega
theorem cyc_images {nx : List Int} (hx : nxP nx) : posC (cyL nx) ≤ imN nx nx.length := by
  unfold posC imN cyL imS
  rw [List.countP_map, List.countP_map]
  have := List.countP_mono_left (l := List.range nx.length) (p := (fun x : Int => decide (0 < x)) ∘ fun x => ((perN (nxF nx) nx.length x : Nat) : Int)) (q := id ∘ fun (y : Nat) => decide ((y : Int) ∈ nx.take nx.length)) (fun x hm hp => by
    simp only [Function.comp, decide_eq_true_eq, id] at hp ⊢
    have hx' := List.mem_range.mp hm
    obtain ⟨h1, h2, h3, _⟩ := perN_spec (F := nxF nx) (N := nx.length) (x := x) (by omega)
    rw [List.take_length]
    have e : at_ 0 nx ((itF (nxF nx) (perN (nxF nx) nx.length x - 1) x : Nat) : Int) = (x : Int) := by
      rw [nxW_at hx hx', show perN (nxF nx) nx.length x - 1 + 1 = perN (nxF nx) nx.length x by omega, h3]
    rw [← e]
    have hl := itF_lt (nxF_lt hx) hx' (perN (nxF nx) nx.length x - 1)
    exact at_mem 0 nx (by omega) (by omega))
  omega
end Go.Proofs.Ythmdmbbdjbhcoaa
/- Steps of all rings, how long each one's cycle is, how deep it lies. -/
namespace Go.Proofs.Ythmdmbbdjbhcoaa
open HL
set_option maxRecDepth 100000
/-- A rule whose rings of n cells are few. -/
def smlP (st rc : Int) (T : List Int) (n : Int) : Prop := ruleP st rc T ∧ 2 * rc + 1 ≤ n ∧ n ≤ (if st = 2 then 12 else 8)
instance (st rc : Int) (T : List Int) (n : Int) : Decidable (smlP st rc T n) := by unfold smlP; infer_instance
theorem sml_pw {st rc n : Int} {T : List Int} (h : smlP st rc T n) : 1 ≤ pwr st n ∧ pwr st n ≤ 6561 ∧ 1 ≤ n ∧ n ≤ 12 := by
  obtain ⟨⟨h1, h2, _⟩, h3, h4⟩ := h
  have e2 : ∀ k : Fin 13, 1 ≤ (2 : Int) ^ (k : Nat) ∧ (2 : Int) ^ (k : Nat) ≤ 6561 := by decide
  have e3 : ∀ k : Fin 9, 1 ≤ (3 : Int) ^ (k : Nat) ∧ (3 : Int) ^ (k : Nat) ≤ 6561 := by decide
  rcases h1 with rfl | rfl
  · rw [if_pos rfl] at h4
    have := e2 ⟨n.toNat, by omega⟩
    exact ⟨this.1, this.2, by omega, by omega⟩
  · rw [if_neg (by omega)] at h4
    have := e3 ⟨n.toNat, by omega⟩
    exact ⟨this.1, this.2, by omega, by omega⟩
/-- The next ring of a ring, by their numbers. -/
def nsF (st rc : Int) (T : List Int) (n : Int) (k : Nat) : Int := numL st (stpL st rc T (digL (k : Int) st n.toNat))
def nsG (st rc : Int) (T : List Int) (n : Int) (m : Nat) : List Int := (List.range m).map (nsF st rc T n)
def nsL (st rc : Int) (T : List Int) (n : Int) : List Int := nsG st rc T n (pwr st n).toNat
section
variable {st rc n : Int} {T : List Int} {m : Nat}
theorem nsG_succ : nsG st rc T n m ++ [nsF st rc T n m] = nsG st rc T n (m + 1) := by simp [nsG, List.range_succ]
theorem nsG_len : (nsG st rc T n m).length = m := by simp [nsG]
theorem nsL_len : (nsL st rc T n).length = (pwr st n).toNat := nsG_len
theorem stp_in (h : smlP st rc T n) (k : Nat) : ∀ x ∈ stpL st rc T (digL (k : Int) st n.toNat), 0 ≤ x ∧ x ≤ st - 1 := by
  have := (sml_pw h).2.2
  have hl : 0 < (digL (k : Int) st n.toNat).length := by rw [digL_len]; omega
  exact stpF_in h.1 (digL_in (by have := h.1.1; omega)) hl _
theorem nsF_bnd (h : smlP st rc T n) (k : Nat) : 0 ≤ nsF st rc T n k ∧ nsF st rc T n k < pwr st n := by
  have hb := numL_bnd (b := st) (by have := h.1.1; omega) (stp_in h k)
  rw [stpL_len, digL_len] at hb
  exact hb
theorem nsL_nx (h : smlP st rc T n) : nxP (nsL st rc T n) := fun x hx => by
  have hp := sml_pw h
  unfold nsL nsG at hx
  obtain ⟨k, _, rfl⟩ := List.mem_map.mp hx
  have := nsF_bnd h k
  rw [nsL_len]
  omega
end
theorem dp_exit {nx D : List Int} {w : Nat} (hw : w < nx.length) (hd : DpI nx 0 D) (h : perN (nxF nx) nx.length w ≠ 0 ∨ ¬ at_ 0 D (w : Int) < 0) : max 0 (at_ 0 D (w : Int)) = ((dpF nx w : Nat) : Int) := by
  rcases hd.2 w hw with e | ⟨e, e2⟩
  · rcases h with h | h
    · rw [dpF_zero hw h, e]; rfl
    · omega
  · rcases h with h | h
    · exact absurd e2 h
    · rw [e]; omega
theorem cy_ne {nx : List Int} {w : Nat} (hw : w < nx.length) : (at_ 0 (cyL nx) (w : Int) = 0 ↔ perN (nxF nx) nx.length w = 0) := by
  rw [cyL_at hw]; omega
theorem pth_back {nx : List Int} {s n t : Nat} (ht : t < (pthL nx s n).length) : at_ 0 (pthL nx s n) (((pthL nx s n).length : Int) - 1 - (t : Int)) = ((itF (nxF nx) (n - 1 - t) s : Nat) : Int) := by
  have h := ht
  rw [pthL_len] at h
  rw [pthL_len, show ((n : Int) - 1 - (t : Int)) = ((n - 1 - t : Nat) : Int) by omega]
  exact pthL_at (by omega)
theorem place_at {nx P : List Int} {s n p : Nat} (h : plP nx s n P) (hp : p < n) (he : itF (nxF nx) n s = itF (nxF nx) p s) : at_ 0 P ((itF (nxF nx) n s : Nat) : Int) = (p : Int) := by
  rw [he]; exact h.2 p hp
theorem cyS_ends {nx F0 F L0 lo : List Int} {s n p j : Nat} (hx : nxP nx) (hs : s < nx.length) (hI : CyI nx s F0 L0) (hW : CyW nx s n F0 F) (he : itF (nxF nx) n s = itF (nxF nx) p s) (hj : p + j < n) (h : CyS nx s n p (j + 1) L0 lo) : (at_ 0 lo (at_ 0 nx ((itF (nxF nx) (p + j) s : Nat) : Int)) ≠ 0 ↔ j + 1 = n - p) := by
  rw [nxW_at hx hs (p + j), show p + j + 1 = p + (j + 1) by omega]
  constructor
  · intro h1
    by_cases g : p + (j + 1) < n
    · exact absurd (h.zero hx hs hI hW g) h1
    · omega
  · intro e
    exact h.full he e (by omega)
theorem place_bnd {nx F0 F L0 P : List Int} {s n : Nat} (hx : nxP nx) (hs : s < nx.length) (hI : CyI nx s F0 L0) (hW : CyW nx s n F0 F) (hP : plP nx s n P) : at_ 0 F ((itF (nxF nx) n s : Nat) : Int) ≠ (s : Int) + 1 ∨ (0 ≤ at_ 0 P ((itF (nxF nx) n s : Nat) : Int) ∧ at_ 0 P ((itF (nxF nx) n s : Nat) : Int) ≤ (n : Int)) := by
  by_cases g : at_ 0 F ((itF (nxF nx) n s : Nat) : Int) = (s : Int) + 1
  · obtain ⟨p, hp, he⟩ := hW.back hx hs hI g
    rw [place_at hP hp he]; omega
  · exact .inl g
theorem round_at {nx : List Int} {s n p : Nat} (hx : nxP nx) (hs : s < nx.length) (he : itF (nxF nx) n s = itF (nxF nx) p s) : at_ 0 nx ((itF (nxF nx) n s : Nat) : Int) = ((itF (nxF nx) (p + 1 + 0) s : Nat) : Int) := by
  rw [nxW_at hx hs n]
  show ((nxF nx (itF (nxF nx) n s) : Nat) : Int) = ((nxF nx (itF (nxF nx) p s) : Nat) : Int)
  rw [he]
theorem C.impl_Rule_mostCells {vt : Value} {st rc a b : Int} {T : List Int}  {H : Hp} {K : Value → Hp → Prop} (hvt0 : Sl eI H vt T)
    (hk : ∀ H', Le H H' → K (.int .i64 (if st = 2 then a else b)) H') : HT prg I.impl_Rule_mostCells [(.agg #[(.int .i64 (st)), (.int .i64 (rc)), vt]), (.int .i64 (a)), (.int .i64 (b))].toArray H K := by
 have lE := Le.refl H
 refine R.impl_Rule_mostCells ?_
 unfold F.impl_Rule_mostCells
 refine nw_i (fun p1 H2 op1 nn3 le4 => ?_)
 replace lE := lE.trans le4
 replace op1 : Cel H2 p1 [(.int .i64 (st)), (.int .i64 (rc)), vt] := op1
 refine ob_i (op1.fa 0) ?_
 refine ob_i (op1.ld 0 rfl) ?_
 refine ob_i (vInt_eql _ _ _) ?_
 refine cnd_d (fun hg5 => ?_) (fun hg5 => ?_)
 ·skip
  skip
  exact keq (K := K) (by rw [show ((if st = 2 then a else b) : Int) = (a) from by rw [if_pos hg5]]) (hk   _    lE)
 ·skip
  skip
  exact keq (K := K) (by rw [show ((if st = 2 then a else b) : Int) = (b) from by rw [if_neg hg5]]) (hk   _    lE)
theorem C.impl_small {vt : Value} {st rc n : Int} {T : List Int}  {H : Hp} {K : Value → Hp → Prop} (hvt0 : Sl eI H vt T) (k1 : T.length ≤ 9223372036854775807)
    (hk : ∀ H', Le H H' → K (.bool (decide (smlP st rc T n))) H') : HT prg I.impl_small [(.agg #[(.int .i64 (st)), (.int .i64 (rc)), vt]), (.int .i64 (n))].toArray H K := by
 have lE := Le.refl H
 have hvt := hvt0
 refine R.impl_small ?_
 unfold F.impl_small
 refine nw_i (fun p1 H2 op1 nn3 le4 => ?_)
 replace hvt := hvt.le le4
 replace lE := lE.trans le4
 replace op1 : Cel H2 p1 [(.int .i64 (st)), (.int .i64 (rc)), vt] := op1
 refine ob_i (op1.ldn rfl) ?_
 refine C.impl_ValidRule hvt (by first | omega | assumption) (fun   H5    le6 => ?_)
 replace op1 := op1.le le6
 replace hvt := hvt.le le6
 replace lE := lE.trans le6
 refine ⟨le6, ?_⟩
 by_cases hc7 : ruleP st rc T
 ·skip
  have hru := hc7
  have hr1 := hru.1
  have hr2 := hru.2.1
  refine gop_e (decide_eq_true hc7) ?_
  refine gop_rt ?_
  refine gop_e (decide_eq_true hc7) ?_
  refine gop_rt ?_
  refine ob_i (op1.ldn rfl) ?_
  refine gop_e (decide_eq_true hc7) ?_
  refine gop_rt ?_
  refine ob_i (op1.ldn rfl) ?_
  refine gop_e (decide_eq_true hc7) ?_
  refine gop_rt ?_
  refine C.impl_Rule_cells hvt (by first | omega | assumption) (by first | omega | assumption) (fun   H8    le9 => ?_)
  replace hvt := hvt.le le9
  replace lE := lE.trans le9
  refine ⟨le9, ?_⟩
  refine gop_e (decide_eq_true hc7) ?_
  refine gop_rt ?_
  refine C.impl_Rule_mostCells hvt (fun   H10    le11 => ?_)
  replace lE := lE.trans le11
  refine ⟨le11, ?_⟩
  refine gop_e (decide_eq_true hc7) ?_
  refine gop_rt ?_
  refine C.impl_within  ?_
  refine ⟨Le.refl _, ?_⟩
  refine ob_i (vPick_et (decide_eq_true hc7) _ _) ?_
  skip
  exact keq (K := K) (by rw [show decide ((2 * rc + 1) ≤ n ∧ n ≤ (if st = 2 then 12 else 8)) = decide (smlP st rc T n) from decide_eq_decide.mpr (by exact ⟨fun h => ⟨by assumption, h⟩, fun h => h.2⟩)]) (hk   _    lE)
 ·skip
  refine gop_e (decide_eq_false hc7) ?_
  refine gop_sf ?_
  refine gop_e (decide_eq_false hc7) ?_
  refine gop_sf ?_
  refine gop_e (decide_eq_false hc7) ?_
  refine gop_sf ?_
  refine gop_e (decide_eq_false hc7) ?_
  refine gop_sf ?_
  refine gop_e (decide_eq_false hc7) ?_
  refine gop_sf ?_
  refine gop_e (decide_eq_false hc7) ?_
  refine gop_sf ?_
  refine ob_i (vPick_ef (decide_eq_false hc7) _ _) ?_
  skip
  exact keq (K := K) (by rw [decide_eq_false (show ¬ (smlP st rc T n) from by exact fun h => absurd h.1 (by assumption))]) (hk   _    lE)
theorem C.spec_l03Small {p vt : Value} {n st rc : Int} {T : List Int}  {H : Hp} {K : Value → Hp → Prop} (hp0 : Cel H p [(.int .i64 (st)), (.int .i64 (rc)), vt]) (hvt0 : Sl eI H vt T) (k1 : T.length ≤ 9223372036854775807)
    (hk : ∀ H', Le H H' → K (.bool (decide (smlP st rc T n))) H') : HT prg I.spec_l03Small [p, (.int .i64 (n)), (.int .i64 (12)), (.int .i64 (8))].toArray H K := by
 have lE := Le.refl H
 have hp := hp0
 have hvt := hvt0
 refine R.spec_l03Small ?_
 unfold F.spec_l03Small
 refine C.spec_l02Is hp hvt (by first | omega | assumption) (fun   H1    le2 => ?_)
 replace hp := hp.le le2
 replace hvt := hvt.le le2
 replace lE := lE.trans le2
 refine ob_nd (fun hc3 => ?_) (fun hc3 => ?_)
 ·skip
  have hru := hc3
  have hr1 := hru.1
  have hr2 := hru.2.1
  refine cnd_f1 ?_
  refine ob_i (hp.nilC) ?_
  refine ob_i (hp.fa 0) ?_
  refine ob_i (hp.ld 0 rfl) ?_
  refine ob_i (vInt_eql _ _ _) ?_
  refine cnd_d (fun hg4 => ?_) (fun hg4 => ?_)
  ·skip
   refine C.spec_l03Wide hp hvt (by first | omega | assumption) (by first | omega | assumption) ?_
   refine C.spec_l00In  ?_
   skip
   exact keq (K := K) (by rw [show decide ((2 * rc + 1) ≤ n ∧ n ≤ 8) = decide (smlP st rc T n) from decide_eq_decide.mpr (by first | exact ⟨fun h => ⟨hru, h.1, by rw [if_neg (by omega)]; exact h.2⟩, fun h => ⟨h.2.1, by have h9 := h.2.2; rw [if_neg (by omega)] at h9; exact h9⟩⟩ | exact ⟨fun h => ⟨hru, h.1, by rw [if_pos (by omega)]; exact h.2⟩, fun h => ⟨h.2.1, by have h9 := h.2.2; rw [if_pos (by omega)] at h9; exact h9⟩⟩)]) (hk   _    lE)
  ·skip
   refine C.spec_l03Wide hp hvt (by first | omega | assumption) (by first | omega | assumption) ?_
   refine C.spec_l00In  ?_
   skip
   exact keq (K := K) (by rw [show decide ((2 * rc + 1) ≤ n ∧ n ≤ 12) = decide (smlP st rc T n) from decide_eq_decide.mpr (by first | exact ⟨fun h => ⟨hru, h.1, by rw [if_neg (by omega)]; exact h.2⟩, fun h => ⟨h.2.1, by have h9 := h.2.2; rw [if_neg (by omega)] at h9; exact h9⟩⟩ | exact ⟨fun h => ⟨hru, h.1, by rw [if_pos (by omega)]; exact h.2⟩, fun h => ⟨h.2.1, by have h9 := h.2.2; rw [if_pos (by omega)] at h9; exact h9⟩⟩)]) (hk   _    lE)
 ·skip
  refine cnd_t1 ?_
  skip
  exact keq (K := K) (by rw [decide_eq_false (show ¬ (smlP st rc T n) from by exact fun h => absurd h.1 (by assumption))]) (hk   _    lE)
theorem C.impl_Rule_steps {vt : Value} {st rc n : Int} {T : List Int}  {H : Hp} {K : Value → Hp → Prop} (hvt0 : Sl eI H vt T) (hS : smlP st rc T n)
    (hk : ∀ u1 H', Own eI H' u1 (nsL st rc T n) → Nw H u1 → Le H H' → K u1 H') : HT prg I.impl_Rule_steps [(.agg #[(.int .i64 (st)), (.int .i64 (rc)), vt]), (.int .i64 (n))].toArray H K := by
 have lE := Le.refl H
 have hvt := hvt0
 refine R.impl_Rule_steps ?_
 unfold F.impl_Rule_steps
 have hr := hS.1
 have hr1 := hr.1
 have hr2 := hr.2.1
 have hr4 := hr.2.2.2
 have hpw := sml_pw hS
 refine nw_i (fun p1 H2 op1 nn3 le4 => ?_)
 replace hvt := hvt.le le4
 replace lE := lE.trans le4
 replace op1 : Cel H2 p1 [(.int .i64 (st)), (.int .i64 (rc)), vt] := op1
 refine bS_nil (enc := eI) (fun u5 H6 ou5 nn7 kk8 le9 => ?_)
 have ap1Xu5 : Apart p1 u5 := op1.apart nn7
 have nu5 : Nw H u5 := nn7.le lE
 replace op1 := op1.le le9
 replace hvt := hvt.le le9
 replace lE := lE.trans le9
 refine jn_i (fun σ' H' => ∃ u, σ' 5 = u ∧ Cel H' p1 [(.int .i64 (st)), (.int .i64 (rc)), vt] ∧ Own eI H' u (nsL st rc T n) ∧ Nw H u ∧ Apart p1 u ∧ Le H H') (fun σ10 H10 hP => ?_) (fun J10 hJ10 => ?_)
 ·skip
  obtain ⟨u, g5L10, op1, ou, nu, ap1Xu, lE⟩ := hP
  try simp only [g5L10]
  skip
  exact hk  u _ ou nu  lE
 refine ob_i (op1.fa 0) ?_
 refine ob_i (op1.ld 0 rfl) ?_
 refine C.impl_raised (by first | omega | assumption) (by first | omega | assumption) (by first | omega | assumption) (by first | omega | assumption) (fun   H11    le12 => ?_)
 replace op1 := op1.le le12
 replace ou5 := ou5.le le12
 replace hvt := hvt.le le12
 replace lE := lE.trans le12
 refine ⟨fun n' σ' H' => ∃ i : Nat, n' = (pwr st n).toNat - i ∧ i ≤ (pwr st n).toNat ∧ ∃ u, σ' 1 = (.int .i64 (n)) ∧ σ' 2 = p1 ∧ σ' 5 = u ∧ σ' 11 = (.int .i64 (pwr st n)) ∧ σ' 12 = (.int .i64 ((i : Int))) ∧ Cel H' p1 [(.int .i64 (st)), (.int .i64 (rc)), vt] ∧ Own eI H' u (nsG st rc T n i) ∧ Nw H u ∧ Apart p1 u ∧ Le H H',
  ⟨_, 0, rfl, by omega, u5, rfl, rfl, rfl, rfl, (congrArg (Value.int .i64) (by first | omega | rfl | (simp; done))), op1, (Own.cast (by first | rfl | (simp; done)) ou5), nu5, ap1Xu5, lE⟩, ?_⟩
 rintro n13 σ13 H13 ⟨i, rfl, hiN, u, g1L13, g2L13, g5L13, g11L13, g12L13, op1, ou, nu, ap1Xu, lE⟩
 have hvt := hvt0.le lE
 try simp only [g1L13, g2L13, g5L13, g11L13, g12L13]
 have dl := digL_len (i : Int) st n.toNat
 have di := digL_in (n := (i : Int)) (b := st) (k := n.toNat) (by omega)
 have sl := stpL_len st rc T (digL (i : Int) st n.toNat)
 have si := stp_in hS i
 have gl := nsG_len (st := st) (rc := rc) (T := T) (n := n) (m := i)
 have nb := nsF_bnd hS i
 refine ob_i (vInt_lss _ _ _) ?_
 refine cnd_d (fun hg14 => ?_) (fun hg14 => ?_)
 ·skip
  have ti := hg14
  refine ob_i (op1.ldn rfl) ?_
  refine ob_i (op1.fa 0) ?_
  refine ob_i (op1.ld 0 rfl) ?_
  refine ob_i (op1.fa 0) ?_
  refine ob_i (op1.ld 0 rfl) ?_
  refine C.impl_digitsOf (by first | omega | assumption) (by first | omega | assumption) (by first | omega | assumption) (by first | omega | assumption) (by first | omega | assumption) (by first | omega | assumption) (fun  u17 H15 ou17 nn18  le16 => ?_)
  replace op1 := op1.le le16
  replace ou := ou.le le16
  replace hvt := hvt.le le16
  replace lE := lE.trans le16
  refine ⟨le16, ?_⟩
  refine C.impl_Rule_step hvt ou17.sl (by first | omega | assumption) (by first | omega | assumption) (by first | omega | assumption) (by exact di) (fun  u21 H19 ou21 nn22  le20 => ?_)
  replace op1 := op1.le le20
  replace ou := ou.le le20
  replace hvt := hvt.le le20
  replace lE := lE.trans le20
  refine ⟨le20, ?_⟩
  refine C.impl_numberOf ou21.sl (by first | omega | assumption) (by first | omega | assumption) (by exact si) (by first | omega | assumption) (fun   H23    le24 => ?_)
  replace op1 := op1.le le24
  replace ou := ou.le le24
  replace hvt := hvt.le le24
  replace lE := lE.trans le24
  refine ⟨le24, ?_⟩
  refine bS_i (enc := eI) (l := [numL st (stpL st rc T (digL (i : Int) st n.toNat))]) (by omega) rfl (by kernel_rfl) (fun u25 H26 ou25 nn27 le29 => ?_)
  replace op1 := op1.le le29
  replace ou := ou.le le29
  replace hvt := hvt.le le29
  replace lE := lE.trans le29
  refine apd_any ou ou25.sl (fun _ => rfl) (by omega) (by first | omega | (simp only [List.length_cons, List.length_nil]; omega)) (fun u33 H30 ou33 off31 hb32 => ?_)
  have ap1Xu33 : Apart p1 u33 := Apart.ap2 op1.known ap1Xu hb32
  have nu33 : Nw H u33 := Nw.ap2 nu lE hb32
  replace op1 := op1.off off31 ap1Xu
  replace hvt := hvt0.le (off31.le lE nu)
  replace lE := off31.le lE nu
  refine ob_i (vInt_add (by omega) (by omega)) ?_
  exact nxt ((pwr st n).toNat - (i + 1)) (by omega) ⟨i + 1, rfl, by omega, u33, g1L13, g2L13, rfl, g11L13, (congrArg (Value.int .i64) (by first | omega | rfl | (simp; done))), op1, (Own.cast nsG_succ ou33), nu33, ap1Xu33, lE⟩
 ·skip
  have ti := hg14
  obtain rfl : i = (pwr st n).toNat := by omega
  exact hJ10 _ _ ⟨u, g5L13, op1, ou, nu, ap1Xu, lE⟩
theorem C.spec_l03Steps {p vt : Value} {n st rc : Int} {T : List Int}  {H : Hp} {K : Value → Hp → Prop} (hp0 : Cel H p [(.int .i64 (st)), (.int .i64 (rc)), vt]) (hvt0 : Sl eI H vt T) (hS : smlP st rc T n)
    (hk : ∀ u1 H', Own eI H' u1 (nsL st rc T n) → Nw H u1 → Le H H' → K u1 H') : HT prg I.spec_l03Steps [p, (.int .i64 (n))].toArray H K := by
 have lE := Le.refl H
 have hp := hp0
 have hvt := hvt0
 refine R.spec_l03Steps ?_
 unfold F.spec_l03Steps
 have hr := hS.1
 have hr1 := hr.1
 have hr2 := hr.2.1
 have hr4 := hr.2.2.2
 have hpw := sml_pw hS
 refine bS_nil (enc := eI) (fun u1 H2 ou1 nn3 kk4 le5 => ?_)
 have nu1 : Nw H u1 := nn3.le lE
 replace hp := hp.le le5
 replace hvt := hvt.le le5
 replace lE := lE.trans le5
 refine jn_i (fun σ' H' => ∃ u, σ' 5 = u ∧ Own eI H' u (nsL st rc T n) ∧ Nw H u ∧ Le H H') (fun σ6 H6 hP => ?_) (fun J6 hJ6 => ?_)
 ·skip
  obtain ⟨u, g5L6, ou, nu, lE⟩ := hP
  try simp only [g5L6]
  skip
  exact hk  u _ ou nu  lE
 refine ⟨fun n' σ' H' => ∃ i : Nat, n' = (pwr st n).toNat - i ∧ i ≤ (pwr st n).toNat ∧ ∃ u, σ' 0 = p ∧ σ' 1 = (.int .i64 (n)) ∧ σ' 5 = u ∧ σ' 6 = (.int .i64 ((i : Int))) ∧ Own eI H' u (nsG st rc T n i) ∧ Nw H u ∧ Le H H',
  ⟨_, 0, rfl, by omega, u1, rfl, rfl, rfl, (congrArg (Value.int .i64) (by first | omega | rfl | (simp; done))), (Own.cast (by first | rfl | (simp; done)) ou1), nu1, lE⟩, ?_⟩
 rintro n7 σ7 H7 ⟨i, rfl, hiN, u, g0L7, g1L7, g5L7, g6L7, ou, nu, lE⟩
 have hp := hp0.le lE
 have hvt := hvt0.le lE
 try simp only [g0L7, g1L7, g5L7, g6L7]
 have dl := digL_len (i : Int) st n.toNat
 have di := digL_in (n := (i : Int)) (b := st) (k := n.toNat) (by omega)
 have sl := stpL_len st rc T (digL (i : Int) st n.toNat)
 have si := stp_in hS i
 have gl := nsG_len (st := st) (rc := rc) (T := T) (n := n) (m := i)
 have nb := nsF_bnd hS i
 refine ob_i (hp.nilC) ?_
 refine ob_i (hp.fa 0) ?_
 refine ob_i (hp.ld 0 rfl) ?_
 refine C.spec_l03Power (by first | omega | assumption) (by first | omega | assumption) (by first | omega | assumption) (by first | omega | assumption) (fun   H8    le9 => ?_)
 replace ou := ou.le le9
 replace hp := hp.le le9
 replace hvt := hvt.le le9
 replace lE := lE.trans le9
 refine ob_i (vInt_lss _ _ _) ?_
 refine cnd_d (fun hg10 => ?_) (fun hg10 => ?_)
 ·skip
  have ti := hg10
  refine ob_i (hp.nilC) ?_
  refine ob_i (hp.fa 0) ?_
  refine ob_i (hp.ld 0 rfl) ?_
  refine ob_i (hp.nilC) ?_
  refine ob_i (hp.fa 0) ?_
  refine ob_i (hp.ld 0 rfl) ?_
  refine C.spec_l03Cells (by first | omega | assumption) (by first | omega | assumption) (by first | omega | assumption) (by first | omega | assumption) (by first | omega | assumption) (by first | omega | assumption) (fun  u13 H11 ou13 nn14  le12 => ?_)
  replace ou := ou.le le12
  replace hp := hp.le le12
  replace hvt := hvt.le le12
  replace lE := lE.trans le12
  refine ⟨le12, ?_⟩
  refine C.spec_l02Step hp hvt ou13.sl (by first | omega | assumption) (by first | omega | assumption) (by first | omega | assumption) (by exact di) (fun  u17 H15 ou17 nn18  le16 => ?_)
  replace ou := ou.le le16
  replace hp := hp.le le16
  replace hvt := hvt.le le16
  replace lE := lE.trans le16
  refine ⟨le16, ?_⟩
  refine C.spec_l03Number ou17.sl (by first | omega | assumption) (by first | omega | assumption) (by exact si) (by first | omega | assumption) (fun   H19    le20 => ?_)
  replace ou := ou.le le20
  replace hp := hp.le le20
  replace hvt := hvt.le le20
  replace lE := lE.trans le20
  refine ⟨le20, ?_⟩
  refine bS_i (enc := eI) (l := [numL st (stpL st rc T (digL (i : Int) st n.toNat))]) (by omega) rfl (by kernel_rfl) (fun u21 H22 ou21 nn23 le25 => ?_)
  replace ou := ou.le le25
  replace hp := hp.le le25
  replace hvt := hvt.le le25
  replace lE := lE.trans le25
  refine apd_any ou ou21.sl (fun _ => rfl) (by omega) (by first | omega | (simp only [List.length_cons, List.length_nil]; omega)) (fun u29 H26 ou29 off27 hb28 => ?_)
  have nu29 : Nw H u29 := Nw.ap2 nu lE hb28
  replace hp := hp0.le (off27.le lE nu)
  replace hvt := hvt0.le (off27.le lE nu)
  replace lE := off27.le lE nu
  refine ob_i (vInt_add (by omega) (by omega)) ?_
  exact nxt ((pwr st n).toNat - (i + 1)) (by omega) ⟨i + 1, rfl, by omega, u29, g0L7, g1L7, rfl, (congrArg (Value.int .i64) (by first | omega | rfl | (simp; done))), (Own.cast nsG_succ ou29), nu29, lE⟩
 ·skip
  have ti := hg10
  obtain rfl : i = (pwr st n).toNat := by omega
  exact hJ6 _ _ ⟨u, g5L7, ou, nu, lE⟩
theorem C.impl_Rule_inCycles {vt va : Value} {st rc : Int} {T : List Int} {nx : List Int}  {H : Hp} {K : Value → Hp → Prop} (hvt0 : Sl eI H vt T) (hva0 : Sl eI H va nx) (hx : nxP nx) (ln : nx.length ≤ 100000)
    (hk : ∀ u1 H', Own eI H' u1 (cyL nx) → Nw H u1 → Le H H' → K u1 H') : HT prg I.impl_Rule_inCycles [(.agg #[(.int .i64 (st)), (.int .i64 (rc)), vt]), va].toArray H K := by
 have lE := Le.refl H
 have hvt := hvt0
 have hva := hva0
 refine R.impl_Rule_inCycles ?_
 unfold F.impl_Rule_inCycles
 refine nw_i (fun p1 H2 op1 nn3 le4 => ?_)
 replace hvt := hvt.le le4
 replace hva := hva.le le4
 replace lE := lE.trans le4
 replace op1 : Cel H2 p1 [(.int .i64 (st)), (.int .i64 (rc)), vt] := op1
 refine ob_i (hva.len) ?_
 refine Own.mk_ (z := (0 : Int)) (by omega) (by omega) (by omega) (by omega) (fun lo H5 olo nn6 le7 => ?_)
 have ap1Xlo : Apart p1 lo := op1.apart nn6
 have nlo : Nw H lo := nn6.le lE
 replace op1 := op1.le le7
 replace hvt := hvt.le le7
 replace hva := hva.le le7
 replace lE := lE.trans le7
 refine ob_i (hva.len) ?_
 refine ob_i (hva.len) ?_
 refine Own.mk_ (z := (0 : Int)) (by omega) (by omega) (by omega) (by omega) (fun fi H8 ofi nn9 le10 => ?_)
 have ap1Xfi : Apart p1 fi := op1.apart nn9
 have aloXfi : Apart lo fi := olo.apart nn9
 have nfi : Nw H fi := nn9.le lE
 replace op1 := op1.le le10
 replace olo := olo.le le10
 replace hvt := hvt.le le10
 replace hva := hva.le le10
 replace lE := lE.trans le10
 refine Own.mk_ (z := (0 : Int)) (by omega) (by omega) (by omega) (by omega) (fun pl H11 opl nn12 le13 => ?_)
 have ap1Xpl : Apart p1 pl := op1.apart nn12
 have aloXpl : Apart lo pl := olo.apart nn12
 have afiXpl : Apart fi pl := ofi.apart nn12
 have npl : Nw H pl := nn12.le lE
 replace op1 := op1.le le13
 replace olo := olo.le le13
 replace ofi := ofi.le le13
 replace hvt := hvt.le le13
 replace hva := hva.le le13
 replace lE := lE.trans le13
 refine jn_i (fun σ' H' => σ' 5 = lo ∧ Cel H' p1 [(.int .i64 (st)), (.int .i64 (rc)), vt] ∧ Own eI H' lo (cyL nx) ∧ Le H H') (fun σ14 H14 hP => ?_) (fun J14 hJ14 => ?_)
 ·skip
  obtain ⟨g5L14, op1, olo, lE⟩ := hP
  try simp only [g5L14]
  skip
  exact hk  lo _ olo nlo  lE
 refine ob_i (hva.len) ?_
 refine ⟨fun n' σ' H' => ∃ s : Nat, n' = nx.length - s ∧ s ≤ nx.length ∧ ∃ F0, ∃ L0, ∃ P0, σ' 1 = va ∧ σ' 5 = lo ∧ σ' 6 = fi ∧ σ' 7 = pl ∧ σ' 22 = (.int .i64 (((nx).length : Int))) ∧ σ' 23 = (.int .i64 ((s : Int))) ∧ Cel H' p1 [(.int .i64 (st)), (.int .i64 (rc)), vt] ∧ Own eI H' lo (L0) ∧ Own eI H' fi (F0) ∧ Own eI H' pl (P0) ∧ Le H H' ∧ CyI nx s F0 L0 ∧ P0.length = nx.length,
  ⟨_, 0, rfl, by omega, _, _, _, rfl, rfl, rfl, rfl, rfl, (congrArg (Value.int .i64) (by first | omega | rfl | (simp; done))), op1, by simpa using olo, by simpa using ofi, by simpa using opl, lE, (CyI.start nx (by omega)), (by simp)⟩, ?_⟩
 rintro n15 σ15 H15 ⟨s, rfl, hsN, F0, L0, P0, g1L15, g5L15, g6L15, g7L15, g22L15, g23L15, op1, olo, ofi, opl, lE, hI, hp0⟩
 have hvt := hvt0.le lE
 have hva := hva0.le lE
 try simp only [g22L15, g23L15]
 have hlf := hI.lf
 have hll := hI.ll
 refine ob_i (vInt_lss _ _ _) ?_
 refine cnd_d (fun hg16 => ?_) (fun hg16 => ?_)
 ·skip
  have ts := hg16
  have hs : s < nx.length := by omega
  refine jn_i (fun σ' H' => ∃ F1, ∃ L1, ∃ P1, σ' 1 = va ∧ σ' 5 = lo ∧ σ' 6 = fi ∧ σ' 7 = pl ∧ σ' 22 = (.int .i64 (((nx).length : Int))) ∧ σ' 23 = (.int .i64 ((s : Int))) ∧ Cel H' p1 [(.int .i64 (st)), (.int .i64 (rc)), vt] ∧ Own eI H' lo (L1) ∧ Own eI H' fi (F1) ∧ Own eI H' pl (P1) ∧ Le H H' ∧ CyI nx (s + 1) F1 L1 ∧ P1.length = nx.length) (fun σ17 H17 hP => ?_) (fun J17 hJ17 => ?_)
  ·skip
   obtain ⟨F1, L1, P1, g1L17, g5L17, g6L17, g7L17, g22L17, g23L17, op1, olo, ofi, opl, lE, hI1, hp1⟩ := hP
   try simp only [g23L17]
   refine ob_i (vInt_add (by omega) (by omega)) ?_
   exact nxt (nx.length - (s + 1)) (by omega) ⟨s + 1, rfl, by omega, F1, L1, P1, g1L17, g5L17, g6L17, g7L17, g22L17, (congrArg (Value.int .i64) (by first | omega | rfl | (simp; done))), op1, olo, ofi, opl, lE, hI1, hp1⟩
  refine jn_i (fun σ' H' => ∃ F2, ∃ P2, ∃ n, σ' 1 = va ∧ σ' 5 = lo ∧ σ' 6 = fi ∧ σ' 7 = pl ∧ σ' 8 = (.int .i64 ((s : Int))) ∧ σ' 9 = (.int .i64 (((itF (nxF nx) n s : Nat) : Int))) ∧ σ' 10 = (.int .i64 ((n : Int))) ∧ σ' 22 = (.int .i64 (((nx).length : Int))) ∧ σ' 23 = (.int .i64 ((s : Int))) ∧ Cel H' p1 [(.int .i64 (st)), (.int .i64 (rc)), vt] ∧ Own eI H' lo (L0) ∧ Own eI H' fi (F2) ∧ Own eI H' pl (P2) ∧ Le H H' ∧ CyW nx s n F0 F2 ∧ plP nx s n P2 ∧ at_ 0 F2 ((itF (nxF nx) n s : Nat) : Int) ≠ 0 ∧ n ≤ nx.length) (fun σ18 H18 hP => ?_) (fun J18 hJ18 => ?_)
  ·skip
   obtain ⟨F2, P2, n, g1L18, g5L18, g6L18, g7L18, g8L18, g9L18, g10L18, g22L18, g23L18, op1, olo, ofi, opl, lE, hW, hP, hz, hnN⟩ := hP
   have hvt := hvt0.le lE
   have hva := hva0.le lE
   try simp only [g6L18, g7L18, g8L18, g9L18, g10L18]
   have wl := itF_lt (nxF_lt hx) hs n
   have wf := hW.lf
   have hpl := hP.1
   have hpn := place_bnd hx hs hI hW hP
   refine ob_i (ofi.sl.ix (by omega) (by omega)) ?_
   refine ob_i (ofi.sl.ld 0 (by omega) (by omega)) ?_
   refine ob_i (vInt_add (by omega) (by omega)) ?_
   refine ob_i (vInt_neq _ _ _) ?_
   refine cnd_d (fun hg19 => ?_) (fun hg19 => ?_)
   ·skip
    exact hJ17 _ _ ⟨_, _, _, g1L18, g5L18, g6L18, g7L18, g22L18, g23L18, op1, olo, ofi, opl, lE, (hI.skip hx hs hW hz hg19), hP.1⟩
   ·skip
    refine ob_i (opl.sl.ix (by omega) (by omega)) ?_
    refine ob_i (opl.sl.ld 0 (by omega) (by omega)) ?_
    refine ob_i (vInt_sub (by omega) (by omega)) ?_
    obtain ⟨kk, hkk⟩ : ∃ x : Int, x = (n : Int) - (at_ 0 (P2) (((itF (nxF nx) n s : Nat) : Int))) := ⟨_, rfl⟩
    rw [← hkk]
    obtain ⟨p, hp, he⟩ := hW.back hx hs hI (Decidable.not_not.mp hg19)
    have hpa := place_at hP hp he
    have hk2 : kk = ((n - p : Nat) : Int) := by omega
    refine ⟨fun n' σ' H' => ∃ j : Nat, n' = (n - p) - j ∧ j ≤ (n - p) ∧ ∃ L2, σ' 1 = va ∧ σ' 5 = lo ∧ σ' 6 = fi ∧ σ' 7 = pl ∧ σ' 9 = (.int .i64 (((itF (nxF nx) (p + j) s : Nat) : Int))) ∧ σ' 11 = (.int .i64 (kk)) ∧ σ' 22 = (.int .i64 (((nx).length : Int))) ∧ σ' 23 = (.int .i64 ((s : Int))) ∧ Cel H' p1 [(.int .i64 (st)), (.int .i64 (rc)), vt] ∧ Own eI H' lo (L2) ∧ Own eI H' fi (F2) ∧ Own eI H' pl (P2) ∧ Le H H' ∧ CyS nx s n p j L0 L2 ∧ j < n - p,
     ⟨_, 0, rfl, by omega, _, g1L18, g5L18, g6L18, g7L18, (g9L18.trans (congrArg (Value.int .i64) (by rw [he]; rfl))), rfl, g22L18, g23L18, op1, by simpa using olo, ofi, opl, lE, (CyS.start hll), (by omega)⟩, ?_⟩
    rintro n20 σ20 H20 ⟨j, rfl, hjN, L2, g1L20, g5L20, g6L20, g7L20, g9L20, g11L20, g22L20, g23L20, op1, olo, ofi, opl, lE, hC, hjn⟩
    have hvt := hvt0.le lE
    have hva := hva0.le lE
    try simp only [g1L20, g5L20, g9L20, g11L20]
    have wl2 := itF_lt (nxF_lt hx) hs (p + j)
    have wl3 := itF_lt (nxF_lt hx) hs (p + j + 1)
    have wn := nxW_at hx hs (p + j)
    have hl2 := hC.ll
    have hl3 : (L2.set (((itF (nxF nx) (p + j) s : Nat) : Int)).toNat kk).length = L2.length := List.length_set
    refine ob_i (olo.sl.ix (by omega) (by omega)) ?_
    refine olo.st (x := kk) (by omega) (by omega) rfl rfl (fun H21 olo off22 => ?_)
    replace op1 := op1.off off22 ap1Xlo
    replace ofi := ofi.off off22 aloXfi.symm
    replace opl := opl.off off22 aloXpl.symm
    replace hvt := hvt0.le (off22.le lE nlo)
    replace hva := hva0.le (off22.le lE nlo)
    replace lE := off22.le lE nlo
    refine ob_i (hva.ix (by omega) (by omega)) ?_
    refine ob_i (hva.ld 0 (by omega) (by omega)) ?_
    refine ob_i (olo.sl.ix (by omega) (by omega)) ?_
    refine ob_i (olo.sl.ld 0 (by omega) (by omega)) ?_
    refine ob_i (vInt_neq _ _ _) ?_
    refine cnd_d (fun hg23 => ?_) (fun hg23 => ?_)
    ·skip
     have tj := hg23
     have hS' := CyS.next hx hs hW hC (by omega) (i := (((itF (nxF nx) (p + j) s : Nat) : Int)).toNat) (Int.toNat_natCast _)
     have hS'' : CyS nx s n p (j + 1) L0 ((L2).set (((itF (nxF nx) (p + j) s : Nat) : Int)).toNat (kk)) := by rw [hk2]; exact hS'
     have hj1 := (cyS_ends hx hs hI hW he (by omega) hS'').mp hg23
     exact hJ17 _ _ ⟨_, _, _, g1L20, g5L20, g6L20, g7L20, g22L20, g23L20, op1, olo, ofi, opl, lE, (hI.told hx hs hW hp he hS'' (by omega)), hP.1⟩
    ·skip
     have tj := hg23
     have hS' := CyS.next hx hs hW hC (by omega) (i := (((itF (nxF nx) (p + j) s : Nat) : Int)).toNat) (Int.toNat_natCast _)
     have hS'' : CyS nx s n p (j + 1) L0 ((L2).set (((itF (nxF nx) (p + j) s : Nat) : Int)).toNat (kk)) := by rw [hk2]; exact hS'
     have hj0 : ¬ (j + 1 = n - p) := fun e => hg23 ((cyS_ends hx hs hI hW he (by omega) hS'').mpr e)
     have hj1 : j + 1 < n - p := by omega
     exact nxt ((n - p) - (j + 1)) (by omega) ⟨j + 1, rfl, by omega, ((L2).set (((itF (nxF nx) (p + j) s : Nat) : Int)).toNat (kk)), g1L20, g5L20, g6L20, g7L20, (congrArg (Value.int .i64) (nxW_at hx hs (p + j))), g11L20, g22L20, g23L20, op1, olo, ofi, opl, lE, hS'', hj1⟩
  refine ⟨fun n' σ' H' => ∃ n : Nat, n' = nx.length - n ∧ n ≤ nx.length ∧ ∃ F2, ∃ P2, σ' 1 = va ∧ σ' 5 = lo ∧ σ' 6 = fi ∧ σ' 7 = pl ∧ σ' 8 = (.int .i64 ((s : Int))) ∧ σ' 9 = (.int .i64 (((itF (nxF nx) n s : Nat) : Int))) ∧ σ' 10 = (.int .i64 ((n : Int))) ∧ σ' 22 = (.int .i64 (((nx).length : Int))) ∧ σ' 23 = (.int .i64 ((s : Int))) ∧ Cel H' p1 [(.int .i64 (st)), (.int .i64 (rc)), vt] ∧ Own eI H' lo (L0) ∧ Own eI H' fi (F2) ∧ Own eI H' pl (P2) ∧ Le H H' ∧ CyW nx s n F0 F2 ∧ plP nx s n P2,
   ⟨_, 0, rfl, by omega, _, _, g1L15, g5L15, g6L15, g7L15, rfl, rfl, (congrArg (Value.int .i64) (by first | omega | rfl | (simp; done))), g22L15, g23L15, op1, olo, by simpa using ofi, by simpa using opl, lE, (CyW.start hlf), (plP.start hp0)⟩, ?_⟩
  rintro n24 σ24 H24 ⟨n, rfl, hnN, F2, P2, g1L24, g5L24, g6L24, g7L24, g8L24, g9L24, g10L24, g22L24, g23L24, op1, olo, ofi, opl, lE, hW, hP⟩
  have hvt := hvt0.le lE
  have hva := hva0.le lE
  try simp only [g1L24, g6L24, g7L24, g8L24, g9L24, g10L24]
  have wl := itF_lt (nxF_lt hx) hs n
  have wf := hW.lf
  have hpl := hP.1
  refine ob_i (ofi.sl.ix (by omega) (by omega)) ?_
  refine ob_i (ofi.sl.ld 0 (by omega) (by omega)) ?_
  refine ob_i (vInt_eql _ _ _) ?_
  refine cnd_d (fun hg25 => ?_) (fun hg25 => ?_)
  ·skip
   have tn := hg25
   refine ob_i (vInt_add (by omega) (by omega)) ?_
   refine ob_i (ofi.sl.ix (by omega) (by omega)) ?_
   refine ofi.st (x := (s : Int) + 1) (by omega) (by omega) rfl rfl (fun H26 ofi off27 => ?_)
   replace op1 := op1.off off27 ap1Xfi
   replace olo := olo.off off27 aloXfi
   replace opl := opl.off off27 afiXpl.symm
   replace hvt := hvt0.le (off27.le lE nfi)
   replace hva := hva0.le (off27.le lE nfi)
   replace lE := off27.le lE nfi
   refine ob_i (opl.sl.ix (by omega) (by omega)) ?_
   refine opl.st (x := (n : Int)) (by omega) (by omega) rfl rfl (fun H28 opl off29 => ?_)
   replace op1 := op1.off off29 ap1Xpl
   replace olo := olo.off off29 aloXpl
   replace ofi := ofi.off off29 afiXpl
   replace hvt := hvt0.le (off29.le lE npl)
   replace hva := hva0.le (off29.le lE npl)
   replace lE := off29.le lE npl
   refine ob_i (hva.ix (by omega) (by omega)) ?_
   refine ob_i (hva.ld 0 (by omega) (by omega)) ?_
   refine ob_i (vInt_add (by omega) (by omega)) ?_
   have hlt := hW.lt' hx hs hg25
   exact nxt (nx.length - (n + 1)) (by omega) ⟨n + 1, rfl, by omega, ((F2).set (((itF (nxF nx) n s : Nat) : Int)).toNat ((s : Int) + 1)), ((P2).set (((itF (nxF nx) n s : Nat) : Int)).toNat ((n : Int))), g1L24, g5L24, g6L24, g7L24, g8L24, (congrArg (Value.int .i64) (nxW_at hx hs n)), (congrArg (Value.int .i64) (by first | omega | rfl | (simp; done))), g22L24, g23L24, op1, olo, ofi, opl, lE, (hW.next hx hs hg25 (Int.toNat_natCast _)), (hP.next hx hs hW hg25 (Int.toNat_natCast _))⟩
  ·skip
   have tn := hg25
   exact hJ18 _ _ ⟨_, _, _, g1L24, g5L24, g6L24, g7L24, g8L24, g9L24, g10L24, g22L24, g23L24, op1, olo, ofi, opl, lE, hW, hP, hg25, (by omega)⟩
 ·skip
  have ts := hg16
  obtain rfl : s = nx.length := by omega
  rw [hI.done] at olo
  exact hJ14 _ _ ⟨g5L15, op1, olo, lE⟩
theorem C.spec_l03Cycles {va : Value} {nx : List Int}  {H : Hp} {K : Value → Hp → Prop} (hva0 : Sl eI H va nx) (hx : nxP nx) (ln : nx.length ≤ 100000)
    (hk : ∀ u1 H', Own eI H' u1 (cyL nx) → Nw H u1 → Le H H' → K u1 H') : HT prg I.spec_l03Cycles [va].toArray H K := by
 have lE := Le.refl H
 have hva := hva0
 refine R.spec_l03Cycles ?_
 unfold F.spec_l03Cycles
 refine ob_i (hva.len) ?_
 refine Own.mk_ (z := (0 : Int)) (by omega) (by omega) (by omega) (by omega) (fun lo H1 olo nn2 le3 => ?_)
 have nlo : Nw H lo := nn2.le lE
 replace hva := hva.le le3
 replace lE := lE.trans le3
 refine ob_i (hva.len) ?_
 refine Own.mk_ (z := (0 : Int)) (by omega) (by omega) (by omega) (by omega) (fun fi H4 ofi nn5 le6 => ?_)
 have aloXfi : Apart lo fi := olo.apart nn5
 have nfi : Nw H fi := nn5.le lE
 replace olo := olo.le le6
 replace hva := hva.le le6
 replace lE := lE.trans le6
 refine jn_i (fun σ' H' => σ' 3 = lo ∧ Own eI H' lo (cyL nx) ∧ Le H H') (fun σ7 H7 hP => ?_) (fun J7 hJ7 => ?_)
 ·skip
  obtain ⟨g3L7, olo, lE⟩ := hP
  try simp only [g3L7]
  skip
  exact hk  lo _ olo nlo  lE
 refine ob_i (hva.len) ?_
 refine ⟨fun n' σ' H' => ∃ s : Nat, n' = nx.length - s ∧ s ≤ nx.length ∧ ∃ F0, ∃ L0, σ' 0 = va ∧ σ' 3 = lo ∧ σ' 4 = fi ∧ σ' 17 = (.int .i64 (((nx).length : Int))) ∧ σ' 18 = (.int .i64 ((s : Int))) ∧ Own eI H' lo (L0) ∧ Own eI H' fi (F0) ∧ Le H H' ∧ CyI nx s F0 L0,
  ⟨_, 0, rfl, by omega, _, _, rfl, rfl, rfl, rfl, (congrArg (Value.int .i64) (by first | omega | rfl | (simp; done))), by simpa using olo, by simpa using ofi, lE, (CyI.start nx (by omega))⟩, ?_⟩
 rintro n8 σ8 H8 ⟨s, rfl, hsN, F0, L0, g0L8, g3L8, g4L8, g17L8, g18L8, olo, ofi, lE, hI⟩
 have hva := hva0.le lE
 try simp only [g17L8, g18L8]
 have hlf := hI.lf
 have hll := hI.ll
 refine ob_i (vInt_lss _ _ _) ?_
 refine cnd_d (fun hg9 => ?_) (fun hg9 => ?_)
 ·skip
  have ts := hg9
  have hs : s < nx.length := by omega
  refine jn_i (fun σ' H' => ∃ F1, ∃ L1, σ' 0 = va ∧ σ' 3 = lo ∧ σ' 4 = fi ∧ σ' 17 = (.int .i64 (((nx).length : Int))) ∧ σ' 18 = (.int .i64 ((s : Int))) ∧ Own eI H' lo (L1) ∧ Own eI H' fi (F1) ∧ Le H H' ∧ CyI nx (s + 1) F1 L1) (fun σ10 H10 hP => ?_) (fun J10 hJ10 => ?_)
  ·skip
   obtain ⟨F1, L1, g0L10, g3L10, g4L10, g17L10, g18L10, olo, ofi, lE, hI1⟩ := hP
   try simp only [g18L10]
   refine ob_i (vInt_add (by omega) (by omega)) ?_
   exact nxt (nx.length - (s + 1)) (by omega) ⟨s + 1, rfl, by omega, F1, L1, g0L10, g3L10, g4L10, g17L10, (congrArg (Value.int .i64) (by first | omega | rfl | (simp; done))), olo, ofi, lE, hI1⟩
  refine jn_i (fun σ' H' => ∃ F2, ∃ n, σ' 0 = va ∧ σ' 3 = lo ∧ σ' 4 = fi ∧ σ' 5 = (.int .i64 ((s : Int))) ∧ σ' 6 = (.int .i64 (((itF (nxF nx) n s : Nat) : Int))) ∧ σ' 17 = (.int .i64 (((nx).length : Int))) ∧ σ' 18 = (.int .i64 ((s : Int))) ∧ Own eI H' lo (L0) ∧ Own eI H' fi (F2) ∧ Le H H' ∧ CyW nx s n F0 F2 ∧ at_ 0 F2 ((itF (nxF nx) n s : Nat) : Int) ≠ 0 ∧ n ≤ nx.length) (fun σ11 H11 hP => ?_) (fun J11 hJ11 => ?_)
  ·skip
   obtain ⟨F2, n, g0L11, g3L11, g4L11, g5L11, g6L11, g17L11, g18L11, olo, ofi, lE, hW, hz, hnN⟩ := hP
   have hva := hva0.le lE
   try simp only [g0L11, g4L11, g5L11, g6L11]
   have wl := itF_lt (nxF_lt hx) hs n
   have wf := hW.lf
   refine ob_i (ofi.sl.ix (by omega) (by omega)) ?_
   refine ob_i (ofi.sl.ld 0 (by omega) (by omega)) ?_
   refine ob_i (vInt_add (by omega) (by omega)) ?_
   refine ob_i (vInt_neq _ _ _) ?_
   refine cnd_d (fun hg12 => ?_) (fun hg12 => ?_)
   ·skip
    exact hJ10 _ _ ⟨_, _, g0L11, g3L11, g4L11, g17L11, g18L11, olo, ofi, lE, (hI.skip hx hs hW hz hg12)⟩
   ·skip
    refine jn_i (fun σ' H' => ∃ p, σ' 0 = va ∧ σ' 3 = lo ∧ σ' 4 = fi ∧ σ' 6 = (.int .i64 (((itF (nxF nx) n s : Nat) : Int))) ∧ σ' 7 = (.int .i64 (((n - p : Nat) : Int))) ∧ σ' 17 = (.int .i64 (((nx).length : Int))) ∧ σ' 18 = (.int .i64 ((s : Int))) ∧ Own eI H' lo (L0) ∧ Own eI H' fi (F2) ∧ Le H H' ∧ p < n ∧ itF (nxF nx) n s = itF (nxF nx) p s ∧ n ≤ nx.length) (fun σ13 H13 hP => ?_) (fun J13 hJ13 => ?_)
    ·skip
     obtain ⟨p, g0L13, g3L13, g4L13, g6L13, g7L13, g17L13, g18L13, olo, ofi, lE, hp, he, hpN⟩ := hP
     have hva := hva0.le lE
     try simp only [g0L13, g3L13, g6L13, g7L13]
     refine ⟨fun n' σ' H' => ∃ j : Nat, n' = (n - p) - j ∧ j ≤ (n - p) ∧ ∃ L2, σ' 0 = va ∧ σ' 3 = lo ∧ σ' 4 = fi ∧ σ' 6 = (.int .i64 (((itF (nxF nx) (p + j) s : Nat) : Int))) ∧ σ' 7 = (.int .i64 (((n - p : Nat) : Int))) ∧ σ' 9 = (.int .i64 ((j : Int))) ∧ σ' 17 = (.int .i64 (((nx).length : Int))) ∧ σ' 18 = (.int .i64 ((s : Int))) ∧ Own eI H' lo (L2) ∧ Own eI H' fi (F2) ∧ Le H H' ∧ CyS nx s n p j L0 L2,
      ⟨_, 0, rfl, by omega, _, g0L13, g3L13, g4L13, (g6L13.trans (congrArg (Value.int .i64) (by rw [he]; rfl))), g7L13, (congrArg (Value.int .i64) (by first | omega | rfl | (simp; done))), g17L13, g18L13, by simpa using olo, ofi, lE, (CyS.start hll)⟩, ?_⟩
     rintro n14 σ14 H14 ⟨j, rfl, hjN, L2, g0L14, g3L14, g4L14, g6L14, g7L14, g9L14, g17L14, g18L14, olo, ofi, lE, hC⟩
     have hva := hva0.le lE
     try simp only [g0L14, g3L14, g6L14, g7L14, g9L14]
     have wl2 := itF_lt (nxF_lt hx) hs (p + j)
     have hl2 := hC.ll
     refine ob_i (vInt_lss _ _ _) ?_
     refine cnd_d (fun hg15 => ?_) (fun hg15 => ?_)
     ·skip
      have tj := hg15
      refine ob_i (olo.sl.ix (by omega) (by omega)) ?_
      refine olo.st (x := ((n - p : Nat) : Int)) (by omega) (by omega) rfl rfl (fun H16 olo off17 => ?_)
      replace ofi := ofi.off off17 aloXfi.symm
      replace hva := hva0.le (off17.le lE nlo)
      replace lE := off17.le lE nlo
      refine ob_i (hva.ix (by omega) (by omega)) ?_
      refine ob_i (hva.ld 0 (by omega) (by omega)) ?_
      refine ob_i (vInt_add (by omega) (by omega)) ?_
      have hS' := CyS.next hx hs hW hC (by omega) (i := (((itF (nxF nx) (p + j) s : Nat) : Int)).toNat) (Int.toNat_natCast _)
      exact nxt ((n - p) - (j + 1)) (by omega) ⟨j + 1, rfl, by omega, ((L2).set (((itF (nxF nx) (p + j) s : Nat) : Int)).toNat (((n - p : Nat) : Int))), g0L14, g3L14, g4L14, (congrArg (Value.int .i64) (nxW_at hx hs (p + j))), g7L14, (congrArg (Value.int .i64) (by first | omega | rfl | (simp; done))), g17L14, g18L14, olo, ofi, lE, hS'⟩
     ·skip
      have tj := hg15
      exact hJ10 _ _ ⟨_, _, g0L14, g3L14, g4L14, g17L14, g18L14, olo, ofi, lE, (hI.told hx hs hW hp he hC (by omega))⟩
    refine ob_i (hva.ix (by omega) (by omega)) ?_
    refine ob_i (hva.ld 0 (by omega) (by omega)) ?_
    obtain ⟨p, hp, he⟩ := hW.back hx hs hI (Decidable.not_not.mp hg12)
    have hpN := hW.lt hx hs
    refine ⟨fun n' σ' H' => ∃ m : Nat, n' = (n - p) - m ∧ m ≤ (n - p) ∧ σ' 0 = va ∧ σ' 3 = lo ∧ σ' 4 = fi ∧ σ' 6 = (.int .i64 (((itF (nxF nx) n s : Nat) : Int))) ∧ σ' 7 = (.int .i64 ((m : Int) + 1)) ∧ σ' 8 = (.int .i64 (((itF (nxF nx) (p + 1 + m) s : Nat) : Int))) ∧ σ' 17 = (.int .i64 (((nx).length : Int))) ∧ σ' 18 = (.int .i64 ((s : Int))) ∧ Own eI H' lo (L0) ∧ Own eI H' fi (F2) ∧ Le H H' ∧ m + 1 ≤ n - p,
     ⟨_, 0, rfl, by omega, g0L11, g3L11, g4L11, g6L11, (congrArg (Value.int .i64) (by first | omega | rfl | (simp; done))), (congrArg (Value.int .i64) (round_at hx hs he)), g17L11, g18L11, olo, ofi, lE, (by omega)⟩, ?_⟩
    rintro n18 σ18 H18 ⟨m, rfl, hmN, g0L18, g3L18, g4L18, g6L18, g7L18, g8L18, g17L18, g18L18, olo, ofi, lE, hm1⟩
    have hva := hva0.le lE
    try simp only [g0L18, g6L18, g7L18, g8L18]
    have wl2 := itF_lt (nxF_lt hx) hs (p + 1 + m)
    have hce := cyc_ne hW he hm1
    refine ob_i (vInt_neq _ _ _) ?_
    refine cnd_d (fun hg19 => ?_) (fun hg19 => ?_)
    ·skip
     have tm := hg19
     refine ob_i (vInt_add (by omega) (by omega)) ?_
     refine ob_i (hva.ix (by omega) (by omega)) ?_
     refine ob_i (hva.ld 0 (by omega) (by omega)) ?_
     have hj0 : ¬ (m + 1 = n - p) := fun e => absurd (hce.mpr e) (by omega)
     exact nxt ((n - p) - (m + 1)) (by omega) ⟨m + 1, rfl, by omega, g0L18, g3L18, g4L18, g6L18, (congrArg (Value.int .i64) (by first | omega | rfl | (simp; done))), (congrArg (Value.int .i64) (nxW_at hx hs (p + 1 + m))), g17L18, g18L18, olo, ofi, lE, (by omega)⟩
    ·skip
     have tm := hg19
     have hmn := hce.mp (by omega)
     exact hJ13 _ _ ⟨p, g0L18, g3L18, g4L18, g6L18, (g7L18.trans (congrArg (Value.int .i64) (by first | omega | rfl | (simp; done)))), g17L18, g18L18, olo, ofi, lE, hp, he, hpN⟩
  refine ⟨fun n' σ' H' => ∃ n : Nat, n' = nx.length - n ∧ n ≤ nx.length ∧ ∃ F2, σ' 0 = va ∧ σ' 3 = lo ∧ σ' 4 = fi ∧ σ' 5 = (.int .i64 ((s : Int))) ∧ σ' 6 = (.int .i64 (((itF (nxF nx) n s : Nat) : Int))) ∧ σ' 17 = (.int .i64 (((nx).length : Int))) ∧ σ' 18 = (.int .i64 ((s : Int))) ∧ Own eI H' lo (L0) ∧ Own eI H' fi (F2) ∧ Le H H' ∧ CyW nx s n F0 F2,
   ⟨_, 0, rfl, by omega, _, g0L8, g3L8, g4L8, rfl, rfl, g17L8, g18L8, olo, by simpa using ofi, lE, (CyW.start hlf)⟩, ?_⟩
  rintro n20 σ20 H20 ⟨n, rfl, hnN, F2, g0L20, g3L20, g4L20, g5L20, g6L20, g17L20, g18L20, olo, ofi, lE, hW⟩
  have hva := hva0.le lE
  try simp only [g0L20, g4L20, g5L20, g6L20]
  have wl := itF_lt (nxF_lt hx) hs n
  have wf := hW.lf
  refine ob_i (ofi.sl.ix (by omega) (by omega)) ?_
  refine ob_i (ofi.sl.ld 0 (by omega) (by omega)) ?_
  refine ob_i (vInt_eql _ _ _) ?_
  refine cnd_d (fun hg21 => ?_) (fun hg21 => ?_)
  ·skip
   have tn := hg21
   refine ob_i (vInt_add (by omega) (by omega)) ?_
   refine ob_i (ofi.sl.ix (by omega) (by omega)) ?_
   refine ofi.st (x := (s : Int) + 1) (by omega) (by omega) rfl rfl (fun H22 ofi off23 => ?_)
   replace olo := olo.off off23 aloXfi
   replace hva := hva0.le (off23.le lE nfi)
   replace lE := off23.le lE nfi
   refine ob_i (hva.ix (by omega) (by omega)) ?_
   refine ob_i (hva.ld 0 (by omega) (by omega)) ?_
   have hlt := hW.lt' hx hs hg21
   exact nxt (nx.length - (n + 1)) (by omega) ⟨n + 1, rfl, by omega, ((F2).set (((itF (nxF nx) n s : Nat) : Int)).toNat ((s : Int) + 1)), g0L20, g3L20, g4L20, g5L20, (congrArg (Value.int .i64) (nxW_at hx hs n)), g17L20, g18L20, olo, ofi, lE, (hW.next hx hs hg21 (Int.toNat_natCast _))⟩
  ·skip
   have tn := hg21
   exact hJ11 _ _ ⟨_, _, g0L20, g3L20, g4L20, g5L20, g6L20, g17L20, g18L20, olo, ofi, lE, hW, hg21, (by omega)⟩
 ·skip
  have ts := hg9
  obtain rfl : s = nx.length := by omega
  rw [hI.done] at olo
  exact hJ7 _ _ ⟨g3L8, olo, lE⟩
theorem HL.Cel.castC {H : Hp} {p : Value} {cs ds : List Value} (e : cs = ds) (h : Cel H p cs) : Cel H p ds := e ▸ h
theorem C.rep_neg {va : Value} {n : Int} {H : Hp} {K : Value → Hp → Prop} (hva0 : Sl eI H va [(-1)]) (n0 : 1 ≤ n) (n1 : n ≤ 65535) (hk : ∀ u1 H', Own eI H' u1 (List.replicate (n : Int).toNat (-1)) → Nw H u1 → Le H H' → K u1 H') : HT prg I.slices_Repeat_int64Zint64 [va, .int .i64 n].toArray H K :=
  C.slices_Repeat_int64Zint64 hva0 rfl n0 n1 hk
theorem C.impl_DepthOf {vt : Value} {st rc n : Int} {T : List Int}  {H : Hp} {K : Value → Hp → Prop} (hvt0 : Sl eI H vt T) (k1 : T.length ≤ 9223372036854775807)
    (hk : ∀ H', Le H H' → K (.tuple #[(.int .i64 (selI (smlP st rc T n) (((mxD (nsL st rc T n) (nsL st rc T n).length : Nat) : Int)))), (.bool (decide (smlP st rc T n)))]) H') : HT prg I.impl_DepthOf [(.agg #[(.int .i64 (st)), (.int .i64 (rc)), vt]), (.int .i64 (n))].toArray H K := by
 have lE := Le.refl H
 have hvt := hvt0
 refine R.impl_DepthOf ?_
 unfold F.impl_DepthOf
 refine nw_i (fun p1 H2 op1 nn3 le4 => ?_)
 replace hvt := hvt.le le4
 replace lE := lE.trans le4
 replace op1 : Cel H2 p1 [(.int .i64 (st)), (.int .i64 (rc)), vt] := op1
 refine ob_i (op1.ldn rfl) ?_
 refine C.impl_small hvt (by first | omega | assumption) (fun   H5    le6 => ?_)
 replace op1 := op1.le le6
 replace hvt := hvt.le le6
 replace lE := lE.trans le6
 refine ob_nd (fun hc7 => ?_) (fun hc7 => ?_)
 ·skip
  refine cnd_f1 ?_
  refine ob_i (op1.ldn rfl) ?_
  refine C.impl_Rule_steps hvt (by first | omega | assumption) (fun  u10 H8 ou10 nn11  le9 => ?_)
  replace op1 := op1.le le9
  replace hvt := hvt.le le9
  replace lE := lE.trans le9
  obtain ⟨nx, hnx⟩ : ∃ x : List Int, x = nsL st rc T n := ⟨_, rfl⟩
  rw [← hnx] at ou10
  have hx : nxP nx := by rw [hnx]; exact nsL_nx (by assumption)
  have hnl : nx.length = (pwr st n).toNat := by rw [hnx]; exact nsL_len
  have hpw := sml_pw (st := st) (rc := rc) (T := T) (n := n) (by assumption)
  have hcl := cyL_len nx
  refine ob_i (op1.ldn rfl) ?_
  refine C.impl_Rule_inCycles hvt ou10.sl (by first | omega | assumption) (by first | omega | assumption) (fun  u14 H12 ou14 nn15  le13 => ?_)
  replace op1 := op1.le le13
  replace ou10 := ou10.le le13
  replace hvt := hvt.le le13
  replace lE := lE.trans le13
  refine bS_i (enc := eI) (l := [(-1)]) (by omega) rfl (by kernel_rfl) (fun u16 H17 ou16 nn18 le20 => ?_)
  replace op1 := op1.le le20
  replace ou10 := ou10.le le20
  replace ou14 := ou14.le le20
  replace hvt := hvt.le le20
  replace lE := lE.trans le20
  refine ob_i (ou10.len) ?_
  refine C.rep_neg ou16.sl (by first | omega | assumption) (by first | omega | assumption) (fun  vd H21 ovd nn23  le22 => ?_)
  have ap1Xvd : Apart p1 vd := op1.apart nn23
  have au10Xvd : Apart u10 vd := ou10.apart nn23
  have au14Xvd : Apart u14 vd := ou14.apart nn23
  have au16Xvd : Apart u16 vd := ou16.apart nn23
  have nvd : Nw H vd := nn23.le lE
  replace op1 := op1.le le22
  replace ou10 := ou10.le le22
  replace ou14 := ou14.le le22
  replace ou16 := ou16.le le22
  replace hvt := hvt.le le22
  replace lE := lE.trans le22
  refine nw_i (fun pd H24 opd nn25 le26 => ?_)
  have ap1Xpd : Apart p1 pd := op1.apart nn25
  have au10Xpd : Apart u10 pd := ou10.apart nn25
  have au14Xpd : Apart u14 pd := ou14.apart nn25
  have au16Xpd : Apart u16 pd := ou16.apart nn25
  have avdXpd : Apart vd pd := ovd.apart nn25
  have npd : Nw H pd := nn25.le lE
  replace op1 := op1.le le26
  replace ou10 := ou10.le le26
  replace ou14 := ou14.le le26
  replace ou16 := ou16.le le26
  replace ovd := ovd.le le26
  replace hvt := hvt.le le26
  replace lE := lE.trans le26
  replace opd : Cel H24 pd [(.slice none 0 0)] := opd
  refine opd.st0 (by simp) ovd.one ovd.cells (fun H27 opd off28 => ?_)
  replace op1 := op1.off off28 ap1Xpd
  replace ou10 := ou10.off off28 au10Xpd
  replace ou14 := ou14.off off28 au14Xpd
  replace ou16 := ou16.off off28 au16Xpd
  replace ovd := ovd.off off28 avdXpd
  replace hvt := hvt0.le (off28.le lE npd)
  replace lE := off28.le lE npd
  replace opd : Cel H27 pd [vd] := opd
  refine jn_i (fun σ' H' => σ' 9 = (.int .i64 (((mxD nx nx.length : Nat) : Int))) ∧ Cel H' p1 [(.int .i64 (st)), (.int .i64 (rc)), vt] ∧ Own eI H' u10 (nx) ∧ Own eI H' u14 (cyL nx) ∧ Own eI H' u16 ([(-1)]) ∧ Cel H' pd [vd] ∧ Le H H') (fun σ29 H29 hP => ?_) (fun J29 hJ29 => ?_)
  ·skip
   obtain ⟨g9L29, op1, ou10, ou14, ou16, opd, lE⟩ := hP
   try simp only [g9L29]
   skip
   have hok : smlP st rc T n := by assumption
   exact keq (K := K) (by rw [show ((selI (smlP st rc T n) (((mxD (nsL st rc T n) (nsL st rc T n).length : Nat) : Int))) : Int) = (((mxD nx nx.length : Nat) : Int)) from by first | (rw [hnx]; exact selI_t hok) | exact selI_t hok | exact selI_f hok]; rw [decide_eq_true (show (smlP st rc T n) from by exact hok)]) (hk   _    lE)
  refine ob_i (ou10.len) ?_
  refine ⟨fun n' σ' H' => ∃ s : Nat, n' = nx.length - s ∧ s ≤ nx.length ∧ ∃ D0, σ' 6 = u10 ∧ σ' 7 = u14 ∧ σ' 8 = pd ∧ σ' 9 = (.int .i64 (((mxD nx s : Nat) : Int))) ∧ σ' 31 = (.int .i64 (((nx).length : Int))) ∧ σ' 32 = (.int .i64 ((s : Int))) ∧ Cel H' p1 [(.int .i64 (st)), (.int .i64 (rc)), vt] ∧ Own eI H' u10 (nx) ∧ Own eI H' u14 (cyL nx) ∧ Own eI H' u16 ([(-1)]) ∧ Own eI H' vd (D0) ∧ Cel H' pd [vd] ∧ Le H H' ∧ DpI nx (0) D0,
   ⟨_, 0, rfl, by omega, _, rfl, rfl, rfl, rfl, rfl, (congrArg (Value.int .i64) (by first | omega | rfl | (simp; done))), op1, ou10, ou14, ou16, by simpa using ovd, opd, lE, (DpI.start (by omega) rfl)⟩, ?_⟩
  rintro n30 σ30 H30 ⟨s, rfl, hsN, D0, g6L30, g7L30, g8L30, g9L30, g31L30, g32L30, op1, ou10, ou14, ou16, ovd, opd, lE, hD⟩
  have hvt := hvt0.le lE
  try simp only [g31L30, g32L30]
  have hDl := hD.1
  have hml := mxD_le hx (s := s) (by omega)
  refine ob_i (vInt_lss _ _ _) ?_
  refine cnd_d (fun hg31 => ?_) (fun hg31 => ?_)
  ·skip
   have ts := hg31
   have hs : s < nx.length := by omega
   refine jn_i (fun σ' H' => ∃ D1, σ' 6 = u10 ∧ σ' 7 = u14 ∧ σ' 8 = pd ∧ σ' 9 = (.int .i64 (((mxD nx (s + 1) : Nat) : Int))) ∧ σ' 31 = (.int .i64 (((nx).length : Int))) ∧ σ' 32 = (.int .i64 ((s : Int))) ∧ Cel H' p1 [(.int .i64 (st)), (.int .i64 (rc)), vt] ∧ Own eI H' u10 (nx) ∧ Own eI H' u14 (cyL nx) ∧ Own eI H' u16 ([(-1)]) ∧ Own eI H' vd (D1) ∧ Cel H' pd [vd] ∧ Le H H' ∧ DpI nx (0) D1) (fun σ32 H32 hP => ?_) (fun J32 hJ32 => ?_)
   ·skip
    obtain ⟨D1, g6L32, g7L32, g8L32, g9L32, g31L32, g32L32, op1, ou10, ou14, ou16, ovd, opd, lE, hD1⟩ := hP
    try simp only [g32L32]
    refine ob_i (vInt_add (by omega) (by omega)) ?_
    exact nxt (nx.length - (s + 1)) (by omega) ⟨s + 1, rfl, by omega, D1, g6L32, g7L32, g8L32, (g9L32.trans (congrArg (Value.int .i64) (by first | omega | rfl | (simp; done)))), g31L32, (congrArg (Value.int .i64) (by first | omega | rfl | (simp; done))), op1, ou10, ou14, ou16, ovd, opd, lE, hD1⟩
   refine bS_nil (enc := eI) (fun u33 H34 ou33 nn35 kk36 le37 => ?_)
   have ap1Xu33 : Apart p1 u33 := op1.apart nn35
   have au10Xu33 : Apart u10 u33 := ou10.apart nn35
   have au14Xu33 : Apart u14 u33 := ou14.apart nn35
   have au16Xu33 : Apart u16 u33 := ou16.apart nn35
   have avdXu33 : Apart vd u33 := ovd.apart nn35
   have apdXu33 : Apart pd u33 := opd.apart nn35
   have nu33 : Nw H u33 := nn35.le lE
   replace op1 := op1.le le37
   replace ou10 := ou10.le le37
   replace ou14 := ou14.le le37
   replace ou16 := ou16.le le37
   replace ovd := ovd.le le37
   replace opd := opd.le le37
   replace hvt := hvt.le le37
   replace lE := lE.trans le37
   refine jn_i (fun σ' H' => ∃ pa, ∃ n, σ' 6 = u10 ∧ σ' 7 = u14 ∧ σ' 8 = pd ∧ σ' 9 = (.int .i64 (((mxD nx s : Nat) : Int))) ∧ σ' 11 = pa ∧ σ' 12 = (.int .i64 (((itF (nxF nx) n s : Nat) : Int))) ∧ σ' 31 = (.int .i64 (((nx).length : Int))) ∧ σ' 32 = (.int .i64 ((s : Int))) ∧ Cel H' p1 [(.int .i64 (st)), (.int .i64 (rc)), vt] ∧ Own eI H' u10 (nx) ∧ Own eI H' u14 (cyL nx) ∧ Own eI H' u16 ([(-1)]) ∧ Own eI H' vd (D0) ∧ Cel H' pd [vd] ∧ Own eI H' pa (pthL nx s n) ∧ Nw H pa ∧ Apart p1 pa ∧ Apart u10 pa ∧ Apart u14 pa ∧ Apart u16 pa ∧ Apart vd pa ∧ Apart pd pa ∧ Le H H' ∧ (∀ i, i < n → perN (nxF nx) nx.length (itF (nxF nx) i s) = 0) ∧ (perN (nxF nx) nx.length (itF (nxF nx) n s) ≠ 0 ∨ ¬ at_ 0 D0 ((itF (nxF nx) n s : Nat) : Int) < 0) ∧ n < nx.length) (fun σ38 H38 hP => ?_) (fun J38 hJ38 => ?_)
   ·skip
    obtain ⟨pa, n, g6L38, g7L38, g8L38, g9L38, g11L38, g12L38, g31L38, g32L38, op1, ou10, ou14, ou16, ovd, opd, opa, npa, ap1Xpa, au10Xpa, au14Xpa, au16Xpa, avdXpa, apdXpa, lE, hP, hE, hnN⟩ := hP
    have hvt := hvt0.le lE
    try simp only [g8L38, g11L38, g12L38]
    have wl := itF_lt (nxF_lt hx) hs n
    have ptl := pthL_len (nx := nx) (s := s) (n := n)
    have hdw := dpF_walk hx hs hP
    have hdl := dpF_lt hx hs
    have hdl2 := dpF_lt hx wl
    have hms := mxD_succ (nx := nx) (s := s)
    refine ob_i (opd.ld0 rfl) ?_
    refine ob_i (ovd.sl.ix (by omega) (by omega)) ?_
    refine ob_i (ovd.sl.ld 0 (by omega) (by omega)) ?_
    refine ob_i (vMx_max _ _ _) ?_
    refine nw_i (fun pe H39 ope nn40 le41 => ?_)
    have ap1Xpe : Apart p1 pe := op1.apart nn40
    have au10Xpe : Apart u10 pe := ou10.apart nn40
    have au14Xpe : Apart u14 pe := ou14.apart nn40
    have au16Xpe : Apart u16 pe := ou16.apart nn40
    have avdXpe : Apart vd pe := ovd.apart nn40
    have apdXpe : Apart pd pe := opd.apart nn40
    have apaXpe : Apart pa pe := opa.apart nn40
    have npe : Nw H pe := nn40.le lE
    replace op1 := op1.le le41
    replace ou10 := ou10.le le41
    replace ou14 := ou14.le le41
    replace ou16 := ou16.le le41
    replace ovd := ovd.le le41
    replace opd := opd.le le41
    replace opa := opa.le le41
    replace hvt := hvt.le le41
    replace lE := lE.trans le41
    replace ope : Cel H39 pe [(.int .i64 (0))] := ope
    refine ope.st0 (by simp) rfl rfl (fun H42 ope off43 => ?_)
    replace op1 := op1.off off43 ap1Xpe
    replace ou10 := ou10.off off43 au10Xpe
    replace ou14 := ou14.off off43 au14Xpe
    replace ou16 := ou16.off off43 au16Xpe
    replace ovd := ovd.off off43 avdXpe
    replace opd := opd.off off43 apdXpe
    replace opa := opa.off off43 apaXpe
    replace hvt := hvt0.le (off43.le lE npe)
    replace lE := off43.le lE npe
    replace ope : Cel H42 pe [(.int .i64 (max (0) (at_ 0 (D0) (((itF (nxF nx) n s : Nat) : Int)))))] := ope
    refine jn_i (fun σ' H' => ∃ D2, σ' 6 = u10 ∧ σ' 7 = u14 ∧ σ' 8 = pd ∧ σ' 9 = (.int .i64 (((mxD nx s : Nat) : Int))) ∧ σ' 13 = pe ∧ σ' 31 = (.int .i64 (((nx).length : Int))) ∧ σ' 32 = (.int .i64 ((s : Int))) ∧ Cel H' p1 [(.int .i64 (st)), (.int .i64 (rc)), vt] ∧ Own eI H' u10 (nx) ∧ Own eI H' u14 (cyL nx) ∧ Own eI H' u16 ([(-1)]) ∧ Own eI H' vd (D2) ∧ Cel H' pd [vd] ∧ Own eI H' pa (pthL nx s n) ∧ Cel H' pe [(.int .i64 (((dpF nx s : Nat) : Int)))] ∧ Le H H' ∧ DpI nx (0) D2) (fun σ44 H44 hP => ?_) (fun J44 hJ44 => ?_)
    ·skip
     obtain ⟨D2, g6L44, g7L44, g8L44, g9L44, g13L44, g31L44, g32L44, op1, ou10, ou14, ou16, ovd, opd, opa, ope, lE, hD2⟩ := hP
     try simp only [g9L44, g13L44]
     refine ob_i (ope.ld0 rfl) ?_
     refine ob_i (vMx_max _ _ _) ?_
     exact hJ32 _ _ ⟨_, g6L44, g7L44, g8L44, (congrArg (Value.int .i64) (by omega)), g31L44, g32L44, op1, ou10, ou14, ou16, ovd, opd, lE, hD2⟩
    refine C.slices_Backward opa.sl (fun ps45 H46 ops45 nn48 le47 => ?_)
    have avdXps45 : Apart vd ps45 := ovd.apart nn48
    have apeXps45 : Apart pe ps45 := ope.apart nn48
    replace op1 := op1.le le47
    replace ou10 := ou10.le le47
    replace ou14 := ou14.le le47
    replace ou16 := ou16.le le47
    replace ovd := ovd.le le47
    replace opd := opd.le le47
    replace opa := opa.le le47
    replace ope := ope.le le47
    replace hvt := hvt.le le47
    replace lE := lE.trans le47
    replace ops45 : Cel H46 ps45 [pa] := ops45
    have hmx := dp_exit wl hD hE
    refine rgE_i ((pthL nx s n).length) (fun (t : Nat) => [.int .i64 (((pthL nx s n).length : Int) - 1 - (t : Int)), .int .i64 (at_ 0 (pthL nx s n) (((pthL nx s n).length : Int) - 1 - (t : Int)))]) (fun (t : Nat) H' => ∃ D2, Cel H' p1 [(.int .i64 (st)), (.int .i64 (rc)), vt] ∧ Own eI H' u10 (nx) ∧ Own eI H' u14 (cyL nx) ∧ Own eI H' u16 ([(-1)]) ∧ Own eI H' vd (D2) ∧ Cel H' pd [vd] ∧ Own eI H' pa (pthL nx s n) ∧ Cel H' pe [(.int .i64 (((dpF nx (itF (nxF nx) n s) : Nat) : Int) + (t : Int)))] ∧ Cel H' ps45 [pa] ∧ Le H H' ∧ DpI nx (0) D2) trivial (fun _ => rfl) ⟨_, op1, ou10, ou14, ou16, ovd, opd, opa, (Cel.castC (by rw [hmx]; simp) ope), ops45, lE, hD⟩ (fun t H49 σ49 Q49 htN hσ49 qn49 qr49 qx49 hI49 => ?_) (fun H49 hI49 => ?_) (fun yv J St H1 K1 hJ h0 hst hk1 hs1 => ?_)
    ·obtain ⟨D2, op1, ou10, ou14, ou16, ovd, opd, opa, ope, ops45, lE, hD2⟩ := hI49
     have hvt := hvt0.le lE
     have g8L49 : σ49 8 = pd := by rw [hσ49]; exact g8L38
     have g13L49 : σ49 13 = pe := by rw [hσ49]; exact rfl
     have g65L49 : σ49 65 = (.int .i64 (at_ 0 (pthL nx s n) (((pthL nx s n).length : Int) - 1 - (t : Int)))) := by rw [hσ49]; rfl
     try simp only [g8L49, g13L49, g65L49]
     have hD2l := hD2.1
     have pk := pth_back (nx := nx) (s := s) (n := n) (t := t) (by omega)
     have wk := itF_lt (nxF_lt hx) hs (n - 1 - t)
     refine ob_i (ope.ld0 rfl) ?_
     refine ob_i (vInt_add (by omega) (by omega)) ?_
     refine ope.st0 (by simp) rfl rfl (fun H50 ope off51 => ?_)
     replace op1 := op1.off off51 ap1Xpe
     replace ou10 := ou10.off off51 au10Xpe
     replace ou14 := ou14.off off51 au14Xpe
     replace ou16 := ou16.off off51 au16Xpe
     replace ovd := ovd.off off51 avdXpe
     replace opd := opd.off off51 apdXpe
     replace opa := opa.off off51 apaXpe
     replace ops45 := ops45.off off51 apeXps45.symm
     replace hvt := hvt0.le (off51.le lE npe)
     replace lE := off51.le lE npe
     replace ope : Cel H50 pe [(.int .i64 ((((dpF nx (itF (nxF nx) n s) : Nat) : Int) + (t : Int)) + 1))] := ope
     refine ob_i (opd.ld0 rfl) ?_
     refine ob_i (ope.ld0 rfl) ?_
     refine ob_i (ovd.sl.ix (by omega) (by omega)) ?_
     refine ovd.st (x := (((dpF nx (itF (nxF nx) n s) : Nat) : Int) + (t : Int)) + 1) (by omega) (by omega) rfl rfl (fun H52 ovd off53 => ?_)
     replace op1 := op1.off off53 ap1Xvd
     replace ou10 := ou10.off off53 au10Xvd
     replace ou14 := ou14.off off53 au14Xvd
     replace ou16 := ou16.off off53 au16Xvd
     replace opd := opd.off off53 avdXpd.symm
     replace opa := opa.off off53 avdXpa.symm
     replace ope := ope.off off53 avdXpe.symm
     replace ops45 := ops45.off off53 avdXps45.symm
     replace hvt := hvt0.le (off53.le lE nvd)
     replace lE := off53.le lE nvd
     exact qn49 _ _ ⟨((D2).set (at_ 0 (pthL nx s n) (((pthL nx s n).length : Int) - 1 - (t : Int))).toNat ((((dpF nx (itF (nxF nx) n s) : Nat) : Int) + (t : Int)) + 1)), op1, ou10, ou14, ou16, ovd, opd, opa, (Cel.castC (by first | rfl | (congr 2; omega)) ope), ops45, lE, (DpI.next (t := t) hx hs hP (by omega) hD2 (by omega) (by omega))⟩
    ·obtain ⟨D2, op1, ou10, ou14, ou16, ovd, opd, opa, ope, ops45, lE, hD2⟩ := hI49
     exact hJ44 _ _ ⟨_, g6L38, g7L38, g8L38, g9L38, rfl, g31L38, g32L38, op1, ou10, ou14, ou16, ovd, opd, opa, (Cel.castC (by congr 2; omega) ope), lE, hD2⟩
    ·refine ⟨by kernel_rfl, C.slices_BackwardZ1 opa.sl (by omega) (fun t A hA => ?_) h0 hst hk1 hs1⟩
     obtain ⟨A', b, o, rfl, hn, D2, op1, ou10, ou14, ou16, ovd, opd, opa, ope, ops45, lE, hD2⟩ := hJ t A hA
     exact ⟨ops45.le (Le.put _ hn), opa.sl.le (Le.put _ hn)⟩
   refine ⟨fun n' σ' H' => ∃ n : Nat, n' = nx.length - n ∧ n ≤ nx.length ∧ ∃ pa, σ' 6 = u10 ∧ σ' 7 = u14 ∧ σ' 8 = pd ∧ σ' 9 = (.int .i64 (((mxD nx s : Nat) : Int))) ∧ σ' 11 = pa ∧ σ' 12 = (.int .i64 (((itF (nxF nx) n s : Nat) : Int))) ∧ σ' 31 = (.int .i64 (((nx).length : Int))) ∧ σ' 32 = (.int .i64 ((s : Int))) ∧ Cel H' p1 [(.int .i64 (st)), (.int .i64 (rc)), vt] ∧ Own eI H' u10 (nx) ∧ Own eI H' u14 (cyL nx) ∧ Own eI H' u16 ([(-1)]) ∧ Own eI H' vd (D0) ∧ Cel H' pd [vd] ∧ Own eI H' pa (pthL nx s n) ∧ Nw H pa ∧ Apart p1 pa ∧ Apart u10 pa ∧ Apart u14 pa ∧ Apart u16 pa ∧ Apart vd pa ∧ Apart pd pa ∧ Le H H' ∧ (∀ i, i < n → perN (nxF nx) nx.length (itF (nxF nx) i s) = 0),
    ⟨_, 0, rfl, by omega, u33, g6L30, g7L30, g8L30, g9L30, rfl, rfl, g31L30, g32L30, op1, ou10, ou14, ou16, ovd, opd, (Own.cast (by rfl) ou33), nu33, ap1Xu33, au10Xu33, au14Xu33, au16Xu33, avdXu33, apdXu33, lE, (fun i hi => by omega)⟩, ?_⟩
   rintro n54 σ54 H54 ⟨n, rfl, hnN, pa, g6L54, g7L54, g8L54, g9L54, g11L54, g12L54, g31L54, g32L54, op1, ou10, ou14, ou16, ovd, opd, opa, npa, ap1Xpa, au10Xpa, au14Xpa, au16Xpa, avdXpa, apdXpa, lE, hP⟩
   have hvt := hvt0.le lE
   try simp only [g6L54, g7L54, g8L54, g11L54, g12L54]
   have wl := itF_lt (nxF_lt hx) hs n
   have ptl := pthL_len (nx := nx) (s := s) (n := n)
   have hplt := path_lt hx hs hP
   refine ob_i (ou14.sl.ix (by omega) (by omega)) ?_
   refine ob_i (ou14.sl.ld 0 (by omega) (by omega)) ?_
   refine ob_i (vInt_eql _ _ _) ?_
   by_cases hc55 : (at_ 0 (cyL nx) (((itF (nxF nx) n s : Nat) : Int))) = 0
   ·skip
    refine gop_e (decide_eq_true hc55) ?_
    refine gop_rt ?_
    refine ob_i (opd.ld0 rfl) ?_
    refine gop_e (decide_eq_true hc55) ?_
    refine gop_rt ?_
    refine gop_e (decide_eq_true hc55) ?_
    refine gop_rt ?_
    refine ob_i (ovd.sl.ix (by omega) (by omega)) ?_
    refine gop_e (decide_eq_true hc55) ?_
    refine gop_rt ?_
    refine ob_i (ovd.sl.ld 0 (by omega) (by omega)) ?_
    refine gop_e (decide_eq_true hc55) ?_
    refine gop_rt ?_
    refine ob_i (vInt_lss _ _ _) ?_
    refine ob_i (vPick_et (decide_eq_true hc55) _ _) ?_
    refine cnd_d (fun hg56 => ?_) (fun hg56 => ?_)
    ·skip
     refine bS_i (enc := eI) (l := [((itF (nxF nx) n s : Nat) : Int)]) (by omega) rfl (by kernel_rfl) (fun u57 H58 ou57 nn59 le61 => ?_)
     replace op1 := op1.le le61
     replace ou10 := ou10.le le61
     replace ou14 := ou14.le le61
     replace ou16 := ou16.le le61
     replace ovd := ovd.le le61
     replace opd := opd.le le61
     replace opa := opa.le le61
     replace hvt := hvt.le le61
     replace lE := lE.trans le61
     refine apd_any opa ou57.sl (fun _ => rfl) (by omega) (by first | omega | (simp only [List.length_cons, List.length_nil]; omega)) (fun u65 H62 ou65 off63 hb64 => ?_)
     have ap1Xu65 : Apart p1 u65 := Apart.ap2 op1.known ap1Xpa hb64
     have au10Xu65 : Apart u10 u65 := Apart.ap2 ou10.known au10Xpa hb64
     have au14Xu65 : Apart u14 u65 := Apart.ap2 ou14.known au14Xpa hb64
     have au16Xu65 : Apart u16 u65 := Apart.ap2 ou16.known au16Xpa hb64
     have avdXu65 : Apart vd u65 := Apart.ap2 ovd.known avdXpa hb64
     have apdXu65 : Apart pd u65 := Apart.ap2 opd.known apdXpa hb64
     have nu65 : Nw H u65 := Nw.ap2 npa lE hb64
     replace op1 := op1.off off63 ap1Xpa
     replace ou10 := ou10.off off63 au10Xpa
     replace ou14 := ou14.off off63 au14Xpa
     replace ou16 := ou16.off off63 au16Xpa
     replace ovd := ovd.off off63 avdXpa
     replace opd := opd.off off63 apdXpa
     replace hvt := hvt0.le (off63.le lE npa)
     replace lE := off63.le lE npa
     refine ob_i (ou10.sl.ix (by omega) (by omega)) ?_
     refine ob_i (ou10.sl.ld 0 (by omega) (by omega)) ?_
     have hp1 := path_succ hP ((cy_ne wl).mp hc55)
     have hpl := path_lt hx hs hp1
     exact nxt (nx.length - (n + 1)) (by omega) ⟨n + 1, rfl, by omega, u65, g6L54, g7L54, g8L54, g9L54, rfl, (congrArg (Value.int .i64) (nxW_at hx hs n)), g31L54, g32L54, op1, ou10, ou14, ou16, ovd, opd, (Own.cast pthL_succ ou65), nu65, ap1Xu65, au10Xu65, au14Xu65, au16Xu65, avdXu65, apdXu65, lE, hp1⟩
    ·skip
     exact hJ38 _ _ ⟨pa, _, g6L54, g7L54, g8L54, g9L54, g11L54, g12L54, g31L54, g32L54, op1, ou10, ou14, ou16, ovd, opd, opa, npa, ap1Xpa, au10Xpa, au14Xpa, au16Xpa, avdXpa, apdXpa, lE, hP, (.inr hg56), (path_lt hx hs hP)⟩
   ·skip
    refine gop_e (decide_eq_false hc55) ?_
    refine gop_sf ?_
    refine gop_e (decide_eq_false hc55) ?_
    refine gop_sf ?_
    refine gop_e (decide_eq_false hc55) ?_
    refine gop_sf ?_
    refine gop_e (decide_eq_false hc55) ?_
    refine gop_sf ?_
    refine gop_e (decide_eq_false hc55) ?_
    refine gop_sf ?_
    refine ob_i (vPick_ef (decide_eq_false hc55) _ _) ?_
    refine cnd_f1 ?_
    exact hJ38 _ _ ⟨pa, _, g6L54, g7L54, g8L54, g9L54, g11L54, g12L54, g31L54, g32L54, op1, ou10, ou14, ou16, ovd, opd, opa, npa, ap1Xpa, au10Xpa, au14Xpa, au16Xpa, avdXpa, apdXpa, lE, hP, (.inl (fun g => hc55 ((cy_ne wl).mpr g))), (path_lt hx hs hP)⟩
  ·skip
   have ts := hg31
   obtain rfl : s = nx.length := by omega
   exact hJ29 _ _ ⟨(g9L30.trans (congrArg (Value.int .i64) (by first | omega | rfl | (simp; done)))), op1, ou10, ou14, ou16, opd, lE⟩
 ·skip
  refine cnd_t1 ?_
  skip
  have hok : ¬ (smlP st rc T n) := by assumption
  exact keq (K := K) (by rw [show ((selI (smlP st rc T n) (((mxD (nsL st rc T n) (nsL st rc T n).length : Nat) : Int))) : Int) = (0) from by first | (rw [hnx]; exact selI_t hok) | exact selI_t hok | exact selI_f hok]; rw [decide_eq_false (show ¬ (smlP st rc T n) from by exact hok)]) (hk   _    lE)
theorem C.spec_l00Max {a b : Int}  {H : Hp} {K : Value → Hp → Prop}
    (hk : K (.int .i64 (max a b)) H) : HT prg I.spec_l00Max [(.int .i64 (a)), (.int .i64 (b))].toArray H K := by
 have lE := Le.refl H
 refine R.spec_l00Max ?_
 unfold F.spec_l00Max
 refine ob_i (vInt_gtr _ _ _) ?_
 refine cnd_d (fun hg1 => ?_) (fun hg1 => ?_)
 ·skip
  skip
  exact keq (K := K) (by rw [show ((max a b) : Int) = (a) from by omega]) (hk )
 ·skip
  skip
  exact keq (K := K) (by rw [show ((max a b) : Int) = (b) from by omega]) (hk )
theorem dp_exitS {nx D : List Int} {w : Nat} (hw : w < nx.length) (hd : DpI nx 1 D) (h : perN (nxF nx) nx.length w ≠ 0 ∨ ¬ at_ 0 D (w : Int) = 0) : (at_ 0 (cyL nx) (w : Int) = 0 → at_ 0 D (w : Int) - 1 = ((dpF nx w : Nat) : Int)) ∧ (¬ at_ 0 (cyL nx) (w : Int) = 0 → 0 = ((dpF nx w : Nat) : Int)) := by
  refine ⟨fun g => ?_, fun g => ?_⟩
  · have g' := (cy_ne hw).mp g
    rcases h with h | h
    · exact absurd g' h
    · rcases hd.2 w hw with e | ⟨e, _⟩
      · omega
      · omega
  · rw [dpF_zero hw (fun g' => g ((cy_ne hw).mpr g'))]; rfl
theorem dpS_bnd {nx D : List Int} {w : Nat} (hx : nxP nx) (hw : w < nx.length) (hd : DpI nx 1 D) : 0 ≤ at_ 0 D (w : Int) ∧ at_ 0 D (w : Int) ≤ nx.length := by
  have := dpF_lt hx hw
  rcases hd.2 w hw with e | ⟨e, _⟩ <;> omega
theorem pth_backS {nx : List Int} {s n t : Nat} (ht : t < n) : at_ 0 (pthL nx s n) ((n : Int) - 1 - (t : Int)) = ((itF (nxF nx) (n - 1 - t) s : Nat) : Int) := by
  rw [show ((n : Int) - 1 - (t : Int)) = ((n - 1 - t : Nat) : Int) by omega]
  exact pthL_at (by omega)
theorem C.spec_DepthOf {vt : Value} {st rc n : Int} {T : List Int}  {H : Hp} {K : Value → Hp → Prop} (hvt0 : Sl eI H vt T) (k1 : T.length ≤ 9223372036854775807)
    (hk : ∀ H', Le H H' → K (.tuple #[(.int .i64 (selI (smlP st rc T n) (((mxD (nsL st rc T n) (nsL st rc T n).length : Nat) : Int)))), (.bool (decide (smlP st rc T n)))]) H') : HT prg I.spec_DepthOf [(.agg #[(.int .i64 (st)), (.int .i64 (rc)), vt]), (.int .i64 (n))].toArray H K := by
 have lE := Le.refl H
 have hvt := hvt0
 refine R.spec_DepthOf ?_
 unfold F.spec_DepthOf
 refine nw_i (fun p1 H2 op1 nn3 le4 => ?_)
 replace hvt := hvt.le le4
 replace lE := lE.trans le4
 replace op1 : Cel H2 p1 [(.int .i64 (st)), (.int .i64 (rc)), vt] := op1
 refine C.spec_l03Small op1 hvt (by first | omega | assumption) (fun   H5    le6 => ?_)
 replace op1 := op1.le le6
 replace hvt := hvt.le le6
 replace lE := lE.trans le6
 refine ob_nd (fun hc7 => ?_) (fun hc7 => ?_)
 ·skip
  refine cnd_f1 ?_
  refine C.spec_l03Steps op1 hvt (by first | omega | assumption) (fun  u10 H8 ou10 nn11  le9 => ?_)
  replace op1 := op1.le le9
  replace hvt := hvt.le le9
  replace lE := lE.trans le9
  obtain ⟨nx, hnx⟩ : ∃ x : List Int, x = nsL st rc T n := ⟨_, rfl⟩
  rw [← hnx] at ou10
  have hx : nxP nx := by rw [hnx]; exact nsL_nx (by assumption)
  have hnl : nx.length = (pwr st n).toNat := by rw [hnx]; exact nsL_len
  have hpw := sml_pw (st := st) (rc := rc) (T := T) (n := n) (by assumption)
  have hcl := cyL_len nx
  refine C.spec_l03Cycles ou10.sl (by first | omega | assumption) (by first | omega | assumption) (fun  u14 H12 ou14 nn15  le13 => ?_)
  replace op1 := op1.le le13
  replace ou10 := ou10.le le13
  replace hvt := hvt.le le13
  replace lE := lE.trans le13
  refine ob_i (ou10.len) ?_
  refine Own.mk_ (z := (0 : Int)) (by omega) (by omega) (by omega) (by omega) (fun vd H16 ovd nn17 le18 => ?_)
  have ap1Xvd : Apart p1 vd := op1.apart nn17
  have au10Xvd : Apart u10 vd := ou10.apart nn17
  have au14Xvd : Apart u14 vd := ou14.apart nn17
  have nvd : Nw H vd := nn17.le lE
  replace op1 := op1.le le18
  replace ou10 := ou10.le le18
  replace ou14 := ou14.le le18
  replace hvt := hvt.le le18
  replace lE := lE.trans le18
  refine jn_i (fun σ' H' => σ' 9 = (.int .i64 (((mxD nx nx.length : Nat) : Int))) ∧ Cel H' p1 [(.int .i64 (st)), (.int .i64 (rc)), vt] ∧ Own eI H' u10 (nx) ∧ Own eI H' u14 (cyL nx) ∧ Le H H') (fun σ19 H19 hP => ?_) (fun J19 hJ19 => ?_)
  ·skip
   obtain ⟨g9L19, op1, ou10, ou14, lE⟩ := hP
   try simp only [g9L19]
   skip
   have hok : smlP st rc T n := by assumption
   exact keq (K := K) (by rw [show ((selI (smlP st rc T n) (((mxD (nsL st rc T n) (nsL st rc T n).length : Nat) : Int))) : Int) = (((mxD nx nx.length : Nat) : Int)) from by first | (rw [hnx]; exact selI_t hok) | exact selI_t hok | exact selI_f hok]; rw [decide_eq_true (show (smlP st rc T n) from by exact hok)]) (hk   _    lE)
  refine ob_i (ou10.len) ?_
  refine ⟨fun n' σ' H' => ∃ s : Nat, n' = nx.length - s ∧ s ≤ nx.length ∧ ∃ D0, σ' 6 = u10 ∧ σ' 7 = u14 ∧ σ' 8 = vd ∧ σ' 9 = (.int .i64 (((mxD nx s : Nat) : Int))) ∧ σ' 26 = (.int .i64 (((nx).length : Int))) ∧ σ' 27 = (.int .i64 ((s : Int))) ∧ Cel H' p1 [(.int .i64 (st)), (.int .i64 (rc)), vt] ∧ Own eI H' u10 (nx) ∧ Own eI H' u14 (cyL nx) ∧ Own eI H' vd (D0) ∧ Le H H' ∧ DpI nx (1) D0,
   ⟨_, 0, rfl, by omega, _, rfl, rfl, rfl, rfl, rfl, (congrArg (Value.int .i64) (by first | omega | rfl | (simp; done))), op1, ou10, ou14, by simpa using ovd, lE, (DpI.start (by omega) rfl)⟩, ?_⟩
  rintro n20 σ20 H20 ⟨s, rfl, hsN, D0, g6L20, g7L20, g8L20, g9L20, g26L20, g27L20, op1, ou10, ou14, ovd, lE, hD⟩
  have hvt := hvt0.le lE
  try simp only [g26L20, g27L20]
  have hDl := hD.1
  have hml := mxD_le hx (s := s) (by omega)
  refine ob_i (vInt_lss _ _ _) ?_
  refine cnd_d (fun hg21 => ?_) (fun hg21 => ?_)
  ·skip
   have ts := hg21
   have hs : s < nx.length := by omega
   refine jn_i (fun σ' H' => ∃ D1, σ' 6 = u10 ∧ σ' 7 = u14 ∧ σ' 8 = vd ∧ σ' 9 = (.int .i64 (((mxD nx (s + 1) : Nat) : Int))) ∧ σ' 26 = (.int .i64 (((nx).length : Int))) ∧ σ' 27 = (.int .i64 ((s : Int))) ∧ Cel H' p1 [(.int .i64 (st)), (.int .i64 (rc)), vt] ∧ Own eI H' u10 (nx) ∧ Own eI H' u14 (cyL nx) ∧ Own eI H' vd (D1) ∧ Le H H' ∧ DpI nx (1) D1) (fun σ22 H22 hP => ?_) (fun J22 hJ22 => ?_)
   ·skip
    obtain ⟨D1, g6L22, g7L22, g8L22, g9L22, g26L22, g27L22, op1, ou10, ou14, ovd, lE, hD1⟩ := hP
    try simp only [g27L22]
    refine ob_i (vInt_add (by omega) (by omega)) ?_
    exact nxt (nx.length - (s + 1)) (by omega) ⟨s + 1, rfl, by omega, D1, g6L22, g7L22, g8L22, (g9L22.trans (congrArg (Value.int .i64) (by first | omega | rfl | (simp; done)))), g26L22, (congrArg (Value.int .i64) (by first | omega | rfl | (simp; done))), op1, ou10, ou14, ovd, lE, hD1⟩
   refine bS_nil (enc := eI) (fun u23 H24 ou23 nn25 kk26 le27 => ?_)
   have ap1Xu23 : Apart p1 u23 := op1.apart nn25
   have au10Xu23 : Apart u10 u23 := ou10.apart nn25
   have au14Xu23 : Apart u14 u23 := ou14.apart nn25
   have avdXu23 : Apart vd u23 := ovd.apart nn25
   have nu23 : Nw H u23 := nn25.le lE
   replace op1 := op1.le le27
   replace ou10 := ou10.le le27
   replace ou14 := ou14.le le27
   replace ovd := ovd.le le27
   replace hvt := hvt.le le27
   replace lE := lE.trans le27
   refine jn_i (fun σ' H' => ∃ pa, ∃ n, σ' 6 = u10 ∧ σ' 7 = u14 ∧ σ' 8 = vd ∧ σ' 9 = (.int .i64 (((mxD nx s : Nat) : Int))) ∧ σ' 11 = pa ∧ σ' 12 = (.int .i64 (((itF (nxF nx) n s : Nat) : Int))) ∧ σ' 26 = (.int .i64 (((nx).length : Int))) ∧ σ' 27 = (.int .i64 ((s : Int))) ∧ Cel H' p1 [(.int .i64 (st)), (.int .i64 (rc)), vt] ∧ Own eI H' u10 (nx) ∧ Own eI H' u14 (cyL nx) ∧ Own eI H' vd (D0) ∧ Own eI H' pa (pthL nx s n) ∧ Nw H pa ∧ Apart p1 pa ∧ Apart u10 pa ∧ Apart u14 pa ∧ Apart vd pa ∧ Le H H' ∧ (∀ i, i < n → perN (nxF nx) nx.length (itF (nxF nx) i s) = 0) ∧ (perN (nxF nx) nx.length (itF (nxF nx) n s) ≠ 0 ∨ ¬ at_ 0 D0 ((itF (nxF nx) n s : Nat) : Int) = 0) ∧ n < nx.length) (fun σ28 H28 hP => ?_) (fun J28 hJ28 => ?_)
   ·skip
    obtain ⟨pa, n, g6L28, g7L28, g8L28, g9L28, g11L28, g12L28, g26L28, g27L28, op1, ou10, ou14, ovd, opa, npa, ap1Xpa, au10Xpa, au14Xpa, avdXpa, lE, hP, hE, hnN⟩ := hP
    have hvt := hvt0.le lE
    try simp only [g7L28, g8L28, g12L28]
    have wl := itF_lt (nxF_lt hx) hs n
    have ptl := pthL_len (nx := nx) (s := s) (n := n)
    have hdw := dpF_walk hx hs hP
    have hdl := dpF_lt hx hs
    have hdl2 := dpF_lt hx wl
    have hms := mxD_succ (nx := nx) (s := s)
    have hdx := dp_exitS wl hD hE
    have hdb := dpS_bnd hx wl hD
    refine jn_i (fun σ' H' => σ' 6 = u10 ∧ σ' 7 = u14 ∧ σ' 8 = vd ∧ σ' 9 = (.int .i64 (((mxD nx s : Nat) : Int))) ∧ σ' 11 = pa ∧ σ' 13 = (.int .i64 (((dpF nx (itF (nxF nx) n s) : Nat) : Int))) ∧ σ' 26 = (.int .i64 (((nx).length : Int))) ∧ σ' 27 = (.int .i64 ((s : Int))) ∧ Cel H' p1 [(.int .i64 (st)), (.int .i64 (rc)), vt] ∧ Own eI H' u10 (nx) ∧ Own eI H' u14 (cyL nx) ∧ Own eI H' vd (D0) ∧ Own eI H' pa (pthL nx s n) ∧ Le H H') (fun σ29 H29 hP => ?_) (fun J29 hJ29 => ?_)
    ·skip
     obtain ⟨g6L29, g7L29, g8L29, g9L29, g11L29, g13L29, g26L29, g27L29, op1, ou10, ou14, ovd, opa, lE⟩ := hP
     have hvt := hvt0.le lE
     try simp only [g11L29]
     refine jn_i (fun σ' H' => ∃ D2, σ' 6 = u10 ∧ σ' 7 = u14 ∧ σ' 8 = vd ∧ σ' 9 = (.int .i64 (((mxD nx s : Nat) : Int))) ∧ σ' 13 = (.int .i64 (((dpF nx s : Nat) : Int))) ∧ σ' 26 = (.int .i64 (((nx).length : Int))) ∧ σ' 27 = (.int .i64 ((s : Int))) ∧ Cel H' p1 [(.int .i64 (st)), (.int .i64 (rc)), vt] ∧ Own eI H' u10 (nx) ∧ Own eI H' u14 (cyL nx) ∧ Own eI H' vd (D2) ∧ Own eI H' pa (pthL nx s n) ∧ Le H H' ∧ DpI nx (1) D2) (fun σ30 H30 hP => ?_) (fun J30 hJ30 => ?_)
     ·skip
      obtain ⟨D2, g6L30, g7L30, g8L30, g9L30, g13L30, g26L30, g27L30, op1, ou10, ou14, ovd, opa, lE, hD2⟩ := hP
      try simp only [g9L30, g13L30]
      refine C.spec_l00Max  ?_
      exact hJ22 _ _ ⟨_, g6L30, g7L30, g8L30, (congrArg (Value.int .i64) (by omega)), g26L30, g27L30, op1, ou10, ou14, ovd, lE, hD2⟩
     refine ob_i (opa.len) ?_
     refine ob_i (vInt_sub (by omega) (by omega)) ?_
     refine ⟨fun n' σ' H' => ∃ t : Nat, n' = n - t ∧ t ≤ n ∧ ∃ D2, σ' 6 = u10 ∧ σ' 7 = u14 ∧ σ' 8 = vd ∧ σ' 9 = (.int .i64 (((mxD nx s : Nat) : Int))) ∧ σ' 11 = pa ∧ σ' 13 = (.int .i64 (((dpF nx (itF (nxF nx) n s) : Nat) : Int) + (t : Int))) ∧ σ' 14 = (.int .i64 ((n : Int) - 1 - (t : Int))) ∧ σ' 26 = (.int .i64 (((nx).length : Int))) ∧ σ' 27 = (.int .i64 ((s : Int))) ∧ Cel H' p1 [(.int .i64 (st)), (.int .i64 (rc)), vt] ∧ Own eI H' u10 (nx) ∧ Own eI H' u14 (cyL nx) ∧ Own eI H' vd (D2) ∧ Own eI H' pa (pthL nx s n) ∧ Le H H' ∧ DpI nx (1) D2,
      ⟨_, 0, rfl, by omega, _, g6L29, g7L29, g8L29, g9L29, g11L29, (g13L29.trans (congrArg (Value.int .i64) (by omega))), (congrArg (Value.int .i64) (by first | omega | rfl | (simp; done))), g26L29, g27L29, op1, ou10, ou14, by simpa using ovd, opa, lE, hD⟩, ?_⟩
     rintro n31 σ31 H31 ⟨t, rfl, htN, D2, g6L31, g7L31, g8L31, g9L31, g11L31, g13L31, g14L31, g26L31, g27L31, op1, ou10, ou14, ovd, opa, lE, hD2⟩
     have hvt := hvt0.le lE
     try simp only [g8L31, g11L31, g13L31, g14L31]
     have hD2l := hD2.1
     have wk := itF_lt (nxF_lt hx) hs (n - 1 - t)
     refine ob_i (vInt_geq _ _ _) ?_
     refine cnd_d (fun hg32 => ?_) (fun hg32 => ?_)
     ·skip
      have tt := hg32
      have pk := pth_backS (nx := nx) (s := s) (n := n) (t := t) (by omega)
      refine ob_i (vInt_add (by omega) (by omega)) ?_
      refine ob_i (opa.sl.ix (by omega) (by omega)) ?_
      refine ob_i (opa.sl.ld 0 (by omega) (by omega)) ?_
      refine ob_i (vInt_add (by omega) (by omega)) ?_
      refine ob_i (ovd.sl.ix (by omega) (by omega)) ?_
      refine ovd.st (x := ((((dpF nx (itF (nxF nx) n s) : Nat) : Int) + (t : Int)) + 1) + 1) (by omega) (by omega) rfl rfl (fun H33 ovd off34 => ?_)
      replace op1 := op1.off off34 ap1Xvd
      replace ou10 := ou10.off off34 au10Xvd
      replace ou14 := ou14.off off34 au14Xvd
      replace opa := opa.off off34 avdXpa.symm
      replace hvt := hvt0.le (off34.le lE nvd)
      replace lE := off34.le lE nvd
      refine ob_i (vInt_sub (by omega) (by omega)) ?_
      exact nxt (n - (t + 1)) (by omega) ⟨t + 1, rfl, by omega, ((D2).set (at_ 0 (pthL nx s n) ((n : Int) - 1 - (t : Int))).toNat (((((dpF nx (itF (nxF nx) n s) : Nat) : Int) + (t : Int)) + 1) + 1)), g6L31, g7L31, g8L31, g9L31, g11L31, (congrArg (Value.int .i64) (by first | omega | rfl | (simp; done))), (congrArg (Value.int .i64) (by first | omega | rfl | (simp; done))), g26L31, g27L31, op1, ou10, ou14, ovd, opa, lE, (DpI.next (t := t) hx hs hP (by omega) hD2 (by omega) (by omega))⟩
     ·skip
      have tt := hg32
      exact hJ30 _ _ ⟨_, g6L31, g7L31, g8L31, g9L31, (g13L31.trans (congrArg (Value.int .i64) (by first | omega | rfl | (simp; done)))), g26L31, g27L31, op1, ou10, ou14, ovd, opa, lE, hD2⟩
    refine ob_i (ou14.sl.ix (by omega) (by omega)) ?_
    refine ob_i (ou14.sl.ld 0 (by omega) (by omega)) ?_
    refine ob_i (vInt_eql _ _ _) ?_
    refine cnd_d (fun hg35 => ?_) (fun hg35 => ?_)
    ·skip
     refine ob_i (ovd.sl.ix (by omega) (by omega)) ?_
     refine ob_i (ovd.sl.ld 0 (by omega) (by omega)) ?_
     refine ob_i (vInt_sub (by omega) (by omega)) ?_
     exact hJ29 _ _ ⟨g6L28, g7L28, g8L28, g9L28, g11L28, (congrArg (Value.int .i64) (hdx.1 hg35)), g26L28, g27L28, op1, ou10, ou14, ovd, opa, lE⟩
    ·skip
     exact hJ29 _ _ ⟨g6L28, g7L28, g8L28, g9L28, g11L28, (congrArg (Value.int .i64) (hdx.2 hg35)), g26L28, g27L28, op1, ou10, ou14, ovd, opa, lE⟩
   refine ⟨fun n' σ' H' => ∃ n : Nat, n' = nx.length - n ∧ n ≤ nx.length ∧ ∃ pa, σ' 6 = u10 ∧ σ' 7 = u14 ∧ σ' 8 = vd ∧ σ' 9 = (.int .i64 (((mxD nx s : Nat) : Int))) ∧ σ' 11 = pa ∧ σ' 12 = (.int .i64 (((itF (nxF nx) n s : Nat) : Int))) ∧ σ' 26 = (.int .i64 (((nx).length : Int))) ∧ σ' 27 = (.int .i64 ((s : Int))) ∧ Cel H' p1 [(.int .i64 (st)), (.int .i64 (rc)), vt] ∧ Own eI H' u10 (nx) ∧ Own eI H' u14 (cyL nx) ∧ Own eI H' vd (D0) ∧ Own eI H' pa (pthL nx s n) ∧ Nw H pa ∧ Apart p1 pa ∧ Apart u10 pa ∧ Apart u14 pa ∧ Apart vd pa ∧ Le H H' ∧ (∀ i, i < n → perN (nxF nx) nx.length (itF (nxF nx) i s) = 0),
    ⟨_, 0, rfl, by omega, u23, g6L20, g7L20, g8L20, g9L20, rfl, rfl, g26L20, g27L20, op1, ou10, ou14, ovd, (Own.cast (by rfl) ou23), nu23, ap1Xu23, au10Xu23, au14Xu23, avdXu23, lE, (fun i hi => by omega)⟩, ?_⟩
   rintro n36 σ36 H36 ⟨n, rfl, hnN, pa, g6L36, g7L36, g8L36, g9L36, g11L36, g12L36, g26L36, g27L36, op1, ou10, ou14, ovd, opa, npa, ap1Xpa, au10Xpa, au14Xpa, avdXpa, lE, hP⟩
   have hvt := hvt0.le lE
   try simp only [g6L36, g7L36, g8L36, g11L36, g12L36]
   have wl := itF_lt (nxF_lt hx) hs n
   have ptl := pthL_len (nx := nx) (s := s) (n := n)
   have hplt := path_lt hx hs hP
   refine ob_i (ou14.sl.ix (by omega) (by omega)) ?_
   refine ob_i (ou14.sl.ld 0 (by omega) (by omega)) ?_
   refine ob_i (vInt_eql _ _ _) ?_
   by_cases hc37 : (at_ 0 (cyL nx) (((itF (nxF nx) n s : Nat) : Int))) = 0
   ·skip
    refine gop_e (decide_eq_true hc37) ?_
    refine gop_rt ?_
    refine gop_e (decide_eq_true hc37) ?_
    refine gop_rt ?_
    refine gop_e (decide_eq_true hc37) ?_
    refine gop_rt ?_
    refine ob_i (ovd.sl.ix (by omega) (by omega)) ?_
    refine gop_e (decide_eq_true hc37) ?_
    refine gop_rt ?_
    refine ob_i (ovd.sl.ld 0 (by omega) (by omega)) ?_
    refine gop_e (decide_eq_true hc37) ?_
    refine gop_rt ?_
    refine ob_i (vInt_eql _ _ _) ?_
    refine ob_i (vPick_et (decide_eq_true hc37) _ _) ?_
    refine cnd_d (fun hg38 => ?_) (fun hg38 => ?_)
    ·skip
     refine bS_i (enc := eI) (l := [((itF (nxF nx) n s : Nat) : Int)]) (by omega) rfl (by kernel_rfl) (fun u39 H40 ou39 nn41 le43 => ?_)
     replace op1 := op1.le le43
     replace ou10 := ou10.le le43
     replace ou14 := ou14.le le43
     replace ovd := ovd.le le43
     replace opa := opa.le le43
     replace hvt := hvt.le le43
     replace lE := lE.trans le43
     refine apd_any opa ou39.sl (fun _ => rfl) (by omega) (by first | omega | (simp only [List.length_cons, List.length_nil]; omega)) (fun u47 H44 ou47 off45 hb46 => ?_)
     have ap1Xu47 : Apart p1 u47 := Apart.ap2 op1.known ap1Xpa hb46
     have au10Xu47 : Apart u10 u47 := Apart.ap2 ou10.known au10Xpa hb46
     have au14Xu47 : Apart u14 u47 := Apart.ap2 ou14.known au14Xpa hb46
     have avdXu47 : Apart vd u47 := Apart.ap2 ovd.known avdXpa hb46
     have nu47 : Nw H u47 := Nw.ap2 npa lE hb46
     replace op1 := op1.off off45 ap1Xpa
     replace ou10 := ou10.off off45 au10Xpa
     replace ou14 := ou14.off off45 au14Xpa
     replace ovd := ovd.off off45 avdXpa
     replace hvt := hvt0.le (off45.le lE npa)
     replace lE := off45.le lE npa
     refine ob_i (ou10.sl.ix (by omega) (by omega)) ?_
     refine ob_i (ou10.sl.ld 0 (by omega) (by omega)) ?_
     have hp1 := path_succ hP ((cy_ne wl).mp hc37)
     have hpl := path_lt hx hs hp1
     exact nxt (nx.length - (n + 1)) (by omega) ⟨n + 1, rfl, by omega, u47, g6L36, g7L36, g8L36, g9L36, rfl, (congrArg (Value.int .i64) (nxW_at hx hs n)), g26L36, g27L36, op1, ou10, ou14, ovd, (Own.cast pthL_succ ou47), nu47, ap1Xu47, au10Xu47, au14Xu47, avdXu47, lE, hp1⟩
    ·skip
     exact hJ28 _ _ ⟨pa, _, g6L36, g7L36, g8L36, g9L36, g11L36, g12L36, g26L36, g27L36, op1, ou10, ou14, ovd, opa, npa, ap1Xpa, au10Xpa, au14Xpa, avdXpa, lE, hP, (.inr hg38), (path_lt hx hs hP)⟩
   ·skip
    refine gop_e (decide_eq_false hc37) ?_
    refine gop_sf ?_
    refine gop_e (decide_eq_false hc37) ?_
    refine gop_sf ?_
    refine gop_e (decide_eq_false hc37) ?_
    refine gop_sf ?_
    refine gop_e (decide_eq_false hc37) ?_
    refine gop_sf ?_
    refine gop_e (decide_eq_false hc37) ?_
    refine gop_sf ?_
    refine ob_i (vPick_ef (decide_eq_false hc37) _ _) ?_
    refine cnd_f1 ?_
    exact hJ28 _ _ ⟨pa, _, g6L36, g7L36, g8L36, g9L36, g11L36, g12L36, g26L36, g27L36, op1, ou10, ou14, ovd, opa, npa, ap1Xpa, au10Xpa, au14Xpa, avdXpa, lE, hP, (.inl (fun g => hc37 ((cy_ne wl).mpr g))), (path_lt hx hs hP)⟩
  ·skip
   have ts := hg21
   obtain rfl : s = nx.length := by omega
   exact hJ19 _ _ ⟨(g9L20.trans (congrArg (Value.int .i64) (by first | omega | rfl | (simp; done)))), op1, ou10, ou14, lE⟩
 ·skip
  refine cnd_t1 ?_
  skip
  have hok : ¬ (smlP st rc T n) := by assumption
  exact keq (K := K) (by rw [show ((selI (smlP st rc T n) (((mxD (nsL st rc T n) (nsL st rc T n).length : Nat) : Int))) : Int) = (0) from by first | (rw [hnx]; exact selI_t hok) | exact selI_t hok | exact selI_f hok]; rw [decide_eq_false (show ¬ (smlP st rc T n) from by exact hok)]) (hk   _    lE)
end Go.Proofs.Ythmdmbbdjbhcoaa
/- The library's sort: from the given contract to what a partial heap knows. -/
namespace Go.Proofs.Ythmdmbbdjbhcoaa
open HL
set_option maxRecDepth 100000
namespace HL
open Go.Sort in
theorem HT_sort {α : Type} [Inhabited α] {P : Program} {f : FuncId} {enc : α → Value} {v : Value} {l m : List α} {H : Hp} {K : Value → Hp → Prop} (ho : Own enc H v l) (hl : 0 < l.length) (hm : m.length = l.length)
    (hc : ∀ (blk off cap : Nat) (w : World), Holds enc w blk off l.toArray → blk < w.heap.size → Calls P f #[.slice (some ⟨blk, off, none⟩) l.length cap] w fun e w' =>
      e = .returned (.tuple #[]) ∧ ∃ n os, w' = grow (putRow enc (Go.Sort.ahead w n) blk off m.toArray) os)
    (hk : ∀ H', Own enc H' v m → Off v H H' → K (.tuple #[]) H') : HT P f #[v] H K := by
  obtain ⟨a, c, rfl, hlc, hr⟩ := ho
  obtain ⟨b, off, cs, e, rfl, hb, hs, hcs⟩ := hr (by omega)
  intro w hw
  have hwb := hw b _ hb
  have hbs : b < w.heap.size := by
    rcases Nat.lt_or_ge b w.heap.size with h | h
    · exact h
    · rw [Array.getElem?_eq_none h] at hwb; exact absurd hwb (by simp)
  have hH : Holds enc w b off l.toArray := fun j hj => by
    have hj' : j < l.length := by simpa using hj
    refine ⟨?_, ?_⟩
    · simp only [World.cell?, hwb]
      rw [getElem!_pos _ j hj]
      simpa using hcs j hj'
    · rw [hw.frozen (a := ⟨b, off + j, none⟩) hb]
      simp only [Hp.frozen?, hb]
      rfl
  refine (hc b off c w hH hbs).mono fun e' w' ⟨he, n, os, hw'⟩ => ?_
  subst hw'
  have hmod : ∀ x, x < w.heap.size → (grow (putRow enc (Go.Sort.ahead w n) b off m.toArray) os).heap[x]? = if b = x then (w.heap[x]?).map (onCells (putCells enc off m.toArray)) else w.heap[x]? := fun x hx => by
    simp only [grow, putRow, mapBlock, Go.Sort.ahead]
    rw [Array.getElem?_append_left (by simpa using hx), Array.getElem?_modify]
  have hsz : (grow (putRow enc (Go.Sort.ahead w n) b off m.toArray) os).heap.size = w.heap.size + os.size := by
    simp only [grow, putRow, mapBlock, Go.Sort.ahead, Array.size_append, Array.size_modify]
  refine ⟨.tuple #[], H.put b (.cells (putCells enc off m.toArray cs) e (0, 0)), he, fun x o hx => ?_, ⟨by omega, fun x hx hn => ?_, rfl, rfl, rfl⟩, hk _ ⟨_, c, by rw [hm], by omega, fun _ => ⟨b, off, _, e, rfl, Hp.put_same _ _ _, by simpa [putCells] using hs, fun i hi => ?_⟩⟩ (fun x o hx hv => ?_)⟩
  · by_cases hxb : x = b
    · subst hxb
      rw [Hp.put_same] at hx
      rw [hmod x hbs, if_pos rfl, hwb]
      simpa [onCells] using hx
    · rw [Hp.put_ne _ _ hxb] at hx
      have hwx := hw x o hx
      have hxs : x < w.heap.size := by
        rcases Nat.lt_or_ge x w.heap.size with h | h
        · exact h
        · rw [Array.getElem?_eq_none h] at hwx; exact absurd hwx (by simp)
      rw [hmod x hxs, if_neg (Ne.symm hxb)]
      exact hwx
  · have hxb : x ≠ b := by rintro rfl; rw [hb] at hn; exact absurd hn (by simp)
    rw [Hp.put_ne _ _ hxb, hmod x hx, if_neg (Ne.symm hxb)]
    exact ⟨hn, rfl⟩
  · have : off + i < cs.size := by omega
    simp only [putCells, Array.getElem?_mapIdx, Array.getElem?_eq_getElem this, Option.map_some]
    rw [if_pos ⟨by omega, by simp; omega⟩, show off + i - off = i by omega, getElem!_pos _ i (by simpa using hi)]
    simp
  · have hxb : x ≠ b := by
      rintro rfl
      refine hv ?_
      simp only [bk]
      rw [if_neg (by omega)]
    rw [Hp.put_ne _ _ hxb]
    exact hx
end HL
end Go.Proofs.Ythmdmbbdjbhcoaa
/- Cycles, told by their lengths. -/
namespace Go.Proofs.Ythmdmbbdjbhcoaa
open HL
set_option maxRecDepth 100000
theorem HL.Apt.ap2 {α : Type} [Bks α] {z : α} {u u' : Value} {H : Hp} (hz : Kn H z) (ha : Apt z u) (hb : ∀ b, bk u' = some b → bk u = some b ∨ H b = none) : Apt z u' := fun b h1 h2 => by
  rcases hb b h2 with h | h
  · exact ha b h1 h
  · obtain ⟨o, ho⟩ := hz b h1
    rw [h] at ho; simp at ho
def srtI (l : List Int) : List Int := l.mergeSort fun x y => decide (x ≤ y)
theorem srtI_len (l : List Int) : (srtI l).length = l.length := (List.mergeSort_perm l _).length_eq
theorem C.slices_Sort_I {v : Value} {l : List Int} {H : Hp} {K : Value → Hp → Prop} (ho : Own eI H v l) (h0 : 0 < l.length) (hl : l.length ≤ 1000000) (hk : ∀ H', Own eI H' v (srtI l) → Off v H H' → K (.tuple #[]) H') : HT prg I.slices_Sort_int64Zint64 [v].toArray H K :=
  HT_sort ho h0 (srtI_len l) (fun blk off cap w hH hb => sortI_calls blk off cap l w hH hb (by omega)) hk
/-- Lengths and counts of a rule's cycles. -/
def csL (st rc : Int) (T : List Int) (n : Int) : List Int := csG (cntK (cyL (nsL st rc T n))) ((nsL st rc T n).length + 1)
theorem csL_len {st rc n : Int} {T : List Int} (h : smlP st rc T n) : (csL st rc T n).length ≤ 20000 := by
  have := csG_len (c := cntK (cyL (nsL st rc T n))) (m := (nsL st rc T n).length + 1)
  have hp := sml_pw h
  rw [nsL_len] at this
  unfold csL
  rw [nsL_len]
  omega
theorem keys_pos {nx : List Int} {ms : List (Int × Int)} {js : List Nat} (hx : nxP nx) (h0 : 0 < nx.length) (hC : CntI (cyL nx) ms) (hall : ∀ j, j < ms.length → j ∈ js) : 0 < js.length := by
  obtain ⟨t, ht, hp⟩ := comes_round (nxF_lt hx) h0
  have hw := itF_lt (nxF_lt hx) h0 t
  have hm := at_mem 0 (cyL nx) (i := ((itF (nxF nx) t 0 : Nat) : Int)) (by omega) (by rw [cyL_len]; omega)
  rw [cyL_at hw] at hm
  obtain ⟨j, hj, _⟩ := hC.al _ (show (0 : Int) < ((perN (nxF nx) nx.length (itF (nxF nx) t 0) : Nat) : Int) by omega) (List.count_pos_iff.mpr hm)
  exact List.length_pos_of_mem (hall j hj)
theorem nd_range {js : List Nat} {n : Nat} (h : js.Nodup) (hb : ∀ j ∈ js, j < n) : js.length ≤ n := by
  have := nd_le (B := List.range n) h (fun x hx => List.mem_range.mpr (hb x hx))
  simpa using this
theorem nd_snocN {js : List Nat} {j : Nat} (h : js.Nodup) (hn : j ∉ js) : (js ++ [j]).Nodup := by
  unfold List.Nodup at *
  rw [List.pairwise_append]
  exact ⟨h, List.pairwise_singleton _ _, fun a ha b hb e => hn (by rw [List.mem_singleton] at hb; rw [← hb, ← e]; exact ha)⟩
theorem all_snocN {js : List Nat} {j n : Nat} (h : ∀ x ∈ js, x < n) (hj : j < n) : ∀ x ∈ js ++ [j], x < n := fun x hx => by
  rcases List.mem_append.mp hx with hx | hx
  · exact h x hx
  · rw [List.mem_singleton] at hx; omega
/-- What is told so far. -/
def outF (ms : List (Int × Int)) (S : List Int) (t : Nat) : List Int := (S.take t).flatMap fun k => [k, entV k ms]
theorem outF_succ {ms : List (Int × Int)} {S : List Int} {t : Nat} (h : t < S.length) : outF ms S t ++ [at_ 0 S (t : Int), entV (at_ 0 S (t : Int)) ms] = outF ms S (t + 1) := by
  unfold outF
  rw [take_at 0 S h, List.flatMap_append]; simp
theorem outF_len (ms : List (Int × Int)) (S : List Int) (t : Nat) : (outF ms S t).length ≤ 2 * t := by
  unfold outF
  have : ∀ l : List Int, (l.flatMap fun k => [k, entV k ms]).length = 2 * l.length := fun l => by
    induction l with
    | nil => rfl
    | cons a l ih => rw [List.flatMap_cons, List.length_append, ih]; simp; omega
  rw [this, List.length_take]; omega
theorem outF_all {ms : List (Int × Int)} {L S : List Int} {N : Nat} (h : CntI L ms) (hS : S = kyL (cntK L) (N + 1)) : outF ms S S.length = csG (cntK L) (N + 1) := by
  unfold outF
  rw [List.take_length]
  exact cyc_out h hS
theorem entV_bnd {L : List Int} {ms : List (Int × Int)} (h : CntI L ms) {k : Int} (k0 : 0 < k) : 0 ≤ entV k ms ∧ entV k ms ≤ L.length := by
  rw [entV_at h k0]
  have := List.count_le_length (a := k) (l := L)
  omega
theorem kyL_len (c : Nat → Int) (m : Nat) : (kyL c m).length ≤ m := by
  unfold kyL
  rw [List.length_map]
  have := List.length_filter_le (fun k => decide (0 < c k)) (List.range m)
  simpa using this
theorem C.spec_CyclesOf {vt : Value} {st rc n : Int} {T : List Int}  {H : Hp} {K : Value → Hp → Prop} (hvt0 : Sl eI H vt T) (k1 : T.length ≤ 9223372036854775807)
    (hk : ∀ u1 H', Own eI H' u1 (selL (smlP st rc T n) (csL st rc T n)) → Nw H u1 → Le H H' → K (.tuple #[u1, (.int .i64 (selI (smlP st rc T n) (posC (cyL (nsL st rc T n))))), (.bool (decide (smlP st rc T n)))]) H') : HT prg I.spec_CyclesOf [(.agg #[(.int .i64 (st)), (.int .i64 (rc)), vt]), (.int .i64 (n))].toArray H K := by
 have lE := Le.refl H
 have hvt := hvt0
 refine R.spec_CyclesOf ?_
 unfold F.spec_CyclesOf
 obtain ⟨nx, hnx⟩ : ∃ x : List Int, x = nsL st rc T n := ⟨_, rfl⟩
 obtain ⟨cy, hcy⟩ : ∃ x : List Int, x = cyL nx := ⟨_, rfl⟩
 have hnl : nx.length = (pwr st n).toNat := by rw [hnx]; exact nsL_len
 have hcl : cy.length = nx.length := by rw [hcy]; exact cyL_len nx
 have hcb : ∀ x ∈ cy, 0 ≤ x ∧ x ≤ (nx.length : Int) := by rw [hcy]; exact cyL_in
 refine nw_i (fun p1 H2 op1 nn3 le4 => ?_)
 replace hvt := hvt.le le4
 replace lE := lE.trans le4
 replace op1 : Cel H2 p1 [(.int .i64 (st)), (.int .i64 (rc)), vt] := op1
 refine C.spec_l03Small op1 hvt (by first | omega | assumption) (fun   H5    le6 => ?_)
 replace op1 := op1.le le6
 replace hvt := hvt.le le6
 replace lE := lE.trans le6
 refine ob_nd (fun hc7 => ?_) (fun hc7 => ?_)
 ·skip
  have hS0 := hc7
  have hpw := sml_pw hS0
  have hx : nxP nx := by rw [hnx]; exact nsL_nx hS0
  refine cnd_f1 ?_
  refine C.spec_l03Steps op1 hvt (by first | omega | assumption) (fun  u10 H8 ou10 nn11  le9 => ?_)
  replace op1 := op1.le le9
  replace hvt := hvt.le le9
  replace lE := lE.trans le9
  rw [← hnx] at ou10
  refine C.spec_l03Cycles ou10.sl (by first | omega | assumption) (by first | omega | assumption) (fun  u14 H12 ou14 nn15  le13 => ?_)
  replace op1 := op1.le le13
  replace ou10 := ou10.le le13
  replace hvt := hvt.le le13
  replace lE := lE.trans le13
  rw [← hcy] at ou14
  refine ob_i (ou14.len) ?_
  refine ob_i (vInt_add (by omega) (by omega)) ?_
  refine Own.mk_ (z := (0 : Int)) (by omega) (by omega) (by omega) (by omega) (fun vk H16 ovk nn17 le18 => ?_)
  have ap1Xvk : Apart p1 vk := op1.apart nn17
  have au10Xvk : Apart u10 vk := ou10.apart nn17
  have au14Xvk : Apart u14 vk := ou14.apart nn17
  have nvk : Nw H vk := nn17.le lE
  replace op1 := op1.le le18
  replace ou10 := ou10.le le18
  replace ou14 := ou14.le le18
  replace hvt := hvt.le le18
  replace lE := lE.trans le18
  refine jn_i (fun σ' H' => σ' 8 = vk ∧ σ' 9 = (.int .i64 (posC cy)) ∧ Cel H' p1 [(.int .i64 (st)), (.int .i64 (rc)), vt] ∧ Own eI H' u10 (nx) ∧ Own eI H' u14 (cy) ∧ Own eI H' vk (cnL cy (cy.length + 1)) ∧ Le H H') (fun σ19 H19 hP => ?_) (fun J19 hJ19 => ?_)
  ·skip
   obtain ⟨g8L19, g9L19, op1, ou10, ou14, ovk, lE⟩ := hP
   have hvt := hvt0.le lE
   try simp only [g8L19]
   refine bS_nil (enc := eI) (fun u20 H21 ou20 nn22 kk23 le24 => ?_)
   have ap1Xu20 : Apart p1 u20 := op1.apart nn22
   have au10Xu20 : Apart u10 u20 := ou10.apart nn22
   have au14Xu20 : Apart u14 u20 := ou14.apart nn22
   have avkXu20 : Apart vk u20 := ovk.apart nn22
   have nu20 : Nw H u20 := nn22.le lE
   replace op1 := op1.le le24
   replace ou10 := ou10.le le24
   replace ou14 := ou14.le le24
   replace ovk := ovk.le le24
   replace hvt := hvt.le le24
   replace lE := lE.trans le24
   refine jn_i (fun σ' H' => ∃ vo, σ' 9 = (.int .i64 (posC cy)) ∧ σ' 11 = vo ∧ Cel H' p1 [(.int .i64 (st)), (.int .i64 (rc)), vt] ∧ Own eI H' u10 (nx) ∧ Own eI H' u14 (cy) ∧ Own eI H' vk (cnL cy (cy.length + 1)) ∧ Own eI H' vo (csG (cntK cy) (nx.length + 1)) ∧ Nw H vo ∧ Apart p1 vo ∧ Apart u10 vo ∧ Apart u14 vo ∧ Apart vk vo ∧ Le H H') (fun σ25 H25 hP => ?_) (fun J25 hJ25 => ?_)
   ·skip
    obtain ⟨vo, g9L25, g11L25, op1, ou10, ou14, ovk, ovo, nvo, ap1Xvo, au10Xvo, au14Xvo, avkXvo, lE⟩ := hP
    try simp only [g9L25, g11L25]
    skip
    have hok : smlP st rc T n := by assumption
    exact keq (K := K) (by rw [show ((selI (smlP st rc T n) (posC (cyL (nsL st rc T n)))) : Int) = (posC cy) from by first | (rw [← hnx, ← hcy]; exact selI_t hok) | (rw [hcy, hnx]; exact selI_t hok) | exact selI_t hok | exact selI_f hok]; rw [decide_eq_true (show (smlP st rc T n) from by exact hok)]) (hk  vo _ (Own.cast (show csG (cntK cy) (nx.length + 1) = selL (smlP st rc T n) (csL st rc T n) by first | (rw [selL_t hok]; unfold csL; rw [← hnx, ← hcy]) | exact (selL_f hok).symm) ovo) nvo  lE)
   refine ob_i (ovk.len) ?_
   refine ⟨fun n' σ' H' => ∃ k : Nat, n' = (cy.length + 1) - k ∧ k ≤ (cy.length + 1) ∧ ∃ vo, σ' 8 = vk ∧ σ' 9 = (.int .i64 (posC cy)) ∧ σ' 11 = vo ∧ σ' 47 = (.int .i64 (((cnL cy (cy.length + 1)).length : Int))) ∧ σ' 48 = (.int .i64 ((k : Int))) ∧ Cel H' p1 [(.int .i64 (st)), (.int .i64 (rc)), vt] ∧ Own eI H' u10 (nx) ∧ Own eI H' u14 (cy) ∧ Own eI H' vk (cnL cy (cy.length + 1)) ∧ Own eI H' vo (csG (cntK cy) k) ∧ Nw H vo ∧ Apart p1 vo ∧ Apart u10 vo ∧ Apart u14 vo ∧ Apart vk vo ∧ Le H H',
    ⟨_, 0, rfl, by omega, u20, g8L19, g9L19, rfl, rfl, (congrArg (Value.int .i64) (by first | omega | rfl | (simp; done))), op1, ou10, ou14, ovk, (Own.cast (by rfl) ou20), nu20, ap1Xu20, au10Xu20, au14Xu20, avkXu20, lE⟩, ?_⟩
   rintro n26 σ26 H26 ⟨k, rfl, hkN, vo, g8L26, g9L26, g11L26, g47L26, g48L26, op1, ou10, ou14, ovk, ovo, nvo, ap1Xvo, au10Xvo, au14Xvo, avkXvo, lE⟩
   have hvt := hvt0.le lE
   try simp only [g8L26, g11L26, g47L26, g48L26]
   have hkl := cnL_len cy (cy.length + 1)
   have hgl := csG_len (c := cntK cy) (m := k)
   refine ob_i (vInt_lss _ _ _) ?_
   refine cnd_d (fun hg27 => ?_) (fun hg27 => ?_)
   ·skip
    have tk := hg27
    have hca := cnL_at (L := cy) (N := cy.length + 1) (k := k) (by omega)
    have hcc := cnt_bnd cy k
    refine ob_i (ovk.sl.ix (by omega) (by omega)) ?_
    refine ob_i (ovk.sl.ld 0 (by omega) (by omega)) ?_
    refine ob_i (vInt_gtr _ _ _) ?_
    refine cnd_d (fun hg28 => ?_) (fun hg28 => ?_)
    ·skip
     refine ob_i (ovk.sl.ix (by omega) (by omega)) ?_
     refine ob_i (ovk.sl.ld 0 (by omega) (by omega)) ?_
     refine bS_i (enc := eI) (l := [(k : Int), at_ 0 (cnL cy (cy.length + 1)) ((k : Int))]) (by omega) rfl (by kernel_rfl) (fun u29 H30 ou29 nn31 le33 => ?_)
     replace op1 := op1.le le33
     replace ou10 := ou10.le le33
     replace ou14 := ou14.le le33
     replace ovk := ovk.le le33
     replace ovo := ovo.le le33
     replace hvt := hvt.le le33
     replace lE := lE.trans le33
     refine apd_any ovo ou29.sl (fun _ => rfl) (by omega) (by first | omega | (simp only [List.length_cons, List.length_nil]; omega)) (fun u37 H34 ou37 off35 hb36 => ?_)
     have ap1Xu37 : Apart p1 u37 := Apart.ap2 op1.known ap1Xvo hb36
     have au10Xu37 : Apart u10 u37 := Apart.ap2 ou10.known au10Xvo hb36
     have au14Xu37 : Apart u14 u37 := Apart.ap2 ou14.known au14Xvo hb36
     have avkXu37 : Apart vk u37 := Apart.ap2 ovk.known avkXvo hb36
     have nu37 : Nw H u37 := Nw.ap2 nvo lE hb36
     replace op1 := op1.off off35 ap1Xvo
     replace ou10 := ou10.off off35 au10Xvo
     replace ou14 := ou14.off off35 au14Xvo
     replace ovk := ovk.off off35 avkXvo
     replace hvt := hvt0.le (off35.le lE nvo)
     replace lE := off35.le lE nvo
     refine ob_i (vInt_add (by omega) (by omega)) ?_
     exact nxt ((cy.length + 1) - (k + 1)) (by omega) ⟨k + 1, rfl, by omega, u37, g8L26, g9L26, rfl, g47L26, (congrArg (Value.int .i64) (by first | omega | rfl | (simp; done))), op1, ou10, ou14, ovk, (Own.cast (by rw [hca]; exact csG_yes (by omega)) ou37), nu37, ap1Xu37, au10Xu37, au14Xu37, avkXu37, lE⟩
    ·skip
     refine ob_i (vInt_add (by omega) (by omega)) ?_
     exact nxt ((cy.length + 1) - (k + 1)) (by omega) ⟨k + 1, rfl, by omega, vo, g8L26, g9L26, g11L26, g47L26, (congrArg (Value.int .i64) (by first | omega | rfl | (simp; done))), op1, ou10, ou14, ovk, (Own.cast (csG_no (by omega)) ovo), nvo, ap1Xvo, au10Xvo, au14Xvo, avkXvo, lE⟩
   ·skip
    have tk := hg27
    rw [show k = nx.length + 1 by omega] at ovo
    exact hJ25 _ _ ⟨vo, g9L26, g11L26, op1, ou10, ou14, ovk, ovo, nvo, ap1Xvo, au10Xvo, au14Xvo, avkXvo, lE⟩
  refine ob_i (ou14.len) ?_
  refine ⟨fun n' σ' H' => ∃ t : Nat, n' = cy.length - t ∧ t ≤ cy.length ∧ σ' 7 = u14 ∧ σ' 8 = vk ∧ σ' 9 = (.int .i64 (posC (cy.take t))) ∧ σ' 24 = (.int .i64 (((cy).length : Int))) ∧ σ' 25 = (.int .i64 ((t : Int))) ∧ Cel H' p1 [(.int .i64 (st)), (.int .i64 (rc)), vt] ∧ Own eI H' u10 (nx) ∧ Own eI H' u14 (cy) ∧ Own eI H' vk (cnL (cy.take t) (cy.length + 1)) ∧ Le H H',
   ⟨_, 0, rfl, by omega, rfl, rfl, rfl, rfl, (congrArg (Value.int .i64) (by first | omega | rfl | (simp; done))), op1, ou10, ou14, (Own.cast (by rw [List.take_zero, ← cnL_nil]; first | (congr 1; done) | (congr 1; omega)) ovk), lE⟩, ?_⟩
  rintro n38 σ38 H38 ⟨t, rfl, htN, g7L38, g8L38, g9L38, g24L38, g25L38, op1, ou10, ou14, ovk, lE⟩
  have hvt := hvt0.le lE
  try simp only [g7L38, g8L38, g9L38, g24L38, g25L38]
  have hpb := posC_bnd (cy.take t)
  rw [List.length_take] at hpb
  have hkl := cnL_len (cy.take t) (cy.length + 1)
  refine ob_i (vInt_lss _ _ _) ?_
  refine cnd_d (fun hg39 => ?_) (fun hg39 => ?_)
  ·skip
   have tt := hg39
   have hcx := hcb _ (at_mem 0 cy (i := (t : Int)) (by omega) (by omega))
   have hca := cnL_at (L := cy.take t) (N := cy.length + 1) (k := (at_ 0 cy (t : Int)).toNat) (by omega)
   rw [Int.toNat_of_nonneg hcx.1] at hca
   have hcc := cnt_bnd (cy.take t) (at_ 0 cy (t : Int)).toNat
   rw [List.length_take] at hcc
   refine ob_i (ou14.sl.ix (by omega) (by omega)) ?_
   refine ob_i (ou14.sl.ld 0 (by omega) (by omega)) ?_
   refine ob_i (vInt_gtr _ _ _) ?_
   refine cnd_d (fun hg40 => ?_) (fun hg40 => ?_)
   ·skip
    refine ob_i (ou14.sl.ix (by omega) (by omega)) ?_
    refine ob_i (ou14.sl.ld 0 (by omega) (by omega)) ?_
    refine ob_i (ovk.sl.ix (by omega) (by omega)) ?_
    refine ob_i (ovk.sl.ld 0 (by omega) (by omega)) ?_
    refine ob_i (vInt_add (by omega) (by omega)) ?_
    refine ob_i (ovk.sl.ix (by omega) (by omega)) ?_
    refine ovk.st (x := (at_ 0 (cnL (cy.take t) (cy.length + 1)) (at_ 0 (cy) ((t : Int)))) + 1) (by omega) (by omega) rfl rfl (fun H41 ovk off42 => ?_)
    replace op1 := op1.off off42 ap1Xvk
    replace ou10 := ou10.off off42 au10Xvk
    replace ou14 := ou14.off off42 au14Xvk
    replace hvt := hvt0.le (off42.le lE nvk)
    replace lE := off42.le lE nvk
    refine ob_i (vInt_add (by omega) (by omega)) ?_
    refine ob_i (vInt_add (by omega) (by omega)) ?_
    have hpt := posC_take (L := cy) (t := t) (by omega)
    rw [if_pos hg40] at hpt
    exact nxt (cy.length - (t + 1)) (by omega) ⟨t + 1, rfl, by omega, g7L38, g8L38, (congrArg (Value.int .i64) (by first | omega | rfl | (simp; done))), g24L38, (congrArg (Value.int .i64) (by first | omega | rfl | (simp; done))), op1, ou10, ou14, (Own.cast (by rw [hca]; exact cnL_set (by omega) (by omega) (by omega)) ovk), lE⟩
   ·skip
    refine ob_i (vInt_add (by omega) (by omega)) ?_
    have hpt := posC_take (L := cy) (t := t) (by omega)
    rw [if_neg hg40] at hpt
    exact nxt (cy.length - (t + 1)) (by omega) ⟨t + 1, rfl, by omega, g7L38, g8L38, (g9L38.trans (congrArg (Value.int .i64) (by first | omega | rfl | (simp; done)))), g24L38, (congrArg (Value.int .i64) (by first | omega | rfl | (simp; done))), op1, ou10, ou14, (Own.cast (cnL_skip (by omega) hg40) ovk), lE⟩
  ·skip
   have tt := hg39
   rw [List.take_of_length_le (by omega)] at *
   exact hJ19 _ _ ⟨g8L38, (g9L38.trans (congrArg (Value.int .i64) (by first | omega | rfl | (simp; done)))), op1, ou10, ou14, ovk, lE⟩
 ·skip
  refine cnd_t1 ?_
  skip
  have hok : ¬ (smlP st rc T n) := by assumption
  exact keq (K := K) (by rw [show ((selI (smlP st rc T n) (posC (cyL (nsL st rc T n)))) : Int) = (0) from by first | (rw [← hnx, ← hcy]; exact selI_t hok) | (rw [hcy, hnx]; exact selI_t hok) | exact selI_t hok | exact selI_f hok]; rw [decide_eq_false (show ¬ (smlP st rc T n) from by exact hok)]) (hk  (.slice none 0 0) _ (Own.cast (show [] = selL (smlP st rc T n) (csL st rc T n) by exact (selL_f hok).symm) (Own.nil_of none)) (fun b hb => by simp [bk] at hb)  lE)
theorem C.impl_CyclesOf {vt : Value} {st rc n : Int} {T : List Int}  {H : Hp} {K : Value → Hp → Prop} (hvt0 : Sl eI H vt T) (k1 : T.length ≤ 9223372036854775807)
    (hk : ∀ u1 H', Own eI H' u1 (selL (smlP st rc T n) (csL st rc T n)) → Nw H u1 → Le H H' → K (.tuple #[u1, (.int .i64 (selI (smlP st rc T n) (posC (cyL (nsL st rc T n))))), (.bool (decide (smlP st rc T n)))]) H') : HT prg I.impl_CyclesOf [(.agg #[(.int .i64 (st)), (.int .i64 (rc)), vt]), (.int .i64 (n))].toArray H K := by
 have lE := Le.refl H
 have hvt := hvt0
 refine R.impl_CyclesOf ?_
 unfold F.impl_CyclesOf
 obtain ⟨nx, hnx⟩ : ∃ x : List Int, x = nsL st rc T n := ⟨_, rfl⟩
 obtain ⟨cy, hcy⟩ : ∃ x : List Int, x = cyL nx := ⟨_, rfl⟩
 have hnl : nx.length = (pwr st n).toNat := by rw [hnx]; exact nsL_len
 have hcl : cy.length = nx.length := by rw [hcy]; exact cyL_len nx
 have hcb : ∀ x ∈ cy, 0 ≤ x ∧ x ≤ (nx.length : Int) := by rw [hcy]; exact cyL_in
 refine nw_i (fun p1 H2 op1 nn3 le4 => ?_)
 replace hvt := hvt.le le4
 replace lE := lE.trans le4
 replace op1 : Cel H2 p1 [(.int .i64 (st)), (.int .i64 (rc)), vt] := op1
 refine ob_i (op1.ldn rfl) ?_
 refine C.impl_small hvt (by first | omega | assumption) (fun   H5    le6 => ?_)
 replace op1 := op1.le le6
 replace hvt := hvt.le le6
 replace lE := lE.trans le6
 refine ob_nd (fun hc7 => ?_) (fun hc7 => ?_)
 ·skip
  have hS0 := hc7
  have hpw := sml_pw hS0
  have hx : nxP nx := by rw [hnx]; exact nsL_nx hS0
  refine cnd_f1 ?_
  refine MpC.new_ (fun mp Smp H8 omp nn9 le10 => ?_)
  have ap1Xmp : Apt p1 Smp := Apt.of_nws op1.known nn9
  have nmp : Nws H Smp := nn9.le lE
  replace op1 := op1.le le10
  replace hvt := hvt.le le10
  replace lE := lE.trans le10
  refine jn_i (fun σ' H' => ∃ M : List (Int × Int), σ' 7 = mp ∧ σ' 8 = (.int .i64 (posC cy)) ∧ Cel H' p1 [(.int .i64 (st)), (.int .i64 (rc)), vt] ∧ MpC H' mp Smp (M) ∧ Le H H' ∧ CntI cy M ∧ M.length ≤ cy.length) (fun σ11 H11 hP => ?_) (fun J11 hJ11 => ?_)
  ·skip
   obtain ⟨M, g7L11, g8L11, op1, omp, lE, hC, hMl⟩ := hP
   have hvt := hvt0.le lE
   try simp only [g7L11]
   refine bS_nil (enc := eI) (fun u12 H13 ou12 nn14 kk15 le16 => ?_)
   have ap1Xu12 : Apart p1 u12 := op1.apart nn14
   have ampXu12 : Apt Smp u12 := Apt.of_nw omp.known nn14
   have nu12 : Nw H u12 := nn14.le lE
   replace op1 := op1.le le16
   replace omp := omp.le le16
   replace hvt := hvt.le le16
   replace lE := lE.trans le16
   refine jn_i (fun σ' H' => ∃ vk, ∃ js : List Nat, σ' 7 = mp ∧ σ' 8 = (.int .i64 (posC cy)) ∧ σ' 11 = vk ∧ Cel H' p1 [(.int .i64 (st)), (.int .i64 (rc)), vt] ∧ MpC H' mp Smp (M) ∧ Own eI H' vk (js.map (fun j => keyN M j)) ∧ Nw H vk ∧ Apart p1 vk ∧ Apt Smp vk ∧ Le H H' ∧ js.Nodup ∧ (∀ j ∈ js, j < M.length) ∧ (∀ j, j < M.length → j ∈ js)) (fun σ17 H17 hP => ?_) (fun J17 hJ17 => ?_)
   ·skip
    obtain ⟨vk, js, g7L17, g8L17, g11L17, op1, omp, ovk, nvk, ap1Xvk, ampXvk, lE, hnd, hjb, hall⟩ := hP
    have hvt := hvt0.le lE
    try simp only [g11L17]
    have hkp : 0 < (js.map (fun j => keyN M j)).length := by rw [List.length_map]; exact keys_pos hx (by omega) (hcy ▸ hC) hall
    have hkl : (js.map (fun j => keyN M j)).length = js.length := by rw [List.length_map]
    have hjn := nd_range hnd hjb
    refine C.slices_Sort_I ovk hkp (by omega) (fun H18 ovk off19 => ?_)
    replace op1 := op1.off off19 ap1Xvk
    replace omp := omp.off off19 ampXvk
    replace hvt := hvt0.le (off19.le lE nvk)
    replace lE := off19.le lE nvk
    have hS := keys_eq (N := nx.length) hC hcb hnd hjb hall rfl (show srtI (js.map (fun j => keyN M j)) = _ from rfl)
    rw [hS] at ovk
    have hyl := kyL_len (cntK cy) (nx.length + 1)
    refine bS_nil (enc := eI) (fun u20 H21 ou20 nn22 kk23 le24 => ?_)
    have ap1Xu20 : Apart p1 u20 := op1.apart nn22
    have ampXu20 : Apt Smp u20 := Apt.of_nw omp.known nn22
    have avkXu20 : Apart vk u20 := ovk.apart nn22
    have nu20 : Nw H u20 := nn22.le lE
    replace op1 := op1.le le24
    replace omp := omp.le le24
    replace ovk := ovk.le le24
    replace hvt := hvt.le le24
    replace lE := lE.trans le24
    refine jn_i (fun σ' H' => ∃ vo, σ' 8 = (.int .i64 (posC cy)) ∧ σ' 13 = vo ∧ Cel H' p1 [(.int .i64 (st)), (.int .i64 (rc)), vt] ∧ MpC H' mp Smp (M) ∧ Own eI H' vk (kyL (cntK cy) (nx.length + 1)) ∧ Own eI H' vo (csG (cntK cy) (nx.length + 1)) ∧ Nw H vo ∧ Apart p1 vo ∧ Apt Smp vo ∧ Apart vk vo ∧ Le H H') (fun σ25 H25 hP => ?_) (fun J25 hJ25 => ?_)
    ·skip
     obtain ⟨vo, g8L25, g13L25, op1, omp, ovk, ovo, nvo, ap1Xvo, ampXvo, avkXvo, lE⟩ := hP
     try simp only [g8L25, g13L25]
     skip
     have hok : smlP st rc T n := by assumption
     exact keq (K := K) (by rw [show ((selI (smlP st rc T n) (posC (cyL (nsL st rc T n)))) : Int) = (posC cy) from by first | (rw [← hnx, ← hcy]; exact selI_t hok) | (rw [hcy, hnx]; exact selI_t hok) | exact selI_t hok | exact selI_f hok]; rw [decide_eq_true (show (smlP st rc T n) from by exact hok)]) (hk  vo _ (Own.cast (show csG (cntK cy) (nx.length + 1) = selL (smlP st rc T n) (csL st rc T n) by first | (rw [selL_t hok]; unfold csL; rw [← hnx, ← hcy]) | exact (selL_f hok).symm) ovo) nvo  lE)
    refine ob_i (ovk.len) ?_
    refine ⟨fun n' σ' H' => ∃ t : Nat, n' = (kyL (cntK cy) (nx.length + 1)).length - t ∧ t ≤ (kyL (cntK cy) (nx.length + 1)).length ∧ ∃ vo, σ' 7 = mp ∧ σ' 8 = (.int .i64 (posC cy)) ∧ σ' 13 = vo ∧ σ' 54 = vk ∧ σ' 55 = (.int .i64 (((kyL (cntK cy) (nx.length + 1)).length : Int))) ∧ σ' 56 = (.int .i64 ((t : Int))) ∧ Cel H' p1 [(.int .i64 (st)), (.int .i64 (rc)), vt] ∧ MpC H' mp Smp (M) ∧ Own eI H' vk (kyL (cntK cy) (nx.length + 1)) ∧ Own eI H' vo (outF M (kyL (cntK cy) (nx.length + 1)) t) ∧ Nw H vo ∧ Apart p1 vo ∧ Apt Smp vo ∧ Apart vk vo ∧ Le H H',
     ⟨_, 0, rfl, by omega, u20, g7L17, g8L17, rfl, rfl, rfl, (congrArg (Value.int .i64) (by first | omega | rfl | (simp; done))), op1, omp, ovk, (Own.cast (by rfl) ou20), nu20, ap1Xu20, ampXu20, avkXu20, lE⟩, ?_⟩
    rintro n26 σ26 H26 ⟨t, rfl, htN, vo, g7L26, g8L26, g13L26, g54L26, g55L26, g56L26, op1, omp, ovk, ovo, nvo, ap1Xvo, ampXvo, avkXvo, lE⟩
    have hvt := hvt0.le lE
    try simp only [g7L26, g13L26, g54L26, g55L26, g56L26]
    have hol := outF_len M (kyL (cntK cy) (nx.length + 1)) t
    refine ob_i (vInt_lss _ _ _) ?_
    refine cnd_d (fun hg27 => ?_) (fun hg27 => ?_)
    ·skip
     have tt := hg27
     refine ob_i (ovk.sl.ix (by omega) (by omega)) ?_
     refine ob_i (ovk.sl.ld 0 (by omega) (by omega)) ?_
     refine MpC.look1 (k := at_ 0 (kyL (cntK cy) (nx.length + 1)) ((t : Int))) omp (by kernel_rfl) ?_
     refine bS_i (enc := eI) (l := [at_ 0 (kyL (cntK cy) (nx.length + 1)) ((t : Int)), entV (at_ 0 (kyL (cntK cy) (nx.length + 1)) ((t : Int))) (M)]) (by omega) rfl (by kernel_rfl) (fun u28 H29 ou28 nn30 le32 => ?_)
     replace op1 := op1.le le32
     replace omp := omp.le le32
     replace ovk := ovk.le le32
     replace ovo := ovo.le le32
     replace hvt := hvt.le le32
     replace lE := lE.trans le32
     refine apd_any ovo ou28.sl (fun _ => rfl) (by omega) (by first | omega | (simp only [List.length_cons, List.length_nil]; omega)) (fun u36 H33 ou36 off34 hb35 => ?_)
     have ap1Xu36 : Apart p1 u36 := Apart.ap2 op1.known ap1Xvo hb35
     have ampXu36 : Apt Smp u36 := Apt.ap2 omp.known ampXvo hb35
     have avkXu36 : Apart vk u36 := Apart.ap2 ovk.known avkXvo hb35
     have nu36 : Nw H u36 := Nw.ap2 nvo lE hb35
     replace op1 := op1.off off34 ap1Xvo
     replace omp := omp.off off34 ampXvo
     replace ovk := ovk.off off34 avkXvo
     replace hvt := hvt0.le (off34.le lE nvo)
     replace lE := off34.le lE nvo
     refine ob_i (vInt_add (by omega) (by omega)) ?_
     exact nxt ((kyL (cntK cy) (nx.length + 1)).length - (t + 1)) (by omega) ⟨t + 1, rfl, by omega, u36, g7L26, g8L26, rfl, g54L26, g55L26, (congrArg (Value.int .i64) (by first | omega | rfl | (simp; done))), op1, omp, ovk, (Own.cast (outF_succ (by omega)) ou36), nu36, ap1Xu36, ampXu36, avkXu36, lE⟩
    ·skip
     have tt := hg27
     rw [show t = (kyL (cntK cy) (nx.length + 1)).length by omega, outF_all hC rfl] at ovo
     exact hJ25 _ _ ⟨vo, g8L26, g13L26, op1, omp, ovk, ovo, nvo, ap1Xvo, ampXvo, avkXvo, lE⟩
   refine ItC.new_ omp (by kernel_rfl) (fun it H37 oit nn38 le39 => ?_)
   have ap1Xit : Apart p1 it := op1.apart nn38
   have ampXit : Apt Smp it := Apt.of_nw omp.known nn38
   have au12Xit : Apart u12 it := ou12.apart nn38
   have nit : Nw H it := nn38.le lE
   replace op1 := op1.le le39
   replace omp := omp.le le39
   replace ou12 := ou12.le le39
   replace hvt := hvt.le le39
   replace lE := lE.trans le39
   refine ⟨fun n' σ' H' => ∃ q : Nat, n' = M.length - q ∧ q ≤ M.length ∧ ∃ vk, ∃ js : List Nat, σ' 7 = mp ∧ σ' 8 = (.int .i64 (posC cy)) ∧ σ' 11 = vk ∧ σ' 42 = it ∧ Cel H' p1 [(.int .i64 (st)), (.int .i64 (rc)), vt] ∧ MpC H' mp Smp (M) ∧ ItC H' it mp (M).length (js) ∧ Own eI H' vk (js.map (fun j => keyN M j)) ∧ Nw H vk ∧ Apart p1 vk ∧ Apt Smp vk ∧ Apart it vk ∧ Le H H' ∧ js.Nodup ∧ (∀ j ∈ js, j < M.length) ∧ js.length = q,
    ⟨_, 0, rfl, by omega, u12, [], g7L11, g8L11, rfl, rfl, op1, omp, oit, (Own.cast (by rfl) ou12), nu12, ap1Xu12, ampXu12, au12Xit.symm, lE, List.Pairwise.nil, (by simp), rfl⟩, ?_⟩
   rintro n40 σ40 H40 ⟨q, rfl, hqN, vk, js, g7L40, g8L40, g11L40, g42L40, op1, omp, oit, ovk, nvk, ap1Xvk, ampXvk, aitXvk, lE, hnd, hjb, hjl⟩
   have hvt := hvt0.le lE
   try simp only [g11L40, g42L40]
   have hkl : (js.map (fun j => keyN M j)).length = js.length := by rw [List.length_map]
   refine ItC.next oit omp (fun j41 hj42 H43 hn44 oit off45 => ?_) (fun hall46 => ?_)
   ·skip
    replace op1 := op1.off off45 ap1Xit
    replace omp := omp.off off45 ampXit
    replace ovk := ovk.off off45 aitXvk.symm
    replace hvt := hvt0.le (off45.le lE nit)
    replace lE := off45.le lE nit
    refine ob_i (vExt_30 _ _ _) ?_
    refine cnd_t1 ?_
    refine ItC.entry oit omp hj42 ?_
    refine ob_i (vExt_20 _ _) ?_
    refine bS_i (enc := eI) (l := [keyN (M) j41]) (by omega) rfl (by kernel_rfl) (fun u47 H48 ou47 nn49 le51 => ?_)
    replace op1 := op1.le le51
    replace omp := omp.le le51
    replace oit := oit.le le51
    replace ovk := ovk.le le51
    replace hvt := hvt.le le51
    replace lE := lE.trans le51
    refine apd_any ovk ou47.sl (fun _ => rfl) (by omega) (by first | omega | (simp only [List.length_cons, List.length_nil, List.length_map]; omega)) (fun u55 H52 ou55 off53 hb54 => ?_)
    have ap1Xu55 : Apart p1 u55 := Apart.ap2 op1.known ap1Xvk hb54
    have ampXu55 : Apt Smp u55 := Apt.ap2 omp.known ampXvk hb54
    have aitXu55 : Apart it u55 := Apart.ap2 oit.known aitXvk hb54
    have nu55 : Nw H u55 := Nw.ap2 nvk lE hb54
    replace op1 := op1.off off53 ap1Xvk
    replace omp := omp.off off53 ampXvk
    replace oit := oit.off off53 aitXvk
    replace hvt := hvt0.le (off53.le lE nvk)
    replace lE := off53.le lE nvk
    have hnd' := nd_snocN hnd hn44
    have hjb' := all_snocN hjb hj42
    have hjl' : (js ++ [j41]).length = q + 1 := by rw [List.length_append, hjl]; rfl
    have hjr := nd_range hnd' hjb'
    exact nxt (M.length - (q + 1)) (by omega) ⟨q + 1, rfl, by omega, u55, (js ++ [j41]), g7L40, g8L40, rfl, g42L40, op1, omp, oit, (Own.cast (by simp) ou55), nu55, ap1Xu55, ampXu55, aitXu55, lE, hnd', hjb', hjl'⟩
   ·skip
    refine ob_i (vExt_10 _) ?_
    refine cnd_f1 ?_
    exact hJ17 _ _ ⟨vk, js, g7L40, g8L40, g11L40, op1, omp, ovk, nvk, ap1Xvk, ampXvk, lE, hnd, hjb, hall46⟩
  refine ob_i (op1.ldn rfl) ?_
  refine ob_i (op1.ldn rfl) ?_
  refine C.impl_Rule_steps hvt (by first | omega | assumption) (fun  u58 H56 ou58 nn59  le57 => ?_)
  have ampXu58 : Apt Smp u58 := Apt.of_nw omp.known nn59
  replace op1 := op1.le le57
  replace omp := omp.le le57
  replace hvt := hvt.le le57
  replace lE := lE.trans le57
  refine ⟨le57, ?_⟩
  rw [← hnx] at ou58
  refine C.impl_Rule_inCycles hvt ou58.sl (by first | omega | assumption) (by first | omega | assumption) (fun  u62 H60 ou62 nn63  le61 => ?_)
  have ampXu62 : Apt Smp u62 := Apt.of_nw omp.known nn63
  replace op1 := op1.le le61
  replace omp := omp.le le61
  replace ou58 := ou58.le le61
  replace hvt := hvt.le le61
  replace lE := lE.trans le61
  refine ⟨le61, ?_⟩
  rw [← hcy] at ou62
  refine ob_i (ou62.len) ?_
  refine ⟨fun n' σ' H' => ∃ t : Nat, n' = cy.length - t ∧ t ≤ cy.length ∧ ∃ M : List (Int × Int), σ' 7 = mp ∧ σ' 8 = (.int .i64 (posC (cy.take t))) ∧ σ' 25 = u62 ∧ σ' 26 = (.int .i64 (((cy).length : Int))) ∧ σ' 27 = (.int .i64 ((t : Int))) ∧ Cel H' p1 [(.int .i64 (st)), (.int .i64 (rc)), vt] ∧ MpC H' mp Smp (M) ∧ Own eI H' u58 (nx) ∧ Own eI H' u62 (cy) ∧ Le H H' ∧ CntI (cy.take t) M ∧ M.length ≤ t,
   ⟨_, 0, rfl, by omega, [], rfl, rfl, rfl, rfl, (congrArg (Value.int .i64) (by first | omega | rfl | (simp; done))), op1, omp, ou58, ou62, lE, CntI.nil, (by simp)⟩, ?_⟩
  rintro n64 σ64 H64 ⟨t, rfl, htN, M, g7L64, g8L64, g25L64, g26L64, g27L64, op1, omp, ou58, ou62, lE, hC, hMl⟩
  have hvt := hvt0.le lE
  try simp only [g7L64, g8L64, g25L64, g26L64, g27L64]
  have hpb := posC_bnd (cy.take t)
  rw [List.length_take] at hpb
  refine ob_i (vInt_lss _ _ _) ?_
  refine cnd_d (fun hg65 => ?_) (fun hg65 => ?_)
  ·skip
   have tt := hg65
   have hcx := hcb _ (at_mem 0 cy (i := (t : Int)) (by omega) (by omega))
   refine ob_i (ou62.sl.ix (by omega) (by omega)) ?_
   refine ob_i (ou62.sl.ld 0 (by omega) (by omega)) ?_
   refine ob_i (vInt_gtr _ _ _) ?_
   refine cnd_d (fun hg66 => ?_) (fun hg66 => ?_)
   ·skip
    have hev := entV_bnd hC hg66
    rw [List.length_take] at hev
    refine MpC.look1 (k := at_ 0 (cy) ((t : Int))) omp (by kernel_rfl) ?_
    refine ob_i (vInt_add (by omega) (by omega)) ?_
    refine MpC.upd (k := at_ 0 (cy) ((t : Int))) (x := (entV (at_ 0 (cy) ((t : Int))) (M)) + 1) omp (by kernel_rfl) (fun H67 omp off68 => ?_)
    replace op1 := op1.offS off68 ap1Xmp
    replace ou58 := ou58.offS off68 ampXu58.symm
    replace ou62 := ou62.offS off68 ampXu62.symm
    replace hvt := hvt0.le (off68.le lE nmp)
    replace lE := off68.le lE nmp
    refine ob_i (vInt_add (by omega) (by omega)) ?_
    refine ob_i (vInt_add (by omega) (by omega)) ?_
    have hpt := posC_take (L := cy) (t := t) (by omega)
    rw [if_pos hg66] at hpt
    exact nxt (cy.length - (t + 1)) (by omega) ⟨t + 1, rfl, by omega, (updK (at_ 0 (cy) ((t : Int))) ((entV (at_ 0 (cy) ((t : Int))) (M)) + 1) (M)), g7L64, (congrArg (Value.int .i64) (by first | omega | rfl | (simp; done))), g25L64, g26L64, (congrArg (Value.int .i64) (by first | omega | rfl | (simp; done))), op1, omp, ou58, ou62, lE, (hC.take (by omega) hg66), (by have := updK_len (at_ 0 cy (t : Int)) (entV (at_ 0 cy (t : Int)) M + 1) M; omega)⟩
   ·skip
    refine ob_i (vInt_add (by omega) (by omega)) ?_
    have hpt := posC_take (L := cy) (t := t) (by omega)
    rw [if_neg hg66] at hpt
    exact nxt (cy.length - (t + 1)) (by omega) ⟨t + 1, rfl, by omega, (M), g7L64, (g8L64.trans (congrArg (Value.int .i64) (by first | omega | rfl | (simp; done)))), g25L64, g26L64, (congrArg (Value.int .i64) (by first | omega | rfl | (simp; done))), op1, omp, ou58, ou62, lE, (hC.pass (by omega) hg66), (by omega)⟩
  ·skip
   have tt := hg65
   rw [List.take_of_length_le (by omega)] at *
   exact hJ11 _ _ ⟨M, g7L64, (g8L64.trans (congrArg (Value.int .i64) (by first | omega | rfl | (simp; done)))), op1, omp, lE, hC, (by omega)⟩
 ·skip
  refine cnd_t1 ?_
  skip
  have hok : ¬ (smlP st rc T n) := by assumption
  exact keq (K := K) (by rw [show ((selI (smlP st rc T n) (posC (cyL (nsL st rc T n)))) : Int) = (0) from by first | (rw [← hnx, ← hcy]; exact selI_t hok) | (rw [hcy, hnx]; exact selI_t hok) | exact selI_t hok | exact selI_f hok]; rw [decide_eq_false (show ¬ (smlP st rc T n) from by exact hok)]) (hk  (.slice none 0 0) _ (Own.cast (show [] = selL (smlP st rc T n) (csL st rc T n) by exact (selL_f hok).symm) (Own.nil_of none)) (fun b hb => by simp [bk] at hb)  lE)
end Go.Proofs.Ythmdmbbdjbhcoaa
/- Rules that add: sums of weights, products of rings. -/
namespace Go.Proofs.Ythmdmbbdjbhcoaa
open HL
set_option maxRecDepth 100000
/-- A sum of the first values. -/
def sumZ (f : Nat → Int) : Nat → Int
  | 0 => 0
  | n + 1 => sumZ f n + f n
/-- The sum of weights of a neighbourhood's cells. -/
def wgS (w : List Int) (cells : List Int) : Int := sumZ (fun i => at_ 0 w (i : Int) * at_ 0 cells (i : Int)) w.length
/-- The table of weights. -/
def wgF (st : Int) (w : List Int) (n : Nat) : List Int := (List.range n).map fun (h : Nat) => wgS w (digL h st w.length) % st
def wgL (st : Int) (w : List Int) : List Int := wgF st w (pwr st w.length).toNat
/-- The terms of a rule: what the neighbourhoods with a single 1 lead to. -/
def tmF (st rc : Int) (T : List Int) (n : Nat) : List Int := (List.range n).map fun (j : Nat) => at_ 0 T (pwr st (2 * rc - (j : Int)))
def tmL (st rc : Int) (T : List Int) : List Int := tmF st rc T (2 * rc + 1).toNat
/-- A rule that adds. -/
def addP (st rc : Int) (T : List Int) : Prop := T = wgL st (tmL st rc T)
instance (st rc : Int) (T : List Int) : Decidable (addP st rc T) := by unfold addP; infer_instance
/-- The digits of the number with digits. -/
theorem numA_split (b : Int) : ∀ (l : List Int) (a : Int), l.foldl (fun a d => a * b + d) a = a * b ^ l.length + numL b l
  | [], a => by simp [numL]
  | x :: l, a => by
    rw [List.foldl_cons, numA_split b l (a * b + x), List.length_cons, Int.pow_succ]
    unfold numL
    rw [List.foldl_cons, numA_split b l (0 * b + x), Int.zero_mul, Int.zero_add, Int.add_mul, Int.mul_assoc a b, Int.mul_comm b (b ^ l.length)]
    unfold numL; omega
theorem numL_cons (b : Int) (x : Int) (l : List Int) : numL b (x :: l) = x * b ^ l.length + numL b l := by
  show List.foldl _ (0 * b + x) l = _
  rw [numA_split, Int.zero_mul, Int.zero_add]
theorem digL_cons {n b x : Int} {k : Nat} (hb : 1 ≤ b) (x0 : 0 ≤ x) (x1 : x ≤ b - 1) (n0 : 0 ≤ n) (n1 : n < b ^ k) : digL (x * b ^ k + n) b (k + 1) = x :: digL n b k := by
  have hp : 0 < b ^ k := Int.pow_pos (by omega)
  apply List.ext_getElem
  · simp [digL]
  · intro j h1 h2
    simp only [digL_len] at h1
    cases j with
    | zero =>
      simp only [digL, List.getElem_map, List.getElem_range, List.getElem_cons_zero]
      rw [show k + 1 - 1 - 0 = k by omega, Int.add_comm, Int.add_mul_ediv_right _ _ (by omega), Int.ediv_eq_zero_of_lt n0 n1, Int.zero_add, Int.emod_eq_of_lt x0 (by omega)]
    | succ j =>
      simp only [digL, List.getElem_map, List.getElem_range, List.getElem_cons_succ]
      rw [show k + 1 - 1 - (j + 1) = k - 1 - j by omega]
      obtain ⟨m, hm⟩ : ∃ m, k = k - 1 - j + 1 + m := ⟨j, by omega⟩
      have e : b ^ k = b ^ (k - 1 - j) * (b * b ^ m) := by
        conv => lhs; rw [hm]
        rw [Int.pow_add, Int.pow_succ, Int.mul_assoc]
      have hq : 0 < b ^ (k - 1 - j) := Int.pow_pos (by omega)
      rw [e, show x * (b ^ (k - 1 - j) * (b * b ^ m)) + n = n + b ^ (k - 1 - j) * (b * (x * b ^ m)) by
        rw [Int.add_comm]; congr 1
        rw [Int.mul_left_comm, Int.mul_left_comm x b]]
      rw [Int.add_mul_ediv_left _ _ (by omega), Int.add_mul_emod_self_left]
theorem digL_numL {b : Int} (hb : 1 ≤ b) : ∀ {l : List Int}, (∀ x ∈ l, 0 ≤ x ∧ x ≤ b - 1) → digL (numL b l) b l.length = l
  | [], _ => rfl
  | x :: l, h => by
    have hx := h x (by simp)
    have hl := numL_bnd hb (l := l) (fun y hy => h y (by simp [hy]))
    rw [numL_cons, List.length_cons, digL_cons hb hx.1 hx.2 hl.1 hl.2, digL_numL hb (fun y hy => h y (by simp [hy]))]
section
variable {st : Int} {l b : List Int} {m : Int}
end
/-- Going far ahead. -/
def farP (st rc : Int) (T l : List Int) (m : Int) : Prop := ruleP st rc T ∧ ringP st l ∧ 2 * rc + 1 ≤ (l.length : Int) ∧ addP st rc T ∧ 0 ≤ m ∧ m ≤ 1000000000000
instance (st rc : Int) (T l : List Int) (m : Int) : Decidable (farP st rc T l m) := by unfold farP; infer_instance
end Go.Proofs.Ythmdmbbdjbhcoaa
/- Bytes in slices. -/
namespace Go.Proofs.Ythmdmbbdjbhcoaa.HL
abbrev eU : Int → Value := .int .u8
/-- Numbers that are bytes. -/
def bytP (l : List Int) : Prop := ∀ x ∈ l, 0 ≤ x ∧ x ≤ 255
end Go.Proofs.Ythmdmbbdjbhcoaa.HL
