/- Several texts in one. -/
import Derived.Test.YthmdmbbdjbhcoaaHI
import Derived.Test.YthmdmbbdjbhcoaaG0
set_option linter.unusedVariables false
/- Slices over a partial heap: what is read, what is owned, and what stays when something else is written. -/
namespace Go.Proofs.Ythmdmbbdjbhcoaa.HL
abbrev eI : Int → Value := .int .i64
/-- The pointer to a slice's cell, where its elements have one cell each. -/
def ptr (v : Value) (i : Int) : Value := match v with | .slice (some a) _ _ => .pointer (some (a.add (i.toNat * 1))) | _ => undef
/-- The block that a slice or a pointer may write. -/
def bk (v : Value) : Option Nat := match v with | .slice (some a) _ c => if c = 0 then none else some a.block | .pointer (some a) => some a.block | _ => none
/-- The element at an index. -/
def at_ {α : Type} (d : α) (l : List α) (i : Int) : α := l.getD i.toNat d

/-- A slice that reads so. -/
def Sl {α : Type} (enc : α → Value) (H : Hp) (v : Value) (l : List α) : Prop :=
  ∃ a c, v = .slice a l.length c ∧ l.length ≤ c ∧ ∀ i (h : i < l.length), ∃ ad, a = some ad ∧ H.cell? (ad.add i) = some (enc l[i])
/-- A slice whose block is known whole, and may be written. -/
def Own {α : Type} (enc : α → Value) (H : Hp) (v : Value) (l : List α) : Prop :=
  ∃ a c, v = .slice a l.length c ∧ l.length ≤ c ∧ (0 < c → ∃ b off cs e, a = some ⟨b, off, none⟩ ∧ H b = some (.cells cs e (0, 0)) ∧ off + c ≤ cs.size ∧ ∀ i (h : i < l.length), cs[off + i]? = some (enc l[i]))
/-- A slice whose block is not known in a heap. -/
def Nw (H : Hp) (v : Value) : Prop := ∀ b, bk v = some b → H b = none
def Apart (u v : Value) : Prop := ∀ b, bk u = some b → bk v ≠ some b
/-- All that is known stays, but for a slice's block. -/
def Off (v : Value) (H H' : Hp) : Prop := ∀ b o, H b = some o → bk v ≠ some b → H' b = some o

theorem add_none (b off i : Nat) : (⟨b, off, none⟩ : Addr).add i = ⟨b, off + i, none⟩ := by
  unfold Addr.add
  split
  · rename_i h; subst h; rfl
  · rfl
theorem Apart.symm {u v : Value} (h : Apart u v) : Apart v u := fun b hb hu => h b hu hb
theorem Nw.le {H H' : Hp} {v : Value} (h : Nw H' v) (hl : Le H H') : Nw H v := fun b hb => by
  cases ho : H b with
  | none => rfl
  | some o => have := hl b o ho; rw [h b hb] at this; exact absurd this (by simp)
theorem Off.le {H0 H H' : Hp} {v : Value} (h : Off v H H') (hl : Le H0 H) (hn : Nw H0 v) : Le H0 H' := fun b o hb =>
  h b o (hl b o hb) (fun e => by rw [hn b e] at hb; exact absurd hb (by simp))
theorem Off.of_le {H H' : Hp} {v : Value} (h : Le H H') : Off v H H' := fun b o hb _ => h b o hb
theorem Off.trans {A B C : Hp} {v : Value} (h : Off v A B) (h' : Off v B C) : Off v A C := fun b o hb hv => h' b o (h b o hb hv) hv

section
variable {α : Type} {enc : α → Value} {H H' : Hp} {u v : Value} {l : List α}
theorem Sl.le (h : Sl enc H v l) (hl : Le H H') : Sl enc H' v l := by
  obtain ⟨a, c, rfl, hc, hr⟩ := h
  exact ⟨a, c, rfl, hc, fun i hi => by obtain ⟨ad, e, hh⟩ := hr i hi; exact ⟨ad, e, hl.cell hh⟩⟩
theorem Sl.len (h : Sl enc H v l) : vLenSl v = some (.int .i64 l.length) := by
  obtain ⟨a, c, rfl, hc, hr⟩ := h; rfl
theorem Sl.ix (h : Sl enc H v l) {k : IntKind} {i : Int} (h0 : 0 ≤ i) (h1 : i < l.length) : vIx 1 v (.int k i) = some (ptr v i) := by
  obtain ⟨a, c, rfl, hc, hr⟩ := h
  obtain ⟨ad, rfl, hh⟩ := hr i.toNat (by omega)
  simp only [vIx, ptr]
  rw [if_pos ⟨h0, by simpa using h1⟩]
theorem Sl.ld (h : Sl enc H v l) (d : α) {i : Int} (h0 : 0 ≤ i) (h1 : i < l.length) : vLoad (ptr v i) H = some (enc (at_ d l i)) := by
  obtain ⟨a, c, rfl, hc, hr⟩ := h
  have hi : i.toNat < l.length := by omega
  obtain ⟨ad, rfl, hh⟩ := hr i.toNat hi
  simp only [vLoad, ptr, Nat.mul_one, hh, at_, List.getD_eq_getElem?_getD, List.getElem?_eq_getElem hi, Option.getD_some]
theorem Sl.nil (c : Nat) (a : Option Addr) : Sl enc H (.slice a 0 c) [] := ⟨a, c, rfl, by simp, fun i hi => absurd hi (by simp)⟩

theorem Own.len (h : Own enc H v l) : vLenSl v = some (.int .i64 l.length) := by
  obtain ⟨a, c, rfl, hc, hr⟩ := h; rfl
theorem Own.sl (h : Own enc H v l) : Sl enc H v l := by
  obtain ⟨a, c, rfl, hc, hr⟩ := h
  refine ⟨a, c, rfl, hc, fun i hi => ?_⟩
  obtain ⟨b, off, cs, e, rfl, hb, hs, hcs⟩ := hr (by omega)
  exact ⟨_, rfl, by simp only [Hp.cell?, add_none, hb, hcs i hi]; rfl⟩
theorem Own.off (h : Own enc H u l) (ho : Off v H H') (ha : Apart u v) : Own enc H' u l := by
  obtain ⟨a, c, rfl, hc, hr⟩ := h
  refine ⟨a, c, rfl, hc, fun h0 => ?_⟩
  obtain ⟨b, off, cs, e, rfl, hb, hs, hcs⟩ := hr h0
  refine ⟨b, off, cs, e, rfl, ho b _ hb (ha b ?_), hs, hcs⟩
  simp only [bk]
  rw [if_neg (by omega)]
theorem Own.le (h : Own enc H u l) (hl : Le H H') : Own enc H' u l := by
  obtain ⟨a, c, rfl, hc, hr⟩ := h
  refine ⟨a, c, rfl, hc, fun h0 => ?_⟩
  obtain ⟨b, off, cs, e, rfl, hb, hs, hcs⟩ := hr h0
  exact ⟨b, off, cs, e, rfl, hl b _ hb, hs, hcs⟩
theorem Own.known (h : Own enc H u l) : ∀ b, bk u = some b → ∃ o, H b = some o := by
  obtain ⟨a, c, rfl, hc, hr⟩ := h
  intro b hb
  cases a with
  | none => simp [bk] at hb
  | some ad =>
    simp only [bk] at hb
    by_cases h0 : c = 0
    · rw [if_pos h0] at hb; simp at hb
    · rw [if_neg h0] at hb
      obtain ⟨b', off, cs, e, he, hbb, _⟩ := hr (by omega)
      simp only [Option.some.injEq] at hb he
      subst he
      simp only at hb
      subst hb
      exact ⟨_, hbb⟩
theorem Own.apart (h : Own enc H u l) (hn : Nw H v) : Apart u v := fun b hb hv => by
  obtain ⟨o, ho⟩ := h.known b hb
  rw [hn b hv] at ho
  exact absurd ho (by simp)
theorem Apart.of_nw {H : Hp} {u v : Value} (hu : ∀ b, bk u = some b → ∃ o, H b = some o) (hn : Nw H v) : Apart u v := fun b hb hv => by
  obtain ⟨o, ho⟩ := hu b hb
  rw [hn b hv] at ho
  exact absurd ho (by simp)
theorem Own.nil_of (a : Option Addr) : Own enc H (.slice a 0 0) [] := ⟨a, 0, rfl, by simp, fun h0 => absurd h0 (by simp)⟩

/-- A write of one cell. -/
theorem Own.st (h : Own enc H v l) {x : α} {K : Hp → Prop} {i : Int} (h0 : 0 ≤ i) (h1 : i < l.length) (hx : oneCell (enc x) = true) (hz : (enc x).cells = #[enc x])
    (hk : ∀ H', Own enc H' v (l.set i.toNat x) → Off v H H' → K H') : st 1 (ptr v i) (enc x) H K := by
  obtain ⟨a, c, rfl, hc, hr⟩ := h
  obtain ⟨b, off, cs, e, rfl, hb, hs, hcs⟩ := hr (by omega)
  have hi : i.toNat < l.length := by omega
  simp only [HL.st, ptr, hz, List.toList_toArray, Nat.mul_one, List.size_toArray, List.length_singleton, true_and, stC]
  refine ⟨hx, ?_, ?_, ?_⟩
  · simp only [Hp.cell?, add_none, hb, hcs _ hi, Nat.add_zero]; rfl
  · simp only [Hp.frozen?, add_none, hb]; simp
  · refine hk _ ⟨_, c, by simp, by simpa using hc, fun _ => ⟨b, off, cs.setIfInBounds (off + i.toNat) (enc x), e, rfl, ?_, by simpa using hs, ?_⟩⟩ ?_
    · simp only [Hp.setCell, add_none, hb, Nat.add_zero, Hp.put_same]; rfl
    · intro j hj
      have hj' : j < l.length := by simpa using hj
      rw [Array.getElem?_setIfInBounds]
      by_cases e1 : off + i.toNat = off + j
      · have : i.toNat = j := by omega
        subst this
        rw [if_pos rfl, if_pos (by omega)]; simp
      · have : i.toNat ≠ j := by omega
        rw [if_neg e1, hcs j hj', List.getElem_set_ne this]
    · intro x' o ho hv
      simp only [bk, if_neg (by omega : ¬ c = 0)] at hv
      simp only [Hp.setCell, add_none, hb]
      rw [Hp.put_ne _ _ (by rintro rfl; exact hv rfl)]
      exact ho

theorem zrow_get (z : Value) (n i : Nat) (h : i < n) : (zrow #[z] n)[i]? = some z := by
  simp only [zrow, List.size_toArray, List.length_singleton, Nat.mod_one]
  simp [h]
theorem zrow_size (zs : Array Value) (n : Nat) : (zrow zs n).size = n := by simp [zrow]

/-- A new row. -/
theorem Own.mk_ {bytes : Nat} {z : α} {e : TypeId} {k k' : IntKind} {n c : Int} {K : Value → Hp → Prop} (h0 : 0 ≤ n) (h1 : n ≤ c) (h2 : c ≤ 281474976710656) (h3 : bytes * c ≤ 281474976710656)
    (hk : ∀ v H', Own enc H' v (List.replicate n.toNat z) → Nw H v → Le H H' → K v H') : mkS 1 bytes #[enc z] e (.int k n) (.int k' c) H K := by
  refine ⟨h0, h1, h2, h3, fun r hr => hk _ _ ⟨some ⟨r, 0, none⟩, c.toNat, by simp, by simp; omega, fun h4 => ⟨r, 0, _, e, rfl, Hp.put_same _ _ _, ?_, ?_⟩⟩ ?_ (Le.put _ hr)⟩
  · rw [Nat.mul_one, if_neg (by omega), zrow_size]; omega
  · intro i hi
    have : i < n.toNat := by simpa using hi
    rw [Nat.mul_one, if_neg (by omega), Nat.zero_add, zrow_get _ _ _ (by omega)]; simp
  · intro b hb
    simp only [bk] at hb
    split at hb
    · simp at hb
    · simp only [Option.some.injEq] at hb; subst hb; exact hr

theorem rd_cells (ad : Addr) : ∀ (n s : Nat) (l : List α), l.length = n → (∀ i (h : i < l.length), H.cell? (ad.add (s + i)) = some (enc l[i])) → rdCells H ad s n = some (l.map enc)
  | 0, s, l, hn, _ => by have : l = [] := List.length_eq_zero_iff.mp hn; subst this; rfl
  | n + 1, s, l, hn, h => by
    cases l with
    | nil => simp at hn
    | cons x r =>
      simp only [rdCells]
      have h0 := h 0 (by simp)
      simp only [Nat.add_zero, List.getElem_cons_zero] at h0
      rw [h0, rd_cells ad n (s + 1) r (by simpa using hn) (fun i hi => by
        have := h (i + 1) (by simpa using hi)
        rw [show s + 1 + i = s + (i + 1) by omega]
        simpa using this)]
      rfl
theorem Sl.firstC (h : Sl enc H v l) : firstC H 1 l.length v = some (l.map enc) := by
  obtain ⟨a, c, rfl, hc, hr⟩ := h
  cases l with
  | nil => cases a <;> rfl
  | cons x r =>
    obtain ⟨ad, rfl, _⟩ := hr 0 (by simp)
    simp only [HL.firstC, Nat.mul_one]
    exact rd_cells ad _ 0 _ rfl (fun i hi => by obtain ⟨ad', e, hh⟩ := hr i hi; cases e; simpa using hh)
theorem Sl.lenO (h : Sl enc H v l) : lenO v = some l.length := by
  obtain ⟨a, c, rfl, hc, hr⟩ := h; rfl

theorem stC_run {K : Hp → Prop} {b : Nat} {e : TypeId} : ∀ (m : List Value) (ad : Addr) (i : Nat) (cs : Array Value) (H : Hp), ad.block = b → ad.spot = none → H b = some (.cells cs e (0, 0)) → ad.off + i + m.length ≤ cs.size →
    (∀ x ∈ m, oneCell x = true) →
    (∀ H' cs', H' b = some (.cells cs' e (0, 0)) → cs'.size = cs.size → (∀ j, j < ad.off + i → cs'[j]? = cs[j]?) → (∀ j (h : j < m.length), cs'[ad.off + i + j]? = some m[j]) → (∀ x, x ≠ b → H' x = H x) → K H') → stC ad K m i H
  | [], ad, i, cs, H, hb, hsp, hH, hs, ho, hk => hk H cs hH rfl (fun _ _ => rfl) (fun j h => absurd h (by simp)) (fun _ _ => rfl)
  | x :: m, ad, i, cs, H, hb, hsp, hH, hs, ho, hk => by
    obtain ⟨abk, aoff, asp⟩ := ad
    simp only at hb hsp hs hk
    subst hb hsp
    simp only [List.length_cons] at hs
    refine ⟨ho x (by simp), ?_, ?_, ?_⟩
    · simp only [Hp.cell?, add_none, hH]
      rw [Array.getElem?_eq_getElem (by omega)]; rfl
    · simp only [Hp.frozen?, add_none, hH]; simp
    · refine stC_run (b := abk) (e := e) m _ (i + 1) (cs.setIfInBounds (aoff + i) x) _ rfl rfl ?_ (by simp; omega) (fun y hy => ho y (by simp [hy])) ?_
      · simp only [Hp.setCell, add_none, hH, Hp.put_same]; rfl
      · intro H' cs' h1 h2 h3 h4 h5
        refine hk H' cs' h1 (by simpa using h2) ?_ ?_ ?_
        · intro j hj
          rw [h3 j (by simp only; omega), Array.getElem?_setIfInBounds_ne (by omega)]
        · intro j hj
          cases j with
          | zero =>
            rw [Nat.add_zero, h3 _ (by simp only; omega), Array.getElem?_setIfInBounds_self_of_lt (by omega)]; rfl
          | succ j =>
            have := h4 j (by simpa using hj)
            simp only at this
            rw [show aoff + i + (j + 1) = aoff + (i + 1) + j by omega, this]; rfl
        · intro x' hx'
          rw [h5 x' hx']
          simp only [Hp.setCell, add_none, hH]
          rw [Hp.put_ne _ _ hx']

/-- An append. -/
theorem Own.apd {bytes : Nat} {z : Value} {e : TypeId} {w : Value} {m : List α} {K : Value → Hp → Prop} (h : Own enc H v l) (hm : Sl enc H w m) (ho : ∀ x, oneCell (enc x) = true)
    (hb : l.length + m.length < 9223372036854775808) (hc : ∀ c, l.length + m.length > c → Builtin.nextslicecap (l.length + m.length) c * bytes ≤ 281474976710656)
    (hk : ∀ v' H', Own enc H' v' (l ++ m) → Off v H H' → (∀ b, bk v' = some b → bk v = some b ∨ H b = none) → K v' H') : apd 1 bytes #[z] e v w H K := by
  have hmf := hm.firstC
  have hml := hm.lenO
  have hlf := h.sl.firstC
  obtain ⟨a, c, rfl, hlc, hr⟩ := h
  simp only [HL.apd, hml]
  by_cases hcap : l.length + m.length ≤ c
  · rw [if_pos hcap]
    simp only [hmf]
    by_cases hc0 : c = 0
    · have hl : l = [] := List.length_eq_zero_iff.mp (by omega)
      have hm' : m = [] := List.length_eq_zero_iff.mp (by omega)
      subst hl hm' hc0
      have : K (.slice a (([] : List α).length + ([] : List α).length) 0) H := hk _ H ⟨a, 0, rfl, by simp, fun h0 => absurd h0 (by simp)⟩ (fun b o hb _ => hb) (fun b hb => by cases a <;> simp [bk] at hb)
      cases a with
      | none => exact this
      | some ad => exact this
    · obtain ⟨b, off, cs, e', rfl, hbb, hs, hcs⟩ := hr (by omega)
      simp only [add_none, Nat.mul_one]
      refine stC_run (b := b) (e := e') (m.map enc) _ 0 cs H rfl rfl hbb (by simp; omega) (by simp; intro x _; exact ho x) ?_
      intro H' cs' h1 h2 h3 h4 h5
      simp only [Nat.add_zero] at h3 h4
      refine hk _ H' ⟨some ⟨b, off, none⟩, c, by simp, by simpa using hcap, fun _ => ⟨b, off, cs', e', rfl, h1, by omega, ?_⟩⟩ ?_ ?_
      · intro i hi
        by_cases hil : i < l.length
        · rw [h3 _ (by omega), hcs i hil, List.getElem_append_left hil]
        · have := h4 (i - l.length) (by simp at hi ⊢; omega)
          rw [show off + l.length + (i - l.length) = off + i by omega] at this
          rw [this, List.getElem_append_right (by omega)]; simp
      · intro x o hx hne
        simp only [bk, if_neg hc0] at hne
        rw [h5 x (by rintro rfl; exact hne rfl)]; exact hx
      · intro x hx
        left; exact hx
  · rw [if_neg hcap]
    refine ⟨hb, hc c (by omega), ?_⟩
    simp only [hlf, hmf]
    intro c' hc1 hc2 r hr'
    refine hk _ _ ⟨some ⟨r, 0, none⟩, c', by simp, by simpa using hc1, fun _ => ⟨r, 0, _, e, rfl, Hp.put_same _ _ _, ?_, ?_⟩⟩ ?_ ?_
    · have : (Builtin.zeroCells #[z] (c' - (l.length + m.length))).size = c' - (l.length + m.length) := by simp [Builtin.zeroCells]
      simp [this]; omega
    · intro i hi
      rw [Nat.zero_add, Array.getElem?_append_left (by simpa using hi)]
      rw [← Array.getElem?_toList]
      simp only [Array.toList_append, ← List.map_append, List.getElem?_map]
      rw [List.getElem?_eq_getElem hi]; rfl
    · intro x o hx _
      rw [Hp.put_ne _ _ (by rintro rfl; rw [hr'] at hx; exact absurd hx (by simp))]; exact hx
    · intro x hx
      right
      simp only [bk] at hx
      split at hx
      · simp at hx
      · simp only [Option.some.injEq] at hx; subst hx; exact hr'
end
end Go.Proofs.Ythmdmbbdjbhcoaa.HL
/- Values and loops over a partial heap: the rules that a proof of a function's text uses. -/
namespace Go.Proofs.Ythmdmbbdjbhcoaa.HL
theorem cnd_i {b : Bool} {A B : Prop} (h1 : b = true → A) (h2 : b = false → B) : cnd (.bool b) A B := by
  cases b
  · exact h2 rfl
  · exact h1 rfl
theorem cnd_d {p : Prop} [Decidable p] {A B : Prop} (h1 : p → A) (h2 : ¬ p → B) : cnd (.bool (decide p)) A B := by
  by_cases h : p
  · rw [decide_eq_true h]; exact h1 h
  · rw [decide_eq_false h]; exact h2 h
theorem gop_tt (F : (Value → Hp → Prop) → Prop) (H : Hp) (K : Value → Hp → Prop) : gop (.bool true) true F H K = F K := rfl
theorem gop_ft (F : (Value → Hp → Prop) → Prop) (H : Hp) (K : Value → Hp → Prop) : gop (.bool false) true F H K = K undef H := rfl
theorem vPick_t (a b : Value) : vPick (.bool true) a b = some a := rfl
theorem vPick_f (a b : Value) : vPick (.bool false) a b = some b := rfl
theorem vExt_20 (a b : Value) : vExt (.tuple #[a, b]) 0 = some a := rfl
theorem vExt_21 (a b : Value) : vExt (.tuple #[a, b]) 1 = some b := rfl
theorem vUn_not (b : Bool) : vUn .not (.bool b) = some (.bool !b) := rfl
theorem vInt_lss (k : IntKind) (a b : Int) : vInt .lss (.int k a) (.int k b) = some (.bool (decide (a < b))) := by simp [vInt]
theorem vInt_leq (k : IntKind) (a b : Int) : vInt .leq (.int k a) (.int k b) = some (.bool (decide (a ≤ b))) := by simp [vInt]
theorem vInt_gtr (k : IntKind) (a b : Int) : vInt .gtr (.int k a) (.int k b) = some (.bool (decide (b < a))) := by simp [vInt]
theorem vInt_geq (k : IntKind) (a b : Int) : vInt .geq (.int k a) (.int k b) = some (.bool (decide (b ≤ a))) := by simp [vInt]
theorem vInt_eql (k : IntKind) (a b : Int) : vInt .eql (.int k a) (.int k b) = some (.bool (decide (a = b))) := by
  simp only [vInt, if_true]; rfl
theorem vInt_neq (k : IntKind) (a b : Int) : vInt .neq (.int k a) (.int k b) = some (.bool (decide (a ≠ b))) := by
  simp only [vInt, if_true, bne, ne_eq, decide_not]; rfl
theorem wrap64 {x : Int} (h : -9223372036854775808 ≤ x) (h' : x < 9223372036854775808) : IntKind.i64.wrap x = x := by
  unfold IntKind.wrap; simp [IntKind.signed, IntKind.bits]; omega
theorem vInt_add {a b : Int} (h : -9223372036854775808 ≤ a + b) (h' : a + b < 9223372036854775808) : vInt .add (.int .i64 a) (.int .i64 b) = some (.int .i64 (a + b)) := by
  simp only [vInt, if_true, wrap64 h h']
theorem vInt_sub {a b : Int} (h : -9223372036854775808 ≤ a - b) (h' : a - b < 9223372036854775808) : vInt .sub (.int .i64 a) (.int .i64 b) = some (.int .i64 (a - b)) := by
  simp only [vInt, if_true, wrap64 h h']
theorem vInt_mul {a b : Int} (h : -9223372036854775808 ≤ a * b) (h' : a * b < 9223372036854775808) : vInt .mul (.int .i64 a) (.int .i64 b) = some (.int .i64 (a * b)) := by
  simp only [vInt, if_true, wrap64 h h']
theorem vInt_rem {a b : Int} (h : b ≠ 0) : vInt .rem (.int .i64 a) (.int .i64 b) = some (.int .i64 (a.tmod b)) := by
  simp only [vInt]; rw [if_pos ⟨trivial, h⟩]
theorem vInt_quo {a b : Int} (h : 0 < b) (h1 : -9223372036854775808 ≤ a) (h2 : a < 9223372036854775808) : vInt .quo (.int .i64 a) (.int .i64 b) = some (.int .i64 (a.tdiv b)) := by
  have e : IntKind.i64.wrap (a.tdiv b) = a.tdiv b := by
    have h3 := Int.natAbs_tdiv_le_natAbs a b
    by_cases h0 : 0 ≤ a
    · have := Int.tdiv_nonneg h0 (Int.le_of_lt h)
      exact wrap64 (by omega) (by omega)
    · have h4 := Int.tdiv_nonneg (a := -a) (by omega) (Int.le_of_lt h)
      rw [Int.neg_tdiv] at h4
      exact wrap64 (by omega) (by omega)
  simp only [vInt]; rw [if_pos ⟨trivial, by omega⟩, e]
theorem vCI_64 (k : IntKind) {a : Int} (h : -9223372036854775808 ≤ a) (h' : a < 9223372036854775808) : vCI .i64 (.int k a) = some (.int .i64 a) := by
  simp only [vCI, wrap64 h h']

/-- What is reckoned at once: the rules of straight code. -/
theorem EV : (∀ (a : Value) (K : Value → Prop), ob (some a) K = K a) ∧ (∀ F H K, gop (.bool true) true F H K = F K) ∧ (∀ F H K, gop (.bool false) true F H K = K undef H) ∧
    (∀ F H K, gop (.bool true) false F H K = K undef H) ∧ (∀ F H K, gop (.bool false) false F H K = F K) ∧ (∀ a b, vPick (.bool true) a b = some a) ∧ (∀ a b, vPick (.bool false) a b = some b) ∧
    (∀ b, vUn .not (.bool b) = some (.bool !b)) ∧ ((!true) = false) ∧ ((!false) = true) ∧ (∀ A B, cnd (.bool true) A B = A) ∧ (∀ A B, cnd (.bool false) A B = B) ∧
    (∀ a b, vBool .eql (.bool a) (.bool b) = some (.bool (a == b))) ∧ (∀ a b, vBool .neq (.bool a) (.bool b) = some (.bool (!(a == b)))) ∧ (∀ b : Bool, (b == b) = true) ∧
    (∀ k a b, vInt .neq (.int k a) (.int k b) = some (.bool (decide (a ≠ b)))) ∧ (∀ k a b, vInt .lss (.int k a) (.int k b) = some (.bool (decide (a < b)))) ∧ (∀ k a b, vInt .gtr (.int k a) (.int k b) = some (.bool (decide (b < a)))) ∧
    (∀ k a b, vInt .leq (.int k a) (.int k b) = some (.bool (decide (a ≤ b)))) ∧ (∀ k a b, vInt .geq (.int k a) (.int k b) = some (.bool (decide (b ≤ a)))) ∧ (∀ k a b, vInt .eql (.int k a) (.int k b) = some (.bool (decide (a = b)))) ∧
    (∀ a : Int, decide (a ≠ a) = false) ∧ (∀ a : Int, decide (a = a) = true) ∧ (decide False = false) ∧ (decide True = true) ∧
    (∀ a b, vExt (.tuple #[a, b]) 0 = some a) ∧ (∀ a b, vExt (.tuple #[a, b]) 1 = some b) ∧ (∀ a b c, vExt (.tuple #[a, b, c]) 0 = some a) ∧ (∀ a b c, vExt (.tuple #[a, b, c]) 1 = some b) ∧ (∀ a b c, vExt (.tuple #[a, b, c]) 2 = some c) ∧
    (∀ a b c d, vExt (.tuple #[a, b, c, d]) 0 = some a) ∧ (∀ a b c d, vExt (.tuple #[a, b, c, d]) 1 = some b) ∧ (∀ a b c d, vExt (.tuple #[a, b, c, d]) 2 = some c) ∧ (∀ a b c d, vExt (.tuple #[a, b, c, d]) 3 = some d) :=
  ⟨fun _ _ => rfl, fun _ _ _ => rfl, fun _ _ _ => rfl, fun _ _ _ => rfl, fun _ _ _ => rfl, fun _ _ => rfl, fun _ _ => rfl, fun _ => rfl, rfl, rfl, fun _ _ => rfl, fun _ _ => rfl,
    fun _ _ => rfl, fun _ _ => rfl, fun b => by simp, fun _ _ _ => vInt_neq _ _ _, fun _ _ _ => vInt_lss _ _ _, fun _ _ _ => vInt_gtr _ _ _, fun _ _ _ => vInt_leq _ _ _, fun _ _ _ => vInt_geq _ _ _, fun _ _ _ => vInt_eql _ _ _,
    fun a => by simp, fun a => by simp, by simp, by simp, fun _ _ => rfl, fun _ _ => rfl, fun _ _ _ => rfl, fun _ _ _ => rfl, fun _ _ _ => rfl, fun _ _ _ _ => rfl, fun _ _ _ _ => rfl, fun _ _ _ _ => rfl, fun _ _ _ _ => rfl⟩

theorem ob_i {α : Type} {x : Option α} {a : α} {K : α → Prop} (h : x = some a) (hk : K a) : ob x K := by rw [h]; exact hk
theorem cnd_t1 {A B : Prop} (h : A) : cnd (.bool true) A B := h
theorem cnd_f1 {A B : Prop} (h : B) : cnd (.bool false) A B := h
theorem gop_rt {F : (Value → Hp → Prop) → Prop} {H : Hp} {K : Value → Hp → Prop} (h : F K) : gop (.bool true) true F H K := h
theorem gop_rf {F : (Value → Hp → Prop) → Prop} {H : Hp} {K : Value → Hp → Prop} (h : F K) : gop (.bool false) false F H K := h
theorem gop_st {F : (Value → Hp → Prop) → Prop} {H : Hp} {K : Value → Hp → Prop} (h : K undef H) : gop (.bool true) false F H K := h
theorem gop_sf {F : (Value → Hp → Prop) → Prop} {H : Hp} {K : Value → Hp → Prop} (h : K undef H) : gop (.bool false) true F H K := h
theorem Own.one {α : Type} {enc : α → Value} {H : Hp} {v : Value} {l : List α} (h : Own enc H v l) : oneCell v = true := by
  obtain ⟨a, c, rfl, _⟩ := h; rfl
theorem Own.cells {α : Type} {enc : α → Value} {H : Hp} {v : Value} {l : List α} (h : Own enc H v l) : v.cells = #[v] := by
  obtain ⟨a, c, rfl, _⟩ := h; rfl
theorem Sl.one {α : Type} {enc : α → Value} {H : Hp} {v : Value} {l : List α} (h : Sl enc H v l) : oneCell v = true := by
  obtain ⟨a, c, rfl, _⟩ := h; rfl
theorem Sl.cells {α : Type} {enc : α → Value} {H : Hp} {v : Value} {l : List α} (h : Sl enc H v l) : v.cells = #[v] := by
  obtain ⟨a, c, rfl, _⟩ := h; rfl

/-- A loop's next round. -/
theorem nxt {I : Nat → S → Hp → Prop} {Q : Exit → S → Hp → Prop} {σ : S} {H : Hp} {n : Nat} (m : Nat) (hm : m < n) (h : I m σ H) : thenQ (fun σ' H' => ∃ m, m < n ∧ I m σ' H') Q .normal σ H := ⟨m, hm, h⟩
theorem retK {K : Value → Hp → Prop} {v v' : Value} {H : Hp} (e : v = v') (h : K v' H) : K v H := e ▸ h

/-- Several ways that meet: what holds where they meet. -/
theorem jn_i {K : S → Hp → Prop} {F : (S → Hp → Prop) → Prop} (P : S → Hp → Prop) (h : ∀ σ H, P σ H → K σ H) (hf : ∀ J : S → Hp → Prop, (∀ σ H, P σ H → J σ H) → F J) : jn K F := hf K h

theorem kF {p : Prop} [Decidable p] {K : Value → Hp → Prop} {H : Hp} (hk : K (.bool (decide p)) H) (h : ¬ p) : K (.bool false) H := by rw [decide_eq_false h] at hk; exact hk
theorem kT {p : Prop} [Decidable p] {K : Value → Hp → Prop} {H : Hp} (hk : K (.bool (decide p)) H) (h : p) : K (.bool true) H := by rw [decide_eq_true h] at hk; exact hk
theorem kQ {p q : Prop} [Decidable p] [Decidable q] {K : Value → Hp → Prop} {H : Hp} (hk : K (.bool (decide p)) H) (h : p ↔ q) : K (.bool (decide q)) H := by rw [decide_eq_decide.mpr h] at hk; exact hk

/-! ### copies -/
theorem growBy_le (n : Nat) : ∀ (r c : Nat), Builtin.growBy n r c ≤ max c (n + (n + 768) / 4)
  | 0, c => by simp only [Builtin.growBy]; omega
  | r + 1, c => by
    simp only [Builtin.growBy]
    split
    · omega
    · have := growBy_le n r (c + (c + 768) / 4)
      omega
theorem nsc_le {n c : Nat} (h : n > c) : Builtin.nextslicecap n c ≤ 2 * n + 1024 := by
  unfold Builtin.nextslicecap
  split
  · omega
  · split
    · omega
    · have := growBy_le n 4 c; omega
theorem bS_nil {α : Type} {enc : α → Value} {z : Value} {sz : Nat} {e : TypeId} {H : Hp} {K : Value → Hp → Prop} (hk : ∀ v H', Own enc H' v [] → Nw H v → bk v = none → Le H H' → K v H') : bS sz 0 #[z] e [] H K := by
  refine ⟨by simp, ?_⟩
  rw [if_pos (by simp)]
  show match some (#[] : Array Value) with
    | some cells => ∀ r, H r = none → K (.slice (some ⟨r, 0, none⟩) 0 0) (H.put r (.cells cells e))
    | none => False
  intro r hr
  refine hk _ _ ⟨some ⟨r, 0, none⟩, 0, rfl, by simp, fun h0 => absurd h0 (by simp)⟩ ?_ rfl (Le.put _ hr)
  intro b hb
  simp [bk] at hb
/-- An append to an empty slice of its own: a copy. -/
theorem apd_nil {α : Type} {enc : α → Value} {z : Value} {b : Nat} {e : TypeId} {a v1 : Value} {l : List α} {H : Hp} {K : Value → Hp → Prop} (o1 : Own enc H v1 []) (k1 : bk v1 = none) (ha : Sl enc H a l) (ho : ∀ x, oneCell (enc x) = true) (hb : b ≤ 64) (hl : l.length ≤ 68719476736)
    (hk : ∀ v H', Own enc H' v l → Nw H v → Le H H' → K v H') : apd 1 b #[z] e v1 a H K := by
  refine o1.apd ha ho (by simp; omega) (fun c hc => ?_) (fun v2 H2 o2 off2 hbk => ?_)
  · have := nsc_le hc
    simp only [List.length_nil, Nat.zero_add] at this ⊢
    exact Nat.le_trans (Nat.mul_le_mul this hb) (by omega)
  · rw [List.nil_append] at o2
    refine hk v2 H2 o2 (fun x hx => ?_) (fun x o hx => off2 x o hx (by rw [k1]; simp))
    rcases hbk x hx with h | h
    · rw [k1] at h; simp at h
    · exact h
theorem Own.isSl {α : Type} {enc : α → Value} {H : Hp} {v : Value} {l : List α} (h : Own enc H v l) : ∃ a n c, v = .slice a n c := by
  obtain ⟨a, c, h, _⟩ := h; exact ⟨_, _, _, h⟩
theorem Sl.isSl {α : Type} {enc : α → Value} {H : Hp} {v : Value} {l : List α} (h : Sl enc H v l) : ∃ a n c, v = .slice a n c := by
  obtain ⟨a, c, h, _⟩ := h; exact ⟨_, _, _, h⟩
/-! ### lists by index -/
theorem at_eq {α : Type} (d : α) (l : List α) {i : Nat} (h : i < l.length) : at_ d l (i : Int) = l[i] := by
  unfold at_; rw [Int.toNat_natCast, List.getD_eq_getElem?_getD, List.getElem?_eq_getElem h]; rfl
theorem take_at {α : Type} (d : α) (l : List α) {i : Nat} (h : i < l.length) : l.take (i + 1) = l.take i ++ [at_ d l (i : Int)] := by
  rw [at_eq d l h, List.take_append_getElem h]
theorem at_mem {α : Type} (d : α) (l : List α) {i : Int} (h0 : 0 ≤ i) (h : i < l.length) : at_ d l i ∈ l := by
  have hn : i.toNat < l.length := by omega
  unfold at_; rw [List.getD_eq_getElem?_getD, List.getElem?_eq_getElem hn]; exact List.getElem_mem hn
end Go.Proofs.Ythmdmbbdjbhcoaa.HL
/- Functions' texts over a partial heap. -/
namespace Go.Proofs.Ythmdmbbdjbhcoaa
open HL
def O0 : Nat → Nat × List Nat := fun _ => (0, [])
variable {a0 a1 a2 a3 a4 : Value} {H : Hp} {K : Value → Hp → Prop}
set_option linter.unusedVariables false
set_option maxRecDepth 100000
set_option maxHeartbeats 4000000
def F.q59 (a0 a1 a2 : Value) (H : Hp) (K : Value → Hp → Prop) : Prop :=
 ob (vInt .geq a0 a1) fun b =>
 gop b true (fun K2 => K2 a0 H) H fun c H4 =>
 gop b true (fun K5 => K5 a2 H4) H4 fun d H7 =>
 gop b true (fun K8 => ob (vInt .leq c d) fun u => K8 u H7) H7 fun e H10 =>
 ob (vPick b e (.bool false)) fun f =>
 K f H10
theorem R.q59 (h : F.q59 a0 a1 a2 H K) : HT prg 59 [a0, a1, a2].toArray H K :=
 HT_of_eq O0 mixed Try.func59 (by kernel_rfl) (by kernel_rfl) h
def F.q80 (a0 a1 a2 : Value) (H : Hp) (K : Value → Hp → Prop) : Prop :=
 ob (vInt .geq a0 a1) fun b =>
 gop b true (fun K2 => K2 a0 H) H fun c H4 =>
 gop b true (fun K5 => K5 a2 H4) H4 fun d H7 =>
 gop b true (fun K8 => ob (vInt .leq c d) fun u => K8 u H7) H7 fun e H10 =>
 ob (vPick b e (.bool false)) fun f =>
 K f H10
theorem R.q80 (h : F.q80 a0 a1 a2 H K) : HT prg 80 [a0, a1, a2].toArray H K :=
 HT_of_eq O0 mixed Try.func80 (by kernel_rfl) (by kernel_rfl) h
def F.q138 (a0 a1 a2 : Value) (H : Hp) (K : Value → Hp → Prop) : Prop :=
 jn (fun σ1 H1 =>
 K (.bool true) H1) fun J1 =>
 ob (vLenSl a0) fun b =>
 lpE (fun Q3 σ3 H3 =>
 ob (vInt .lss (σ3 11) (σ3 10)) fun c =>
 cnd c
 (ob (vIx 1 (σ3 9) (σ3 11)) fun d =>
 ob (vLoad d H3) fun e =>
 HT prg 80 [e, (σ3 1), (σ3 2)].toArray H3 fun f H8 =>
 ob (vUn .not f) fun g =>
 cnd g
 (Q3 .ret (up (up (up (up (up (up (up (up (up (up σ3 12 c) 13 d) 14 e) 8 e) 15 e) 16 (σ3 1)) 17 (σ3 2)) 18 f) 19 g) 6 (.bool false)) H8)
 (ob (vInt .add (σ3 11) (.int .i64 1)) fun i =>
 Q3 .normal (up (up (up (up (up (up (up (up (up (up (up σ3 12 c) 13 d) 14 e) 8 e) 15 e) 16 (σ3 1)) 17 (σ3 2)) 18 f) 19 g) 20 i) 11 i) H8))
 (Q3 (.exit 0) (up σ3 12 c) H3)) (blkQ 0 (thenQ J1 (retQ prg [(.tmp 6)] K))) (up (up (up (up (S0 [a0, a1, a2]) 6 (.bool false)) 9 a0) 10 b) 11 (.int .i64 0)) H
theorem R.q138 (h : F.q138 a0 a1 a2 H K) : HT prg 138 [a0, a1, a2].toArray H K :=
 HT_of_eq O0 mixed Try.func138 (by kernel_rfl) (by kernel_rfl) h
def F.q123 (a0 a1 a2 a3 a4 : Value) (H : Hp) (K : Value → Hp → Prop) : Prop :=
 ob (vLenSl a0) fun b =>
 HT prg 80 [b, a1, a2].toArray H fun c H3 =>
 gop c true (fun K4 => K4 a0 H3) H3 fun d H6 =>
 gop c true (fun K7 => K7 a3 H6) H6 fun e H9 =>
 gop c true (fun K10 => K10 a4 H9) H9 fun f H12 =>
 gop c true (fun K13 => HT prg 138 [d, e, f].toArray H12 K13) H12 fun g H15 =>
 ob (vPick c g (.bool false)) fun i =>
 K i H15
theorem R.q123 (h : F.q123 a0 a1 a2 a3 a4 H K) : HT prg 123 [a0, a1, a2, a3, a4].toArray H K :=
 HT_of_eq O0 mixed Try.func123 (by kernel_rfl) (by kernel_rfl) h
def F.q145 (a0 a1 : Value) (H : Hp) (K : Value → Hp → Prop) : Prop :=
 ob (vInt .rem a0 a1) fun b =>
 ob (vInt .add b a1) fun c =>
 ob (vInt .rem c a1) fun d =>
 K d H
theorem R.q145 (h : F.q145 a0 a1 H K) : HT prg 145 [a0, a1].toArray H K :=
 HT_of_eq O0 mixed Try.func145 (by kernel_rfl) (by kernel_rfl) h
end Go.Proofs.Ythmdmbbdjbhcoaa
/- Functions' texts over a partial heap. -/
namespace Go.Proofs.Ythmdmbbdjbhcoaa
open HL
variable {a0 a1 a2 a3 a4 a5 a6 : Value} {H : Hp} {K : Value → Hp → Prop}
set_option linter.unusedVariables false
set_option maxRecDepth 100000
set_option maxHeartbeats 4000000
def F.q19 (a0 a1 : Value) (H : Hp) (K : Value → Hp → Prop) : Prop :=
 ob (vLenSl a0) fun b =>
 ob (vInt .gtr b (.int .i64 1048576)) fun c =>
 gop c false (fun K3 => K3 a1 H) H fun d H5 =>
 gop c false (fun K6 => ob (vLenSl d) fun u => K6 u H5) H5 fun e H8 =>
 gop c false (fun K9 => ob (vInt .gtr e (.int .i64 1048576)) fun u => K9 u H8) H8 fun f H11 =>
 ob (vPick c (.bool true) f) fun g =>
 K g H11
theorem R.q19 (h : F.q19 a0 a1 H K) : HT prg 19 [a0, a1].toArray H K :=
 HT_of_eq O0 mixed Try.func19 (by kernel_rfl) (by kernel_rfl) h
def F.q54 (a0 : Value) (H : Hp) (K : Value → Hp → Prop) : Prop :=
 ob (vBuild [(0, 1), (1, 1), (2, 1)] (.agg #[(.slice none 0 0), (.int .i64 0), (.int .u64 0)]) [(0, a0)]) fun b =>
 nw (b : Value).cells 122 H fun c H3 =>
 K c H3
theorem R.q54 (h : F.q54 a0 H K) : HT prg 54 [a0].toArray H K :=
 HT_of_eq O0 mixed Try.func54 (by kernel_rfl) (by kernel_rfl) h
def F.q103 (a0 : Value) (H : Hp) (K : Value → Hp → Prop) : Prop :=
 jn (fun σ1 H1 =>
 ob (vNilC (σ1 0)) fun b =>
 ob (vFa 1 b) fun c =>
 ob (vLoad c H1) fun d =>
 ob (vInt .add d (.int .i64 1)) fun e =>
 ob (vNilC (σ1 0)) fun f =>
 ob (vFa 1 f) fun g =>
 st 1 g e H1 fun H8 =>
 ob (vNilC (σ1 0)) fun i =>
 ob (vFa 2 i) fun j =>
 ob (vLoad j H8) fun k =>
 ob (vInt .mul k (.int .u64 6364136223846793005)) fun l =>
 ob (vCI .u64 (σ1 3)) fun m =>
 ob (vInt .add l m) fun n =>
 ob (vInt .add n (.int .u64 1442695040888963407)) fun p =>
 ob (vNilC (σ1 0)) fun q =>
 ob (vFa 2 q) fun r =>
 st 1 r p H8 fun H18 =>
 ob (vNilC (σ1 0)) fun s =>
 ob (vFa 1 s) fun t =>
 ob (vLoad t H18) fun w =>
 ob (vNilC (σ1 0)) fun x =>
 ob (vFa 0 x) fun y =>
 ob (vLoad y H18) fun z =>
 ob (vLenSl z) fun b0 =>
 ob (vInt .leq w b0) fun c0 =>
 cnd c0
 (K (σ1 3) H18)
 (ob (vNilC (σ1 0)) fun d0 =>
 ob (vFa 2 d0) fun e0 =>
 ob (vLoad e0 H18) fun f0 =>
 ob (vInt .shr f0 (.int .u64 40)) fun g0 =>
 ob (vInt .and g0 (.int .u64 255)) fun i0 =>
 ob (vCI .i64 i0) fun j0 =>
 K j0 H18)) fun J1 =>
 ob (vNilC a0) fun k0 =>
 ob (vFa 1 k0) fun l0 =>
 ob (vLoad l0 H) fun m0 =>
 ob (vNilC a0) fun n0 =>
 ob (vFa 0 n0) fun p0 =>
 ob (vLoad p0 H) fun q0 =>
 ob (vLenSl q0) fun r0 =>
 ob (vInt .lss m0 r0) fun s0 =>
 cnd s0
 (ob (vNilC a0) fun t0 =>
 ob (vFa 0 t0) fun w0 =>
 ob (vLoad w0 H) fun x0 =>
 ob (vNilC a0) fun y0 =>
 ob (vFa 1 y0) fun z0 =>
 ob (vLoad z0 H) fun b1 =>
 ob (vIx 1 x0 b1) fun c1 =>
 ob (vLoad c1 H) fun d1 =>
 ob (vCI .i64 d1) fun e1 =>
 J1 (up (up (up (up (up (up (up (up (up (up (up (up (up (up (up (up (up (up (up (up (up (up (up (up (S0 [a0]) 2 (.int .i64 0)) 3 (.int .i64 0)) 4 a0) 5 k0) 6 l0) 7 m0) 8 a0) 9 n0) 10 p0) 11 q0) 12 r0) 13 s0) 14 a0) 15 t0) 16 w0) 17 x0) 18 a0) 19 y0) 20 z0) 21 b1) 22 c1) 23 d1) 24 e1) 3 e1) H)
 (J1 (up (up (up (up (up (up (up (up (up (up (up (up (S0 [a0]) 2 (.int .i64 0)) 3 (.int .i64 0)) 4 a0) 5 k0) 6 l0) 7 m0) 8 a0) 9 n0) 10 p0) 11 q0) 12 r0) 13 s0) H)
def O.q103 : Nat → Nat × List Nat := fun i => bif Nat.beq i 6 then (0, [0, 1, 2, 3, 4, 5, 6, 7, 8, 9]) else bif Nat.beq i 2 then (0, [0, 1, 2, 3, 4, 5, 6, 7, 8, 9]) else bif Nat.beq i 3 then (0, [0, 1, 2, 3, 4, 5, 6, 7, 8, 9, 10, 11]) else (0, [])
theorem R.q103 (h : F.q103 a0 H K) : HT prg 103 [a0].toArray H K :=
 HT_of_eq O.q103 mixed Try.func103 (by kernel_rfl) (by kernel_rfl) h
def F.q57 (a0 a1 : Value) (H : Hp) (K : Value → Hp → Prop) : Prop :=
 ob (vInt .leq a1 (.int .i64 1)) fun b =>
 cnd b
 (K (.int .i64 0) H)
 (HT prg 103 [a0].toArray H fun c H3 =>
 ob (vInt .gtr a1 (.int .i64 200)) fun d =>
 cnd d
 (ob (vInt .mul c (.int .i64 256)) fun e =>
 HT prg 103 [a0].toArray H3 fun f H7 =>
 ob (vInt .add e f) fun g =>
 ob (vInt .rem g a1) fun i =>
 K i H7)
 (ob (vInt .rem c a1) fun j =>
 K j H3))
theorem R.q57 (h : F.q57 a0 a1 H K) : HT prg 57 [a0, a1].toArray H K :=
 HT_of_eq O0 mixed Try.func57 (by kernel_rfl) (by kernel_rfl) h
def F.q21 (a0 a1 a2 : Value) (H : Hp) (K : Value → Hp → Prop) : Prop :=
 ob (vInt .leq a2 (.int .i64 1)) fun b =>
 cnd b
 (K (.int .i64 0) H)
 (ob (vLenSl a0) fun c =>
 ob (vInt .lss a1 c) fun d =>
 cnd d
 (ob (vIx 1 a0 a1) fun e =>
 ob (vLoad e H) fun f =>
 ob (vCI .i64 f) fun g =>
 ob (vInt .rem g a2) fun i =>
 K i H)
 (ob (vInt .mul a1 (.int .i64 37)) fun j =>
 ob (vInt .add j (.int .i64 11)) fun k =>
 ob (vInt .rem k a2) fun l =>
 K l H))
theorem R.q21 (h : F.q21 a0 a1 a2 H K) : HT prg 21 [a0, a1, a2].toArray H K :=
 HT_of_eq O0 mixed Try.func21 (by kernel_rfl) (by kernel_rfl) h
def F.q23 (a0 a1 : Value) (H : Hp) (K : Value → Hp → Prop) : Prop :=
 ob (vLenSl a0) fun b =>
 ob (vLenSl a1) fun c =>
 ob (vInt .neq b c) fun d =>
 cnd d
 (K (.bool false) H)
 (jn (fun σ4 H4 =>
 K (.bool true) H4) fun J4 =>
 ob (vLenSl a0) fun e =>
 lpE (fun Q6 σ6 H6 =>
 ob (vInt .lss (σ6 13) (σ6 12)) fun f =>
 cnd f
 (ob (vIx 1 (σ6 0) (σ6 13)) fun g =>
 ob (vLoad g H6) fun i =>
 ob (vIx 1 (σ6 1) (σ6 13)) fun j =>
 ob (vLoad j H6) fun k =>
 ob (vInt .neq i k) fun l =>
 cnd l
 (Q6 .ret (up (up (up (up (up (up (up (up (up (up (up (up (up σ6 14 f) 15 (σ6 13)) 5 (σ6 13)) 16 (σ6 0)) 17 (σ6 13)) 18 g) 19 i) 20 (σ6 1)) 21 (σ6 13)) 22 j) 23 k) 24 l) 4 (.bool false)) H6)
 (ob (vInt .add (σ6 13) (.int .i64 1)) fun m =>
 Q6 .normal (up (up (up (up (up (up (up (up (up (up (up (up (up (up σ6 14 f) 15 (σ6 13)) 5 (σ6 13)) 16 (σ6 0)) 17 (σ6 13)) 18 g) 19 i) 20 (σ6 1)) 21 (σ6 13)) 22 j) 23 k) 24 l) 25 m) 13 m) H6))
 (Q6 (.exit 0) (up σ6 14 f) H6)) (blkQ 0 (thenQ J4 (retQ prg [(.tmp 4)] K))) (up (up (up (up (up (up (up (up (up (S0 [a0, a1]) 4 (.bool false)) 6 a0) 7 b) 8 a1) 9 c) 10 d) 11 a0) 12 e) 13 (.int .i64 0)) H)
def O.q23 : Nat → Nat × List Nat := fun i => bif Nat.beq i 6 then (0, [0, 1, 2, 3, 4, 5, 6, 7, 8]) else (0, [])
theorem R.q23 (h : F.q23 a0 a1 H K) : HT prg 23 [a0, a1].toArray H K :=
 HT_of_eq O.q23 mixed Try.func23 (by kernel_rfl) (by kernel_rfl) h
def F.q152 (a0 : Value) (H : Hp) (K : Value → Hp → Prop) : Prop :=
 HT prg 80 [a0, (.int .i64 1), (.int .i64 24)].toArray H fun b H2 =>
 K b H2
theorem R.q152 (h : F.q152 a0 H K) : HT prg 152 [a0].toArray H K :=
 HT_of_eq O0 mixed Try.func152 (by kernel_rfl) (by kernel_rfl) h
def F.q139 (a0 : Value) (H : Hp) (K : Value → Hp → Prop) : Prop :=
 nw (a0 : Value).cells 49 H fun b H2 =>
 ob (vFa 0 b) fun c =>
 ob (vLoad c H2) fun d =>
 ob (vFa 1 b) fun e =>
 ob (vLoad e H2) fun f =>
 ob (vInt .mul d f) fun g =>
 ob (vFa 0 b) fun i =>
 ob (vLoad i H2) fun j =>
 HT prg 152 [j].toArray H2 fun k H11 =>
 gop k true (fun K12 => ob (vFa 1 b) fun u => K12 u H11) H11 fun l H14 =>
 gop k true (fun K15 => ob (vLoad l H14) fun u => K15 u H14) H14 fun m H17 =>
 gop k true (fun K18 => HT prg 152 [m].toArray H17 K18) H17 fun n H20 =>
 ob (vPick k n (.bool false)) fun p =>
 gop p true (fun K22 => ob (vFa 2 b) fun u => K22 u H20) H20 fun q H24 =>
 gop p true (fun K25 => ob (vLoad q H24) fun u => K25 u H24) H24 fun r H27 =>
 gop p true (fun K28 => K28 g H27) H27 fun s H30 =>
 gop p true (fun K31 => K31 g H30) H30 fun t H33 =>
 gop p true (fun K34 => HT prg 123 [r, s, t, (.int .i64 0), (.int .i64 9)].toArray H33 K34) H33 fun w H36 =>
 ob (vPick p w (.bool false)) fun x =>
 K x H36
theorem R.q139 (h : F.q139 a0 H K) : HT prg 139 [a0].toArray H K :=
 HT_of_eq O0 mixed Try.func139 (by kernel_rfl) (by kernel_rfl) h
def F.q108 (a0 : Value) (H : Hp) (K : Value → Hp → Prop) : Prop :=
 nw (a0 : Value).cells 49 H fun b H2 =>
 ob (vLoadN 3 b H2) fun c =>
 HT prg 139 [c].toArray H2 fun d H5 =>
 gop d true (fun K6 => ob (vFa 2 b) fun u => K6 u H5) H5 fun e H8 =>
 gop d true (fun K9 => ob (vLoad e H8) fun u => K9 u H8) H8 fun f H11 =>
 gop d true (fun K12 => HT prg 138 [f, (.int .i64 0), (.int .i64 1)].toArray H11 K12) H11 fun g H14 =>
 ob (vPick d g (.bool false)) fun i =>
 K i H14
theorem R.q108 (h : F.q108 a0 H K) : HT prg 108 [a0].toArray H K :=
 HT_of_eq O0 mixed Try.func108 (by kernel_rfl) (by kernel_rfl) h
def F.q66 (a0 : Value) (H : Hp) (K : Value → Hp → Prop) : Prop :=
 nw (a0 : Value).cells 49 H fun b H2 =>
 ob (vLoadN 3 b H2) fun c =>
 HT prg 108 [c].toArray H2 fun d H5 =>
 gop d true (fun K6 => ob (vFa 0 b) fun u => K6 u H5) H5 fun e H8 =>
 gop d true (fun K9 => ob (vLoad e H8) fun u => K9 u H8) H8 fun f H11 =>
 gop d true (fun K12 => ob (vFa 1 b) fun u => K12 u H11) H11 fun g H14 =>
 gop d true (fun K15 => ob (vLoad g H14) fun u => K15 u H14) H14 fun i H17 =>
 gop d true (fun K18 => ob (vInt .eql f i) fun u => K18 u H17) H17 fun j H20 =>
 ob (vPick d j (.bool false)) fun k =>
 gop k true (fun K22 => ob (vFa 0 b) fun u => K22 u H20) H20 fun l H24 =>
 gop k true (fun K25 => ob (vLoad l H24) fun u => K25 u H24) H24 fun m H27 =>
 gop k true (fun K28 => ob (vInt .eql m (.int .i64 4)) fun u => K28 u H27) H27 fun n H30 =>
 gop k true (fun K31 => K31 n H30) H30 fun p H33 =>
 gop p false (fun K34 => ob (vFa 0 b) fun u => K34 u H33) H33 fun q H36 =>
 gop p false (fun K37 => ob (vLoad q H36) fun u => K37 u H36) H36 fun r H39 =>
 gop p false (fun K40 => ob (vInt .eql r (.int .i64 8)) fun u => K40 u H39) H39 fun s H42 =>
 gop k true (fun K43 => ob (vPick p (.bool true) s) fun u => K43 u H42) H42 fun t H45 =>
 gop k true (fun K46 => K46 t H45) H45 fun w H48 =>
 gop w false (fun K49 => ob (vFa 0 b) fun u => K49 u H48) H48 fun x H51 =>
 gop w false (fun K52 => ob (vLoad x H51) fun u => K52 u H51) H51 fun y H54 =>
 gop w false (fun K55 => ob (vInt .eql y (.int .i64 16)) fun u => K55 u H54) H54 fun z H57 =>
 gop k true (fun K58 => ob (vPick w (.bool true) z) fun u => K58 u H57) H57 fun b0 H60 =>
 ob (vPick k b0 (.bool false)) fun c0 =>
 K c0 H60
theorem R.q66 (h : F.q66 a0 H K) : HT prg 66 [a0].toArray H K :=
 HT_of_eq O0 mixed Try.func66 (by kernel_rfl) (by kernel_rfl) h
def F.q83 (a0 a1 a2 : Value) (H : Hp) (K : Value → Hp → Prop) : Prop :=
 nw (a0 : Value).cells 49 H fun b H2 =>
 ob (vFa 2 b) fun c =>
 ob (vLoad c H2) fun d =>
 ob (vFa 1 b) fun e =>
 ob (vLoad e H2) fun f =>
 ob (vInt .mul a1 f) fun g =>
 ob (vInt .add g a2) fun i =>
 ob (vIx 1 d i) fun j =>
 ob (vLoad j H2) fun k =>
 K k H2
theorem R.q83 (h : F.q83 a0 a1 a2 H K) : HT prg 83 [a0, a1, a2].toArray H K :=
 HT_of_eq O0 mixed Try.func83 (by kernel_rfl) (by kernel_rfl) h
def F.q116 (a0 a1 a2 a3 a4 a5 a6 : Value) (H : Hp) (K : Value → Hp → Prop) : Prop :=
 ob (vInt .eql a2 (.int .i64 1)) fun b =>
 cnd b
 (ob (vLoadN 3 a3 H) fun c =>
 HT prg 83 [c, a0, a1].toArray H fun d H4 =>
 K d H4)
 (ob (vInt .quo a2 (.int .i64 2)) fun e =>
 hp prg (Instr.build 133 [].toArray) H fun f H7 =>
 nw #[(.int .i64 0), (.int .i64 0), (.int .i64 0), (.int .i64 0)] 133 H7 fun g H9 =>
 st 4 g f H9 fun H10 =>
 jn (fun σ11 H11 =>
 ob (vLoad (σ11 5) H11) fun i =>
 ob (vLoadN 4 (σ11 12) H11) fun j =>
 hp prg (Instr.lookup 131 i j true) H11 fun k H15 =>
 ob (vExt k 0) fun l =>
 ob (vExt k 1) fun m =>
 ob (vUn .not m) fun n =>
 cnd n
 (ob (vLoad (σ11 5) H15) fun p =>
 ob (val prg (Builtin.len_ #[131] 3 [p].toArray) H15) fun q =>
 ob (vLoad (σ11 5) H15) fun r =>
 ob (vLoadN 4 (σ11 12) H15) fun s =>
 hp prg (Instr.mapUpdate 131 r s q) H15 fun _ H23 =>
 ob (vLoad (σ11 6) H23) fun t =>
 ob (vSlA 4 1 (σ11 12) none none) fun w =>
 apd 1 8 #[(.int .i64 0)] 2 t w H23 fun x H27 =>
 st 1 (σ11 6) x H27 fun H28 =>
 ob (vInt .add q (.int .i64 2)) fun y =>
 K y H28)
 (ob (vInt .add l (.int .i64 2)) fun z =>
 K z H15)) fun J11 =>
 lpE (fun Q31 σ31 H31 =>
 ob (vInt .lss (σ31 25) (.int .i64 4)) fun b0 =>
 cnd b0
 (ob (vLoad (σ31 4) H31) fun c0 =>
 ob (vInt .quo (σ31 25) (.int .i64 2)) fun d0 =>
 ob (vInt .mul d0 (σ31 11)) fun e0 =>
 ob (vInt .add (σ31 0) e0) fun f0 =>
 ob (vInt .rem (σ31 25) (.int .i64 2)) fun g0 =>
 ob (vInt .mul g0 (σ31 11)) fun i0 =>
 ob (vInt .add (σ31 1) i0) fun j0 =>
 callV prg c0 [f0, j0, (σ31 11)] H31 fun k0 H41 =>
 ob (vIxArr 4 1 (σ31 12) (σ31 25)) fun l0 =>
 st 1 l0 k0 H41 fun H43 =>
 ob (vInt .add (σ31 25) (.int .i64 1)) fun m0 =>
 Q31 .normal (up (up (up (up (up (up (up (up (up (up (up (up (up (up (up (up (up (up (up (up (up (up σ31 26 b0) 27 (σ31 25)) 13 (σ31 25)) 28 (σ31 25)) 29 c0) 30 (σ31 0)) 31 (σ31 25)) 32 d0) 33 (σ31 11)) 34 e0) 35 f0) 36 (σ31 1)) 37 (σ31 25)) 38 g0) 39 (σ31 11)) 40 i0) 41 j0) 42 (σ31 11)) 43 k0) 44 l0) 45 m0) 25 m0) H43)
 (Q31 (.exit 0) (up σ31 26 b0) H31)) (blkQ 0 (thenQ J11 (retQ prg [(.tmp 10)] K))) (up (up (up (up (up (up (up (up (up (S0 [a0, a1, a2, a3, a4, a5, a6]) 10 (.int .i64 0)) 16 a2) 17 b) 22 a2) 23 e) 11 e) 24 f) 12 g) 25 (.int .i64 0)) H10)
def O.q116 : Nat → Nat × List Nat := fun i => bif Nat.beq i 14 then (0, [0, 1, 2, 3]) else (0, [])
theorem R.q116 (h : F.q116 a0 a1 a2 a3 a4 a5 a6 H K) : HT prg 116 [a0, a1, a2, a3, a4, a5, a6].toArray H K :=
 HT_of_eq O.q116 mixed Try.func116 (by kernel_rfl) (by kernel_rfl) h
def F.q74 (a0 : Value) (H : Hp) (K : Value → Hp → Prop) : Prop :=
 nw (a0 : Value).cells 49 H fun b H2 =>
 bS 1 0 #[(.int .i64 0)] 2 [] H2 fun c H4 =>
 nw #[(.slice none 0 0)] 22 H4 fun d H6 =>
 st 1 d c H6 fun H7 =>
 opEv.nwM H7 fun e H9 =>
 nw #[(.map none)] 131 H9 fun f H11 =>
 st 1 f e H11 fun H12 =>
 nw #[.nilFunc] 132 H12 fun g H14 =>
 st 1 g (.func (.func 116) #[] #[b, g, f, d]) H14 fun H15 =>
 ob (vLoad g H15) fun i =>
 ob (vFa 0 b) fun j =>
 ob (vLoad j H15) fun k =>
 callV prg i [(.int .i64 0), (.int .i64 0), k] H15 fun l H20 =>
 ob (vLoad d H20) fun m =>
 K m H20
theorem R.q74 (h : F.q74 a0 H K) : HT prg 74 [a0].toArray H K :=
 HT_of_eq O0 mixed Try.func74 (by kernel_rfl) (by kernel_rfl) h
def F.q119 (a0 a1 a2 : Value) (H : Hp) (K : Value → Hp → Prop) : Prop :=
 lpE (fun Q1 σ1 H1 =>
 ob (vLoad (σ1 1) H1) fun b =>
 ob (vLenSl b) fun c =>
 ob (vInt .lss (σ1 4) c) fun d =>
 cnd d
 (ob (vLoad (σ1 2) H1) fun e =>
 ob (vLoad (σ1 1) H1) fun f =>
 ob (vSl3 1 f (some (σ1 4)) none none) fun g =>
 ob (vLenSl g) fun i =>
 ob (vMx false e [i]) fun j =>
 ob (vLoad (σ1 1) H1) fun k =>
 ob (vInt .add (σ1 4) j) fun l =>
 ob (vInt .add (σ1 4) j) fun m =>
 ob (vSl3 1 k (some (σ1 4)) (some l) (some m)) fun n =>
 callV prg (σ1 0) [n] H1 fun p H15 =>
 ob (vUn .not p) fun q =>
 cnd q
 (Q1 .ret (up (up (up (up (up (up (up (up (up (up (up (up (up (up (up (up (up (up (up (up (up (up (up σ1 6 (σ1 4)) 7 b) 8 c) 9 d) 13 e) 14 f) 15 (σ1 4)) 16 g) 17 i) 18 j) 5 j) 19 (σ1 0)) 20 k) 21 (σ1 4)) 22 (σ1 4)) 23 j) 24 l) 25 (σ1 4)) 26 j) 27 m) 28 n) 29 p) 30 q) H15)
 (ob (vLoad (σ1 2) H15) fun r =>
 ob (vInt .add (σ1 4) r) fun s =>
 Q1 .normal (up (up (up (up (up (up (up (up (up (up (up (up (up (up (up (up (up (up (up (up (up (up (up (up (up (up (up σ1 6 (σ1 4)) 7 b) 8 c) 9 d) 13 e) 14 f) 15 (σ1 4)) 16 g) 17 i) 18 j) 5 j) 19 (σ1 0)) 20 k) 21 (σ1 4)) 22 (σ1 4)) 23 j) 24 l) 25 (σ1 4)) 26 j) 27 m) 28 n) 29 p) 30 q) 10 (σ1 4)) 11 r) 12 s) 4 s) H15))
 (Q1 (.exit 0) (up (up (up (up σ1 6 (σ1 4)) 7 b) 8 c) 9 d) H1)) (blkQ 0 (retQ prg [] K)) (up (S0 [a0, a1, a2]) 4 (.int .i64 0)) H
def O.q119 : Nat → Nat × List Nat := fun i => bif Nat.beq i 3 then (0, [0, 1, 2, 3, 4, 5, 6]) else (0, [])
theorem R.q119 (h : F.q119 a0 a1 a2 H K) : HT prg 119 [a0, a1, a2].toArray H K :=
 HT_of_eq O.q119 mixed Try.func119 (by kernel_rfl) (by kernel_rfl) h
def F.q79 (a0 a1 : Value) (H : Hp) (K : Value → Hp → Prop) : Prop :=
 nw (a0 : Value).cells 22 H fun b H2 =>
 nw (a1 : Value).cells 3 H2 fun c H4 =>
 ob (vLoad c H4) fun d =>
 ob (vInt .lss d (.int .i64 1)) fun e =>
 cnd e
 (ob (val prg (Instr.makeInterface 9 (.string ⟨#[99, 97, 110, 110, 111, 116, 32, 98, 101, 32, 108, 101, 115, 115, 32, 116, 104, 97, 110, 32, 49]⟩)) H4) fun f =>
 hp prg (do pure (Next.value (← Instr.panic f))) H4 (nextH prg (fun _ H8 =>
 K (.func (.func 119) #[] #[b, c]) H8)))
 (K (.func (.func 119) #[] #[b, c]) H4)
theorem R.q79 (h : F.q79 a0 a1 H K) : HT prg 79 [a0, a1].toArray H K :=
 HT_of_eq O0 mixed Try.func79 (by kernel_rfl) (by kernel_rfl) h
def F.q81 (a0 a1 a2 : Value) (H : Hp) (K : Value → Hp → Prop) : Prop :=
 nw #[(.int .i64 0), (.int .i64 0), (.slice none 0 0)] 49 H fun b H2 =>
 ob (vBuild [(0, 1), (1, 1), (2, 1)] (.agg #[(.int .i64 0), (.int .i64 0), (.slice none 0 0)]) [(0, a0), (1, a1)]) fun c =>
 nw #[(.int .i64 0), (.int .i64 0), (.slice none 0 0)] 49 H2 fun d H5 =>
 st 3 d c H5 fun H6 =>
 jn (fun σ7 H7 =>
 ob (vLoadN 3 (σ7 7) H7) fun e =>
 st 3 (σ7 6) e H7 fun H9 =>
 ob (vLoadN 3 (σ7 6) H9) fun u10 => K u10 H9) fun J7 =>
 lpE (fun Q11 σ11 H11 =>
 ob (vInt .lss (σ11 14) (σ11 13)) fun f =>
 cnd f
 (jn (fun σ13 H13 =>
 ob (vInt .add (σ13 14) (.int .i64 1)) fun g =>
 Q11 .normal (up (up σ13 31 g) 14 g) H13) fun J13 =>
 lpE (fun Q15 σ15 H15 =>
 ob (vInt .lss (σ15 18) (σ15 17)) fun i =>
 cnd i
 (ob (vFa 2 (σ15 7)) fun j =>
 ob (vLoad j H15) fun k =>
 callV prg (σ15 2) [(σ15 8), (σ15 18)] H15 fun l H20 =>
 Le H15 H20 ∧ (bS 1 1 #[(.int .i64 0)] 2 [(0, l)] H20 fun m H22 =>
 apd 1 8 #[(.int .i64 0)] 2 k m H22 fun n H24 =>
 ob (vFa 2 (σ15 7)) fun p =>
 st 1 p n H24 fun H26 =>
 ob (vInt .add (σ15 18) (.int .i64 1)) fun q =>
 Q15 .normal (up (up (up (up (up (up (up (up (up (up (up (up (up (up σ15 19 i) 20 (σ15 18)) 9 (σ15 18)) 21 j) 22 k) 23 (σ15 2)) 24 (σ15 8)) 25 (σ15 18)) 26 l) 27 m) 28 n) 29 p) 30 q) 18 q) H26))
 (Q15 (.exit 2) (up σ15 19 i) H15)) (blkQ 2 (blkQ 1 (thenQ J13 Q11))) (up (up (up (up (up σ11 15 f) 16 (σ11 14)) 8 (σ11 14)) 17 (σ11 1)) 18 (.int .i64 0)) H11)
 (Q11 (.exit 0) (up σ11 15 f) H11)) (blkQ 0 (thenQ J7 (retQ prg [(.cell 6 49)] K))) (up (up (up (up (up (up (up (S0 [a0, a1, a2]) 6 b) 10 a0) 11 a1) 12 c) 7 d) 13 a0) 14 (.int .i64 0)) H6
def O.q81 : Nat → Nat × List Nat := fun i => bif Nat.beq i 8 then (0, [0, 1, 2, 3, 4, 5, 6, 7, 8, 9]) else (0, [])
theorem R.q81 (h : F.q81 a0 a1 a2 H K) : HT prg 81 [a0, a1, a2].toArray H K :=
 HT_of_eq O.q81 mixed Try.func81 (by kernel_rfl) (by kernel_rfl) h
def F.q82 (a0 a1 a2 a3 a4 : Value) (H : Hp) (K : Value → Hp → Prop) : Prop :=
 ob (vLoad a2 H) fun b =>
 ob (vLoad a3 H) fun c =>
 ob (vLoad a4 H) fun d =>
 ob (vInt .quo a0 d) fun e =>
 ob (vInt .mul e (.int .i64 2)) fun f =>
 ob (vLoad a4 H) fun g =>
 ob (vInt .quo a1 g) fun i =>
 ob (vInt .add f i) fun j =>
 ob (vIx 1 c j) fun k =>
 ob (vLoad k H) fun l =>
 ob (vIx 3 b l) fun m =>
 ob (vLoadN 3 m H) fun n =>
 ob (vLoad a4 H) fun p =>
 ob (vInt .rem a0 p) fun q =>
 ob (vLoad a4 H) fun r =>
 ob (vInt .rem a1 r) fun s =>
 HT prg 83 [n, q, s].toArray H fun t H18 =>
 Le H H18 ∧ (K t H18)
def O.q82 : Nat → Nat × List Nat := fun i => bif Nat.beq i 1 then (0, [0, 1, 2, 3, 4, 5, 6, 7, 8, 9, 10, 11, 12, 13, 14, 15, 16, 17, 18, 19, 20, 21]) else (0, [])
theorem R.q82 (h : F.q82 a0 a1 a2 a3 a4 H K) : HT prg 82 [a0, a1, a2, a3, a4].toArray H K :=
 HT_of_eq O.q82 mixed Try.func82 (by kernel_rfl) (by kernel_rfl) h
def F.q84 (a0 a1 : Value) (H : Hp) (K : Value → Hp → Prop) : Prop :=
 ob (vLenSl a0) fun b =>
 ob (vLenSl a1) fun c =>
 ob (vInt .neq b c) fun d =>
 cnd d
 (K (.bool false) H)
 (jn (fun σ4 H4 =>
 K (.bool true) H4) fun J4 =>
 ob (vLenSl a0) fun e =>
 lpE (fun Q6 σ6 H6 =>
 ob (vInt .lss (σ6 13) (σ6 12)) fun f =>
 cnd f
 (ob (vIx 1 (σ6 0) (σ6 13)) fun g =>
 ob (vLoad g H6) fun i =>
 ob (vIx 1 (σ6 1) (σ6 13)) fun j =>
 ob (vLoad j H6) fun k =>
 ob (vInt .neq i k) fun l =>
 cnd l
 (Q6 .ret (up (up (up (up (up (up (up (up (up (up (up (up (up σ6 14 f) 15 (σ6 13)) 5 (σ6 13)) 16 (σ6 0)) 17 (σ6 13)) 18 g) 19 i) 20 (σ6 1)) 21 (σ6 13)) 22 j) 23 k) 24 l) 4 (.bool false)) H6)
 (ob (vInt .add (σ6 13) (.int .i64 1)) fun m =>
 Q6 .normal (up (up (up (up (up (up (up (up (up (up (up (up (up (up σ6 14 f) 15 (σ6 13)) 5 (σ6 13)) 16 (σ6 0)) 17 (σ6 13)) 18 g) 19 i) 20 (σ6 1)) 21 (σ6 13)) 22 j) 23 k) 24 l) 25 m) 13 m) H6))
 (Q6 (.exit 0) (up σ6 14 f) H6)) (blkQ 0 (thenQ J4 (retQ prg [(.tmp 4)] K))) (up (up (up (up (up (up (up (up (up (S0 [a0, a1]) 4 (.bool false)) 6 a0) 7 b) 8 a1) 9 c) 10 d) 11 a0) 12 e) 13 (.int .i64 0)) H)
def O.q84 : Nat → Nat × List Nat := fun i => bif Nat.beq i 6 then (0, [0, 1, 2, 3, 4, 5, 6, 7, 8]) else (0, [])
theorem R.q84 (h : F.q84 a0 a1 H K) : HT prg 84 [a0, a1].toArray H K :=
 HT_of_eq O.q84 mixed Try.func84 (by kernel_rfl) (by kernel_rfl) h
end Go.Proofs.Ythmdmbbdjbhcoaa
/- Functions' texts over a partial heap. -/
namespace Go.Proofs.Ythmdmbbdjbhcoaa
open HL
variable {a0 a1 a2 a3 a4 : Value} {H : Hp} {K : Value → Hp → Prop}
set_option linter.unusedVariables false
set_option maxRecDepth 100000
set_option maxHeartbeats 4000000
def F.q37 (a0 : Value) (H : Hp) (K : Value → Hp → Prop) : Prop :=
 nw #[(.int .i64 0), (.int .i64 0), (.slice none 0 0)] 49 H fun b H2 =>
 nw #[(.bool false)] 4 H2 fun c H4 =>
 ob (vLenSl a0) fun d =>
 ob (vInt .eql d (.int .i64 0)) fun e =>
 gop e false (fun K7 => K7 a0 H4) H4 fun f H9 =>
 gop e false (fun K10 => ob (vLenSl f) fun u => K10 u H9) H9 fun g H12 =>
 gop e false (fun K13 => ob (vInt .gtr g (.int .i64 1024)) fun u => K13 u H12) H12 fun i H15 =>
 ob (vPick e (.bool true) i) fun j =>
 gop j false (fun K17 => K17 a0 H15) H15 fun k H19 =>
 gop j false (fun K20 => ob (vLenSl k) fun u => K20 u H19) H19 fun l H22 =>
 gop j false (fun K23 => ob (vInt .rem l (.int .i64 4)) fun u => K23 u H22) H22 fun m H25 =>
 gop j false (fun K26 => ob (vInt .neq m (.int .i64 0)) fun u => K26 u H25) H25 fun n H28 =>
 ob (vPick j (.bool true) n) fun p =>
 cnd p
 (ob (vBuild [(0, 1), (1, 1), (2, 1)] (.agg #[(.int .i64 0), (.int .i64 0), (.slice none 0 0)]) []) fun q =>
 st 3 b q H28 fun H31 =>
 st 1 c (.bool false) H31 fun H32 =>
 ob (vLoadN 3 b H32) fun u33 => ob (vLoad c H32) fun u34 => K (.tuple #[u33, u34]) H32)
 (bS 1 1 #[(.int .i64 0)] 2 [(0, (.int .i64 0))] H28 fun r H36 =>
 ob (vBuild [(0, 1), (1, 1), (2, 1)] (.agg #[(.int .i64 0), (.int .i64 0), (.slice none 0 0)]) [(0, (.int .i64 1)), (1, (.int .i64 1)), (2, r)]) fun s =>
 bS 1 1 #[(.int .i64 0)] 2 [(0, (.int .i64 1))] H36 fun t H39 =>
 ob (vBuild [(0, 1), (1, 1), (2, 1)] (.agg #[(.int .i64 0), (.int .i64 0), (.slice none 0 0)]) [(0, (.int .i64 1)), (1, (.int .i64 1)), (2, t)]) fun w =>
 bS 3 2 #[(.int .i64 0), (.int .i64 0), (.slice none 0 0)] 49 [(0, s), (1, w)] H39 fun x H42 =>
 nw #[(.slice none 0 0)] 102 H42 fun y H44 =>
 st 1 y x H44 fun H45 =>
 jn (fun σ46 H46 =>
 ob (vLoad (σ46 4) H46) fun z =>
 ob (vLoad (σ46 4) H46) fun b0 =>
 ob (vLenSl b0) fun c0 =>
 ob (vInt .sub c0 (.int .i64 1)) fun d0 =>
 ob (vIx 3 z d0) fun e0 =>
 ob (vLoadN 3 e0 H46) fun f0 =>
 nw #[(.int .i64 0), (.int .i64 0), (.slice none 0 0)] 49 H46 fun g0 H54 =>
 st 3 g0 f0 H54 fun H55 =>
 ob (vLoadN 3 g0 H55) fun i0 =>
 HT prg 66 [i0].toArray H55 fun j0 H58 =>
 ob (vUn .not j0) fun k0 =>
 gop k0 false (fun K60 => ob (vLoadN 3 g0 H58) fun u => K60 u H58) H58 fun l0 H62 =>
 gop k0 false (fun K63 => HT prg 74 [l0].toArray H62 K63) H62 fun m0 H65 =>
 gop k0 false (fun K66 => K66 (σ46 0) H65) H65 fun n0 H68 =>
 gop k0 false (fun K69 => HT prg 84 [m0, n0].toArray H68 K69) H68 fun p0 H71 =>
 gop k0 false (fun K72 => ob (vUn .not p0) fun u => K72 u H71) H71 fun q0 H74 =>
 ob (vPick k0 (.bool true) q0) fun r0 =>
 cnd r0
 (ob (vBuild [(0, 1), (1, 1), (2, 1)] (.agg #[(.int .i64 0), (.int .i64 0), (.slice none 0 0)]) []) fun s0 =>
 st 3 (σ46 2) s0 H74 fun H77 =>
 st 1 (σ46 3) (.bool false) H77 fun H78 =>
 ob (vLoadN 3 (σ46 2) H78) fun u79 => ob (vLoad (σ46 3) H78) fun u80 => K (.tuple #[u79, u80]) H78)
 (ob (vLoadN 3 g0 H74) fun t0 =>
 st 3 (σ46 2) t0 H74 fun H82 =>
 st 1 (σ46 3) (.bool true) H82 fun H83 =>
 ob (vLoadN 3 (σ46 2) H83) fun u84 => ob (vLoad (σ46 3) H83) fun u85 => K (.tuple #[u84, u85]) H83)) fun J46 =>
 HT prg 79 [a0, (.int .i64 4)].toArray H45 fun w0 H87 =>
 rgE prg w0 [32] (fun Q88 σ88 H88 =>
 nw #[(.slice none 0 0)] 22 H88 fun x0 H90 =>
 st 1 x0 (σ88 32) H90 fun H91 =>
 jn (fun σ92 H92 =>
 ob (vLoad (σ92 4) H92) fun y0 =>
 ob (vLoad (σ92 5) H92) fun z0 =>
 ob (vIx 1 z0 (.int .i64 0)) fun b1 =>
 ob (vLoad b1 H92) fun c1 =>
 ob (vIx 3 y0 c1) fun d1 =>
 ob (vFa 0 d1) fun e1 =>
 ob (vLoad e1 H92) fun f1 =>
 nw #[(.int .i64 0)] 2 H92 fun g1 H101 =>
 st 1 g1 f1 H101 fun H102 =>
 ob (vLoad (σ92 4) H102) fun i1 =>
 ob (vLoad g1 H102) fun j1 =>
 ob (vInt .mul (.int .i64 2) j1) fun k1 =>
 ob (vLoad g1 H102) fun l1 =>
 ob (vInt .mul (.int .i64 2) l1) fun m1 =>
 HT prg 81 [k1, m1, (.func (.func 82) #[] #[(σ92 4), (σ92 5), g1])].toArray H102 fun n1 H109 =>
 Le H102 H109 ∧ (bS 3 1 #[(.int .i64 0), (.int .i64 0), (.slice none 0 0)] 49 [(0, n1)] H109 fun p1 H111 =>
 apd 3 40 #[(.int .i64 0), (.int .i64 0), (.slice none 0 0)] 49 i1 p1 H111 fun q1 H113 =>
 st 1 (σ92 4) q1 H113 fun H114 =>
 Q88 .normal (up (up (up (up (up (up (up (up (up (up (up (up (up (up (up (up (up σ92 70 y0) 71 z0) 72 b1) 73 c1) 74 d1) 75 e1) 76 f1) 8 g1) 77 i1) 78 j1) 79 k1) 80 l1) 81 m1) 82 (.func (.func 82) #[] #[(σ92 4), (σ92 5), g1])) 83 n1) 84 p1) 85 q1) H114)) fun J92 =>
 ob (vLoad x0 H91) fun r1 =>
 ob (vLenSl r1) fun s1 =>
 lpE (fun Q117 σ117 H117 =>
 ob (vInt .lss (σ117 35) (σ117 34)) fun t1 =>
 cnd t1
 (ob (vIx 1 (σ117 33) (σ117 35)) fun w1 =>
 ob (vLoad w1 H117) fun x1 =>
 ob (vLoad (σ117 4) H117) fun y1 =>
 ob (vLenSl y1) fun z1 =>
 ob (vInt .sub z1 (.int .i64 1)) fun b2 =>
 HT prg 80 [x1, (.int .i64 0), b2].toArray H117 fun c2 H125 =>
 Le H117 H125 ∧ (ob (vUn .not c2) fun d2 =>
 gop d2 false (fun K127 => ob (vLoad (σ117 4) H125) fun u => K127 u H125) H125 fun e2 H129 =>
 gop d2 false (fun K130 => K130 x1 H129) H129 fun f2 H132 =>
 gop d2 false (fun K133 => ob (vIx 3 e2 f2) fun u => K133 u H132) H132 fun g2 H135 =>
 gop d2 false (fun K136 => ob (vFa 0 g2) fun u => K136 u H135) H135 fun i2 H138 =>
 gop d2 false (fun K139 => ob (vLoad i2 H138) fun u => K139 u H138) H138 fun j2 H141 =>
 gop d2 false (fun K142 => ob (vLoad (σ117 4) H141) fun u => K142 u H141) H141 fun k2 H144 =>
 gop d2 false (fun K145 => ob (vLoad (σ117 5) H144) fun u => K145 u H144) H144 fun l2 H147 =>
 gop d2 false (fun K148 => ob (vIx 1 l2 (.int .i64 0)) fun u => K148 u H147) H147 fun m2 H150 =>
 gop d2 false (fun K151 => ob (vLoad m2 H150) fun u => K151 u H150) H150 fun n2 H153 =>
 gop d2 false (fun K154 => ob (vIx 3 k2 n2) fun u => K154 u H153) H153 fun p2 H156 =>
 gop d2 false (fun K157 => ob (vFa 0 p2) fun u => K157 u H156) H156 fun q2 H159 =>
 gop d2 false (fun K160 => ob (vLoad q2 H159) fun u => K160 u H159) H159 fun r2 H162 =>
 gop d2 false (fun K163 => ob (vInt .neq j2 r2) fun u => K163 u H162) H162 fun s2 H165 =>
 ob (vPick d2 (.bool true) s2) fun t2 =>
 gop t2 false (fun K167 => ob (vLoad (σ117 4) H165) fun u => K167 u H165) H165 fun w2 H169 =>
 gop t2 false (fun K170 => K170 x1 H169) H169 fun x2 H172 =>
 gop t2 false (fun K173 => ob (vIx 3 w2 x2) fun u => K173 u H172) H172 fun y2 H175 =>
 gop t2 false (fun K176 => ob (vFa 0 y2) fun u => K176 u H175) H175 fun z2 H178 =>
 gop t2 false (fun K179 => ob (vLoad z2 H178) fun u => K179 u H178) H178 fun b3 H181 =>
 gop t2 false (fun K182 => ob (vInt .gtr b3 (.int .i64 8)) fun u => K182 u H181) H181 fun c3 H184 =>
 ob (vPick t2 (.bool true) c3) fun d3 =>
 cnd d3
 (ob (vBuild [(0, 1), (1, 1), (2, 1)] (.agg #[(.int .i64 0), (.int .i64 0), (.slice none 0 0)]) []) fun e3 =>
 st 3 (σ117 2) e3 H184 fun H187 =>
 st 1 (σ117 3) (.bool false) H187 fun H188 =>
 Q117 .ret (up (up (up (up (up (up (up (up (up (up (up (up (up (up (up (up (up (up (up (up (up (up (up (up (up (up (up (up (up (up (up (up (up (up σ117 36 t1) 37 w1) 38 x1) 7 x1) 39 x1) 40 y1) 41 z1) 42 b2) 43 c2) 44 d2) 45 d2) 46 e2) 47 f2) 48 g2) 49 i2) 50 j2) 51 k2) 52 l2) 53 m2) 54 n2) 55 p2) 56 q2) 57 r2) 58 s2) 59 t2) 60 t2) 61 w2) 62 x2) 63 y2) 64 z2) 65 b3) 66 c3) 67 d3) 68 e3) H188)
 (ob (vInt .add (σ117 35) (.int .i64 1)) fun f3 =>
 Q117 .normal (up (up (up (up (up (up (up (up (up (up (up (up (up (up (up (up (up (up (up (up (up (up (up (up (up (up (up (up (up (up (up (up (up (up (up σ117 36 t1) 37 w1) 38 x1) 7 x1) 39 x1) 40 y1) 41 z1) 42 b2) 43 c2) 44 d2) 45 d2) 46 e2) 47 f2) 48 g2) 49 i2) 50 j2) 51 k2) 52 l2) 53 m2) 54 n2) 55 p2) 56 q2) 57 r2) 58 s2) 59 t2) 60 t2) 61 w2) 62 x2) 63 y2) 64 z2) 65 b3) 66 c3) 67 d3) 69 f3) 35 f3) H184)))
 (Q117 (.exit 2) (up σ117 36 t1) H117)) (blkQ 2 (thenQ J92 (blkQ 1 Q88))) (up (up (up (up σ88 5 x0) 33 r1) 34 s1) 35 (.int .i64 0)) H91) (blkQ 0 (thenQ J46 (retQ prg [(.cell 2 49), (.cell 3 4)] K))) (up (up (up (up (up (up (up (up (up (up (up (up (up (up (up (up (up (up (up (up (up (up (up (up (S0 [a0]) 2 b) 3 c) 10 a0) 11 d) 12 e) 13 e) 14 f) 15 g) 16 i) 17 j) 18 j) 19 k) 20 l) 21 m) 22 n) 23 p) 25 r) 26 s) 27 t) 28 w) 29 x) 4 y) 30 a0) 31 w0) H87)
def O.q37 : Nat → Nat × List Nat := fun i => bif Nat.beq i 12 then (0, [0, 1, 2, 3, 4, 5, 6, 7, 8]) else bif Nat.beq i 13 then (0, [0, 1, 2, 3, 4, 5, 6, 7, 8, 9]) else bif Nat.beq i 9 then (0, [0, 1, 2, 3, 4, 5, 6, 7, 8, 9, 10, 11, 12, 13, 14, 15, 16, 17, 18, 19, 20, 21, 22, 23, 24, 25, 26, 27, 28]) else (0, [])
theorem R.q37 (h : F.q37 a0 H K) : HT prg 37 [a0].toArray H K :=
 HT_of_eq O.q37 mixed Try.func37 (by kernel_rfl) (by kernel_rfl) h
def F.q72 (a0 a1 : Value) (H : Hp) (K : Value → Hp → Prop) : Prop :=
 nw #[(.int .i64 0), (.int .i64 0), (.slice none 0 0)] 49 H fun b H2 =>
 ob (vInt .mul a0 a1) fun c =>
 mkS 1 8 #[(.int .i64 0)] 2 c c H2 fun d H5 =>
 ob (vBuild [(0, 1), (1, 1), (2, 1)] (.agg #[(.int .i64 0), (.int .i64 0), (.slice none 0 0)]) [(0, a0), (1, a1), (2, d)]) fun e =>
 st 3 b e H5 fun H7 =>
 ob (vLoadN 3 b H7) fun u8 => K u8 H7
theorem R.q72 (h : F.q72 a0 a1 H K) : HT prg 72 [a0, a1].toArray H K :=
 HT_of_eq O0 mixed Try.func72 (by kernel_rfl) (by kernel_rfl) h
def F.q87 (a0 a1 : Value) (H : Hp) (K : Value → Hp → Prop) : Prop :=
 ob (vLenSl a0) fun b =>
 ob (vLenSl a1) fun c =>
 ob (vInt .neq b c) fun d =>
 cnd d
 (K (.bool false) H)
 (jn (fun σ4 H4 =>
 K (.bool true) H4) fun J4 =>
 lpE (fun Q5 σ5 H5 =>
 ob (vLenSl (σ5 0)) fun e =>
 ob (vInt .lss (σ5 5) e) fun f =>
 cnd f
 (ob (vIx 1 (σ5 0) (σ5 5)) fun g =>
 ob (vLoad g H5) fun i =>
 ob (vIx 1 (σ5 1) (σ5 5)) fun j =>
 ob (vLoad j H5) fun k =>
 ob (vInt .neq i k) fun l =>
 cnd l
 (Q5 .ret (up (up (up (up (up (up (up (up (up (up (up (up (up (up σ5 11 (σ5 5)) 12 (σ5 0)) 13 e) 14 f) 17 (σ5 0)) 18 (σ5 5)) 19 g) 20 i) 21 (σ5 1)) 22 (σ5 5)) 23 j) 24 k) 25 l) 4 (.bool false)) H5)
 (ob (vInt .add (σ5 5) (.int .i64 1)) fun m =>
 Q5 .normal (up (up (up (up (up (up (up (up (up (up (up (up (up (up (up (up σ5 11 (σ5 5)) 12 (σ5 0)) 13 e) 14 f) 17 (σ5 0)) 18 (σ5 5)) 19 g) 20 i) 21 (σ5 1)) 22 (σ5 5)) 23 j) 24 k) 25 l) 15 (σ5 5)) 16 m) 5 m) H5))
 (Q5 (.exit 0) (up (up (up (up σ5 11 (σ5 5)) 12 (σ5 0)) 13 e) 14 f) H5)) (blkQ 0 (thenQ J4 (retQ prg [(.tmp 4)] K))) (up (up (up (up (up (up (up (S0 [a0, a1]) 4 (.bool false)) 6 a0) 7 b) 8 a1) 9 c) 10 d) 5 (.int .i64 0)) H)
def O.q87 : Nat → Nat × List Nat := fun i => bif Nat.beq i 6 then (0, [0, 1, 2, 3, 4, 5, 6, 7, 8]) else (0, [])
theorem R.q87 (h : F.q87 a0 a1 H K) : HT prg 87 [a0, a1].toArray H K :=
 HT_of_eq O.q87 mixed Try.func87 (by kernel_rfl) (by kernel_rfl) h
def F.q117 (a0 a1 a2 a3 a4 : Value) (H : Hp) (K : Value → Hp → Prop) : Prop :=
 ob (vInt .eql a3 (.int .i64 1)) fun b =>
 cnd b
 (ob (vNilC a0) fun c =>
 ob (vFa 2 c) fun d =>
 ob (vLoad d H) fun e =>
 ob (vNilC a0) fun f =>
 ob (vFa 1 f) fun g =>
 ob (vLoad g H) fun i =>
 ob (vInt .mul a1 i) fun j =>
 ob (vInt .add j a2) fun k =>
 ob (vIx 1 e k) fun l =>
 ob (vLoad l H) fun m =>
 K (.tuple #[m, a4]) H)
 (ob (vInt .quo a3 (.int .i64 2)) fun n =>
 bS 1 0 #[(.int .i64 0)] 2 [] H fun p H14 =>
 jn (fun σ15 H15 =>
 jn (fun σ16 H16 =>
 ob (vLenSl (σ16 4)) fun q =>
 ob (vInt .quo q (.int .i64 4)) fun r =>
 ob (vInt .add r (.int .i64 2)) fun s =>
 apd 1 8 #[(.int .i64 0)] 2 (σ16 4) (σ16 13) H16 fun t H21 =>
 K (.tuple #[s, t]) H21) fun J16 =>
 lpE (fun Q22 σ22 H22 =>
 ob (vLenSl (σ22 4)) fun w =>
 ob (vInt .lss (σ22 17) w) fun x =>
 cnd x
 (ob (vInt .add (σ22 17) (.int .i64 4)) fun y =>
 ob (vSl3 1 (σ22 4) (some (σ22 17)) (some y) none) fun z =>
 HT prg 87 [z, (σ22 13)].toArray H22 fun b0 H28 =>
 cnd b0
 (ob (vInt .quo (σ22 17) (.int .i64 4)) fun c0 =>
 ob (vInt .add c0 (.int .i64 2)) fun d0 =>
 Q22 .ret (up (up (up (up (up (up (up (up (up (up (up (up (up (up (up (up (up σ22 66 (σ22 17)) 67 (σ22 4)) 68 w) 69 x) 72 (σ22 4)) 73 (σ22 17)) 74 (σ22 17)) 75 y) 76 z) 77 (σ22 13)) 78 b0) 79 (σ22 17)) 80 c0) 81 d0) 82 (σ22 4)) 10 d0) 11 (σ22 4)) H28)
 (ob (vInt .add (σ22 17) (.int .i64 4)) fun e0 =>
 Q22 .normal (up (up (up (up (up (up (up (up (up (up (up (up (up (up σ22 66 (σ22 17)) 67 (σ22 4)) 68 w) 69 x) 72 (σ22 4)) 73 (σ22 17)) 74 (σ22 17)) 75 y) 76 z) 77 (σ22 13)) 78 b0) 70 (σ22 17)) 71 e0) 17 e0) H28))
 (Q22 (.exit 2) (up (up (up (up σ22 66 (σ22 17)) 67 (σ22 4)) 68 w) 69 x) H22)) (blkQ 2 (thenQ J16 (retQ prg [(.tmp 10), (.tmp 11)] K))) (up σ15 17 (.int .i64 0)) H15) fun J15 =>
 lpE (fun Q32 σ32 H32 =>
 ob (vInt .lss (σ32 14) (.int .i64 4)) fun f0 =>
 cnd f0
 (ob (vInt .quo (σ32 14) (.int .i64 2)) fun g0 =>
 ob (vInt .mul g0 (σ32 12)) fun i0 =>
 ob (vInt .add (σ32 1) i0) fun j0 =>
 ob (vInt .rem (σ32 14) (.int .i64 2)) fun k0 =>
 ob (vInt .mul k0 (σ32 12)) fun l0 =>
 ob (vInt .add (σ32 2) l0) fun m0 =>
 HT prg 117 [(σ32 0), j0, m0, (σ32 12), (σ32 4)].toArray H32 fun n0 H41 =>
 ob (vExt n0 0) fun p0 =>
 ob (vExt n0 1) fun q0 =>
 bS 1 1 #[(.int .i64 0)] 2 [(0, p0)] H41 fun r0 H45 =>
 apd 1 8 #[(.int .i64 0)] 2 (σ32 13) r0 H45 fun s0 H47 =>
 ob (vInt .add (σ32 14) (.int .i64 1)) fun t0 =>
 Q32 .normal (up (up (up (up (up (up (up (up (up (up (up (up (up (up (up (up (up (up (up (up (up (up (up (up (up (up (up (up (up (up (up (up (up σ32 38 (σ32 14)) 39 f0) 43 (σ32 0)) 44 (σ32 1)) 45 (σ32 14)) 46 g0) 47 (σ32 12)) 48 i0) 49 j0) 50 (σ32 2)) 51 (σ32 14)) 52 k0) 53 (σ32 12)) 54 l0) 55 m0) 56 (σ32 12)) 57 (σ32 4)) 58 n0) 42 n0) 59 p0) 60 q0) 15 p0) 16 q0) 61 q0) 4 q0) 62 (σ32 13)) 63 p0) 64 r0) 65 s0) 13 s0) 40 (σ32 14)) 41 t0) 14 t0) H47)
 (Q32 (.exit 0) (up (up σ32 38 (σ32 14)) 39 f0) H32)) (blkQ 0 (thenQ J15 (retQ prg [(.tmp 10), (.tmp 11)] K))) (up (up (up (up (up (up (up (up (up (up (S0 [a0, a1, a2, a3, a4]) 10 (.int .i64 0)) 11 (.slice none 0 0)) 18 a3) 19 b) 35 a3) 36 n) 12 n) 37 p) 13 p) 14 (.int .i64 0)) H14)
def O.q117 : Nat → Nat × List Nat := fun i => bif Nat.beq i 2 then (0, [0, 1, 2, 3, 4, 5, 6, 7, 8, 9, 10, 11, 12, 13, 14, 15, 16]) else (0, [])
theorem R.q117 (h : F.q117 a0 a1 a2 a3 a4 H K) : HT prg 117 [a0, a1, a2, a3, a4].toArray H K :=
 HT_of_eq O.q117 mixed Try.func117 (by kernel_rfl) (by kernel_rfl) h
def F.q76 (a0 : Value) (H : Hp) (K : Value → Hp → Prop) : Prop :=
 ob (vNilC a0) fun b =>
 ob (vFa 0 b) fun c =>
 ob (vLoad c H) fun d =>
 bS 1 0 #[(.int .i64 0)] 2 [] H fun e H5 =>
 HT prg 117 [a0, (.int .i64 0), (.int .i64 0), d, e].toArray H5 fun f H7 =>
 ob (vExt f 0) fun g =>
 ob (vExt f 1) fun i =>
 K i H7
theorem R.q76 (h : F.q76 a0 H K) : HT prg 76 [a0].toArray H K :=
 HT_of_eq O0 mixed Try.func76 (by kernel_rfl) (by kernel_rfl) h
def F.q62 (a0 a1 : Value) (H : Hp) (K : Value → Hp → Prop) : Prop :=
 HT prg 57 [a0, a1].toArray H fun b H2 =>
 ob (vInt .eql b (.int .i64 0)) fun c =>
 K c H2
theorem R.q62 (h : F.q62 a0 a1 H K) : HT prg 62 [a0, a1].toArray H K :=
 HT_of_eq O0 mixed Try.func62 (by kernel_rfl) (by kernel_rfl) h
def F.q63 (a0 : Value) (H : Hp) (K : Value → Hp → Prop) : Prop :=
 nw #[(.slice none 0 0), (.slice none 0 0)] 46 H fun b H2 =>
 bS 1 1 #[(.int .i64 0)] 2 [(0, (.int .i64 3))] H2 fun c H4 =>
 bS 1 2 #[(.int .i64 0)] 2 [(0, (.int .i64 2)), (1, (.int .i64 3))] H4 fun d H6 =>
 ob (vBuild [(0, 1), (1, 1)] (.agg #[(.slice none 0 0), (.slice none 0 0)]) [(0, c), (1, d)]) fun e =>
 nw #[(.slice none 0 0), (.slice none 0 0)] 46 H6 fun f H9 =>
 st 2 f e H9 fun H10 =>
 jn (fun σ11 H11 =>
 ob (vLoadN 2 (σ11 3) H11) fun g =>
 st 2 (σ11 2) g H11 fun H13 =>
 ob (vLoadN 2 (σ11 2) H13) fun u14 => K u14 H13) fun J11 =>
 HT prg 62 [a0, (.int .i64 2)].toArray H10 fun i H16 =>
 cnd i
 (bS 1 0 #[(.int .i64 0)] 2 [] H16 fun j H18 =>
 bS 1 0 #[(.int .i64 0)] 2 [] H18 fun k H20 =>
 ob (vBuild [(0, 1), (1, 1)] (.agg #[(.slice none 0 0), (.slice none 0 0)]) [(0, j), (1, k)]) fun l =>
 st 2 f l H20 fun H22 =>
 lpE (fun Q23 σ23 H23 =>
 ob (vInt .lss (σ23 4) (.int .i64 9)) fun m =>
 cnd m
 (HT prg 62 [(σ23 0), (.int .i64 3)].toArray H23 fun n H26 =>
 cnd n
 (ob (vFa 0 (σ23 3)) fun p =>
 ob (vLoad p H26) fun q =>
 bS 1 1 #[(.int .i64 0)] 2 [(0, (σ23 4))] H26 fun r H30 =>
 apd 1 8 #[(.int .i64 0)] 2 q r H30 fun s H32 =>
 ob (vFa 0 (σ23 3)) fun t =>
 st 1 t s H32 fun H34 =>
 HT prg 62 [(σ23 0), (.int .i64 3)].toArray H34 fun w H36 =>
 cnd w
 (ob (vFa 1 (σ23 3)) fun x =>
 ob (vLoad x H36) fun y =>
 bS 1 1 #[(.int .i64 0)] 2 [(0, (σ23 4))] H36 fun z H40 =>
 apd 1 8 #[(.int .i64 0)] 2 y z H40 fun b0 H42 =>
 ob (vFa 1 (σ23 3)) fun c0 =>
 st 1 c0 b0 H42 fun H44 =>
 ob (vInt .add (σ23 4) (.int .i64 1)) fun d0 =>
 Q23 .normal (up (up (up (up (up (up (up (up (up (up (up (up (up (up (up (up (up (up (up (up (up σ23 13 (σ23 4)) 14 m) 17 (σ23 0)) 18 n) 19 p) 20 q) 21 (σ23 4)) 22 r) 23 s) 24 t) 25 (σ23 0)) 26 w) 27 x) 28 y) 29 (σ23 4)) 30 z) 31 b0) 32 c0) 15 (σ23 4)) 16 d0) 4 d0) H44)
 (ob (vInt .add (σ23 4) (.int .i64 1)) fun e0 =>
 Q23 .normal (up (up (up (up (up (up (up (up (up (up (up (up (up (up (up σ23 13 (σ23 4)) 14 m) 17 (σ23 0)) 18 n) 19 p) 20 q) 21 (σ23 4)) 22 r) 23 s) 24 t) 25 (σ23 0)) 26 w) 15 (σ23 4)) 16 e0) 4 e0) H36))
 (HT prg 62 [(σ23 0), (.int .i64 3)].toArray H26 fun f0 H48 =>
 cnd f0
 (ob (vFa 1 (σ23 3)) fun g0 =>
 ob (vLoad g0 H48) fun i0 =>
 bS 1 1 #[(.int .i64 0)] 2 [(0, (σ23 4))] H48 fun j0 H52 =>
 apd 1 8 #[(.int .i64 0)] 2 i0 j0 H52 fun k0 H54 =>
 ob (vFa 1 (σ23 3)) fun l0 =>
 st 1 l0 k0 H54 fun H56 =>
 ob (vInt .add (σ23 4) (.int .i64 1)) fun m0 =>
 Q23 .normal (up (up (up (up (up (up (up (up (up (up (up (up (up (up (up σ23 13 (σ23 4)) 14 m) 17 (σ23 0)) 18 n) 25 (σ23 0)) 26 f0) 27 g0) 28 i0) 29 (σ23 4)) 30 j0) 31 k0) 32 l0) 15 (σ23 4)) 16 m0) 4 m0) H56)
 (ob (vInt .add (σ23 4) (.int .i64 1)) fun n0 =>
 Q23 .normal (up (up (up (up (up (up (up (up (up σ23 13 (σ23 4)) 14 m) 17 (σ23 0)) 18 n) 25 (σ23 0)) 26 f0) 15 (σ23 4)) 16 n0) 4 n0) H48)))
 (Q23 (.exit 0) (up (up σ23 13 (σ23 4)) 14 m) H23)) (blkQ 0 (thenQ J11 (retQ prg [(.cell 2 46)] K))) (up (up (up (up (up (up (up (up (up (up (up (S0 [a0]) 2 b) 5 c) 6 d) 7 e) 3 f) 8 a0) 9 i) 10 j) 11 k) 12 l) 4 (.int .i64 1)) H22)
 (J11 (up (up (up (up (up (up (up (S0 [a0]) 2 b) 5 c) 6 d) 7 e) 3 f) 8 a0) 9 i) H16)
theorem R.q63 (h : F.q63 a0 H K) : HT prg 63 [a0].toArray H K :=
 HT_of_eq O0 mixed Try.func63 (by kernel_rfl) (by kernel_rfl) h
def F.q27 (a0 : Value) (H : Hp) (K : Value → Hp → Prop) : Prop :=
 nw #[(.slice none 0 0), (.slice none 0 0)] 46 H fun b H2 =>
 HT prg 54 [a0].toArray H2 fun c H4 =>
 HT prg 62 [c, (.int .i64 2)].toArray H4 fun d H6 =>
 cnd d
 (bS 1 1 #[(.int .i64 0)] 2 [(0, (.int .i64 3))] H6 fun e H8 =>
 bS 1 2 #[(.int .i64 0)] 2 [(0, (.int .i64 2)), (1, (.int .i64 3))] H8 fun f H10 =>
 ob (vBuild [(0, 1), (1, 1)] (.agg #[(.slice none 0 0), (.slice none 0 0)]) [(0, e), (1, f)]) fun g =>
 st 2 b g H10 fun H12 =>
 ob (vLoadN 2 b H12) fun u13 => K u13 H12)
 (HT prg 63 [c].toArray H6 fun i H15 =>
 st 2 b i H15 fun H16 =>
 ob (vLoadN 2 b H16) fun u17 => K u17 H16)
theorem R.q27 (h : F.q27 a0 H K) : HT prg 27 [a0].toArray H K :=
 HT_of_eq O0 mixed Try.func27 (by kernel_rfl) (by kernel_rfl) h
def F.qx31 (a0 a1 a2 a3 : Value) (H : Hp) (K : Value → Hp → Prop) : Prop :=
 nw #[(.int .i64 0), (.int .i64 0), (.slice none 0 0)] 49 H fun b H2 =>
 ob (vBuild [(0, 1), (1, 1), (2, 1)] (.agg #[(.int .i64 0), (.int .i64 0), (.slice none 0 0)]) [(0, a1), (1, a2)]) fun c =>
 nw #[(.int .i64 0), (.int .i64 0), (.slice none 0 0)] 49 H2 fun d H5 =>
 st 3 d c H5 fun H6 =>
 jn (fun σ7 H7 =>
 ob (vLoadN 3 (σ7 9) H7) fun e =>
 st 3 (σ7 8) e H7 fun H9 =>
 ob (vLoadN 3 (σ7 8) H9) fun u10 => K u10 H9) fun J7 =>
 ob (vInt .mul a1 a2) fun f =>
 lpE (fun Q12 σ12 H12 =>
 ob (vInt .gtr (σ12 10) (.int .i64 0)) fun g =>
 cnd g
 ((ob (vFa 2 (σ12 9)) fun i =>
 ob (vLoad i H12) fun j =>
 HT prg 57 [(σ12 0), (σ12 3)].toArray H12 fun k H17 =>
 bS 1 1 #[(.int .i64 0)] 2 [(0, k)] H17 fun l H19 =>
 apd 1 8 #[(.int .i64 0)] 2 j l H19 fun m H21 =>
 ob (vFa 2 (σ12 9)) fun n =>
 st 1 n m H21 fun H23 =>
 ob (vInt .sub (σ12 10) (.int .i64 1)) fun p =>
 Q12 .normal (up (up (up (up (up (up (up (up (up (up (up (up (up σ12 17 (σ12 10)) 18 g) 21 i) 22 j) 23 (σ12 0)) 24 (σ12 3)) 25 k) 26 l) 27 m) 28 n) 19 (σ12 10)) 20 p) 10 p) H23) ∧ (ob (vFa 2 (σ12 9)) fun q =>
 HT prg 57 [(σ12 0), (σ12 3)].toArray H12 fun r H27 =>
 ob (vLoad q H27) fun s =>
 bS 1 1 #[(.int .i64 0)] 2 [(0, r)] H27 fun t H30 =>
 apd 1 8 #[(.int .i64 0)] 2 s t H30 fun w H32 =>
 ob (vFa 2 (σ12 9)) fun x =>
 st 1 x w H32 fun H34 =>
 ob (vInt .sub (σ12 10) (.int .i64 1)) fun y =>
 Q12 .normal (up (up (up (up (up (up (up (up (up (up (up (up (up σ12 17 (σ12 10)) 18 g) 21 q) 23 (σ12 0)) 24 (σ12 3)) 25 r) 22 s) 26 t) 27 w) 28 x) 19 (σ12 10)) 20 y) 10 y) H34))
 (Q12 (.exit 0) (up (up σ12 17 (σ12 10)) 18 g) H12)) (blkQ 0 (thenQ J7 (retQ prg [(.cell 8 49)] K))) (up (up (up (up (up (up (up (up (up (S0 [a0, a1, a2, a3]) 8 b) 11 a1) 12 a2) 13 c) 9 d) 14 a1) 15 a2) 16 f) 10 f) H6
def O.qx31 : Nat → Nat × List Nat := fun i => bif Nat.beq i 5 then (2, [1001, 1004, 0, 1, 2, 3, 4, 5, 6, 7, 8, 0, 2, 3, 4, 1, 5, 6, 7, 8]) else (0, [])
theorem R.qx31 (h : F.qx31 a0 a1 a2 a3 H K) : HT prg 106 [a0, a1, a2, a3].toArray H K :=
 HT_of_eq O.qx31 mixed Try.func106 (by kernel_rfl) (by kernel_rfl) h
def F.q64 (a0 a1 a2 : Value) (H : Hp) (K : Value → Hp → Prop) : Prop :=
 nw #[(.int .i64 0), (.int .i64 0), (.slice none 0 0)] 49 H fun b H2 =>
 HT prg 106 [a0, a1, a2, (.int .i64 2)].toArray H2 fun c H4 =>
 st 3 b c H4 fun H5 =>
 ob (vLoadN 3 b H5) fun u6 => K u6 H5
theorem R.q64 (h : F.q64 a0 a1 a2 H K) : HT prg 64 [a0, a1, a2].toArray H K :=
 HT_of_eq O0 mixed Try.func64 (by kernel_rfl) (by kernel_rfl) h
def F.q28 (a0 a1 a2 : Value) (H : Hp) (K : Value → Hp → Prop) : Prop :=
 nw #[(.int .i64 0), (.int .i64 0), (.slice none 0 0)] 49 H fun b H2 =>
 HT prg 54 [a0].toArray H2 fun c H4 =>
 HT prg 64 [c, a1, a2].toArray H4 fun d H6 =>
 st 3 b d H6 fun H7 =>
 ob (vLoadN 3 b H7) fun u8 => K u8 H7
theorem R.q28 (h : F.q28 a0 a1 a2 H K) : HT prg 28 [a0, a1, a2].toArray H K :=
 HT_of_eq O0 mixed Try.func28 (by kernel_rfl) (by kernel_rfl) h
def F.q107 (a0 : Value) (H : Hp) (K : Value → Hp → Prop) : Prop :=
 jn (fun σ1 H1 =>
 HT prg 138 [(σ1 0), (.int .i64 0), (.int .i64 8)].toArray H1 fun b H3 =>
 K b H3) fun J1 =>
 lpE (fun Q4 σ4 H4 =>
 ob (vLenSl (σ4 0)) fun c =>
 ob (vInt .lss (σ4 3) c) fun d =>
 cnd d
 (ob (vIx 1 (σ4 0) (σ4 3)) fun e =>
 ob (vLoad e H4) fun f =>
 ob (vInt .sub (σ4 3) (.int .i64 1)) fun g =>
 ob (vIx 1 (σ4 0) g) fun i =>
 ob (vLoad i H4) fun j =>
 ob (vInt .leq f j) fun k =>
 cnd k
 (Q4 .ret (up (up (up (up (up (up (up (up (up (up (up (up (up (up (up σ4 4 (σ4 3)) 5 (σ4 0)) 6 c) 7 d) 10 (σ4 0)) 11 (σ4 3)) 12 e) 13 f) 14 (σ4 0)) 15 (σ4 3)) 16 g) 17 i) 18 j) 19 k) 2 (.bool false)) H4)
 (ob (vInt .add (σ4 3) (.int .i64 1)) fun l =>
 Q4 .normal (up (up (up (up (up (up (up (up (up (up (up (up (up (up (up (up (up σ4 4 (σ4 3)) 5 (σ4 0)) 6 c) 7 d) 10 (σ4 0)) 11 (σ4 3)) 12 e) 13 f) 14 (σ4 0)) 15 (σ4 3)) 16 g) 17 i) 18 j) 19 k) 8 (σ4 3)) 9 l) 3 l) H4))
 (Q4 (.exit 0) (up (up (up (up σ4 4 (σ4 3)) 5 (σ4 0)) 6 c) 7 d) H4)) (blkQ 0 (thenQ J1 (retQ prg [(.tmp 2)] K))) (up (up (S0 [a0]) 2 (.bool false)) 3 (.int .i64 1)) H
def O.q107 : Nat → Nat × List Nat := fun i => bif Nat.beq i 4 then (0, [0, 1, 2, 3, 4, 5, 6, 7, 8, 9]) else (0, [])
theorem R.q107 (h : F.q107 a0 H K) : HT prg 107 [a0].toArray H K :=
 HT_of_eq O.q107 mixed Try.func107 (by kernel_rfl) (by kernel_rfl) h
def F.q65 (a0 : Value) (H : Hp) (K : Value → Hp → Prop) : Prop :=
 nw (a0 : Value).cells 46 H fun b H2 =>
 ob (vFa 0 b) fun c =>
 ob (vLoad c H2) fun d =>
 HT prg 107 [d].toArray H2 fun e H6 =>
 gop e true (fun K7 => ob (vFa 1 b) fun u => K7 u H6) H6 fun f H9 =>
 gop e true (fun K10 => ob (vLoad f H9) fun u => K10 u H9) H9 fun g H12 =>
 gop e true (fun K13 => HT prg 107 [g].toArray H12 K13) H12 fun i H15 =>
 ob (vPick e i (.bool false)) fun j =>
 K j H15
theorem R.q65 (h : F.q65 a0 H K) : HT prg 65 [a0].toArray H K :=
 HT_of_eq O0 mixed Try.func65 (by kernel_rfl) (by kernel_rfl) h
def F.q118 (a0 a1 a2 a3 a4 : Value) (H : Hp) (K : Value → Hp → Prop) : Prop :=
 ob (vLoadN 3 a2 H) fun b =>
 ob (vLoad a3 H) fun c =>
 ob (vInt .add c a0) fun d =>
 ob (vLoad a4 H) fun e =>
 ob (vInt .add e a1) fun f =>
 HT prg 83 [b, d, f].toArray H fun g H7 =>
 K g H7
theorem R.q118 (h : F.q118 a0 a1 a2 a3 a4 H K) : HT prg 118 [a0, a1, a2, a3, a4].toArray H K :=
 HT_of_eq O0 mixed Try.func118 (by kernel_rfl) (by kernel_rfl) h
def F.q78 (a0 a1 a2 a3 a4 : Value) (H : Hp) (K : Value → Hp → Prop) : Prop :=
 nw (a0 : Value).cells 49 H fun b H2 =>
 nw (a1 : Value).cells 2 H2 fun c H4 =>
 nw (a2 : Value).cells 2 H4 fun d H6 =>
 nw #[(.int .i64 0), (.int .i64 0), (.slice none 0 0)] 49 H6 fun e H8 =>
 HT prg 81 [a3, a4, (.func (.func 118) #[] #[b, c, d])].toArray H8 fun f H10 =>
 st 3 e f H10 fun H11 =>
 ob (vLoadN 3 e H11) fun u12 => K u12 H11
theorem R.q78 (h : F.q78 a0 a1 a2 a3 a4 H K) : HT prg 78 [a0, a1, a2, a3, a4].toArray H K :=
 HT_of_eq O0 mixed Try.func78 (by kernel_rfl) (by kernel_rfl) h
def F.q153 (a0 : Value) (H : Hp) (K : Value → Hp → Prop) : Prop :=
 cnd a0
 (K (.int .i64 1) H)
 (K (.int .i64 0) H)
theorem R.q153 (h : F.q153 a0 H K) : HT prg 153 [a0].toArray H K :=
 HT_of_eq O0 mixed Try.func153 (by kernel_rfl) (by kernel_rfl) h
def F.q157 (a0 a1 : Value) (H : Hp) (K : Value → Hp → Prop) : Prop :=
 jn (fun σ1 H1 =>
 K (.int .i64 (-1)) H1) fun J1 =>
 ob (vLenSl a0) fun b =>
 lpE (fun Q3 σ3 H3 =>
 ob (vInt .lss (σ3 8) (σ3 7)) fun c =>
 cnd c
 (ob (vIx 1 (σ3 0) (σ3 8)) fun d =>
 ob (vLoad d H3) fun e =>
 ob (vInt .eql (σ3 1) e) fun f =>
 cnd f
 (Q3 .ret (up (up (up (up (up (up (up (up (up (up (up σ3 9 c) 10 (σ3 8)) 5 (σ3 8)) 11 (σ3 1)) 12 (σ3 0)) 13 (σ3 8)) 14 d) 15 e) 16 f) 17 (σ3 8)) 4 (σ3 8)) H3)
 (ob (vInt .add (σ3 8) (.int .i64 1)) fun g =>
 Q3 .normal (up (up (up (up (up (up (up (up (up (up (up σ3 9 c) 10 (σ3 8)) 5 (σ3 8)) 11 (σ3 1)) 12 (σ3 0)) 13 (σ3 8)) 14 d) 15 e) 16 f) 18 g) 8 g) H3))
 (Q3 (.exit 0) (up σ3 9 c) H3)) (blkQ 0 (thenQ J1 (retQ prg [(.tmp 4)] K))) (up (up (up (up (S0 [a0, a1]) 4 (.int .i64 0)) 6 a0) 7 b) 8 (.int .i64 0)) H
theorem R.q157 (h : F.q157 a0 a1 H K) : HT prg 157 [a0, a1].toArray H K :=
 HT_of_eq O0 mixed Try.func157 (by kernel_rfl) (by kernel_rfl) h
def F.q154 (a0 a1 : Value) (H : Hp) (K : Value → Hp → Prop) : Prop :=
 HT prg 157 [a0, a1].toArray H fun b H2 =>
 ob (vInt .geq b (.int .i64 0)) fun c =>
 K c H2
theorem R.q154 (h : F.q154 a0 a1 H K) : HT prg 154 [a0, a1].toArray H K :=
 HT_of_eq O0 mixed Try.func154 (by kernel_rfl) (by kernel_rfl) h
def F.q141 (a0 a1 a2 : Value) (H : Hp) (K : Value → Hp → Prop) : Prop :=
 nw (a0 : Value).cells 46 H fun b H2 =>
 ob (vInt .eql a1 (.int .i64 0)) fun c =>
 cnd c
 (ob (vFa 0 b) fun d =>
 ob (vLoad d H2) fun e =>
 HT prg 154 [e, a2].toArray H2 fun f H7 =>
 HT prg 153 [f].toArray H7 fun g H9 =>
 K g H9)
 (ob (vFa 1 b) fun i =>
 ob (vLoad i H2) fun j =>
 HT prg 154 [j, a2].toArray H2 fun k H13 =>
 HT prg 153 [k].toArray H13 fun l H15 =>
 K l H15)
theorem R.q141 (h : F.q141 a0 a1 a2 H K) : HT prg 141 [a0, a1, a2].toArray H K :=
 HT_of_eq O0 mixed Try.func141 (by kernel_rfl) (by kernel_rfl) h
def F.q158 (a0 a1 a2 : Value) (H : Hp) (K : Value → Hp → Prop) : Prop :=
 nw (a0 : Value).cells 49 H fun b H2 =>
 ob (vFa 0 b) fun c =>
 ob (vLoad c H2) fun d =>
 ob (vInt .sub d (.int .i64 1)) fun e =>
 HT prg 80 [a1, (.int .i64 0), e].toArray H2 fun f H7 =>
 gop f true (fun K8 => K8 a2 H7) H7 fun g H10 =>
 gop f true (fun K11 => ob (vFa 1 b) fun u => K11 u H10) H10 fun i H13 =>
 gop f true (fun K14 => ob (vLoad i H13) fun u => K14 u H13) H13 fun j H16 =>
 gop f true (fun K17 => ob (vInt .sub j (.int .i64 1)) fun u => K17 u H16) H16 fun k H19 =>
 gop f true (fun K20 => HT prg 80 [g, (.int .i64 0), k].toArray H19 K20) H19 fun l H22 =>
 ob (vPick f l (.bool false)) fun m =>
 K m H22
theorem R.q158 (h : F.q158 a0 a1 a2 H K) : HT prg 158 [a0, a1, a2].toArray H K :=
 HT_of_eq O0 mixed Try.func158 (by kernel_rfl) (by kernel_rfl) h
def F.q155 (a0 a1 a2 a3 : Value) (H : Hp) (K : Value → Hp → Prop) : Prop :=
 nw (a0 : Value).cells 49 H fun b H2 =>
 cnd a3
 (ob (vLoadN 3 b H2) fun c =>
 ob (vFa 0 b) fun d =>
 ob (vLoad d H2) fun e =>
 ob (vFa 1 b) fun f =>
 ob (vLoad f H2) fun g =>
 HT prg 145 [a1, e].toArray H2 fun i H9 =>
 Le H2 H9 ∧ (HT prg 145 [a2, g].toArray H9 fun j H11 =>
 Le H9 H11 ∧ (HT prg 83 [c, i, j].toArray H11 fun k H13 =>
 Le H11 H13 ∧ (K k H13))))
 (ob (vLoadN 3 b H2) fun l =>
 HT prg 158 [l, a1, a2].toArray H2 fun m H16 =>
 ob (vUn .not m) fun n =>
 cnd n
 (K (.int .i64 0) H16)
 (ob (vLoadN 3 b H16) fun p =>
 HT prg 83 [p, a1, a2].toArray H16 fun q H20 =>
 K q H20))
def O.q155 : Nat → Nat × List Nat := fun i => bif Nat.beq i 2 then (0, [0, 1, 2, 3, 5, 6, 7, 4, 8, 9, 10]) else (0, [])
theorem R.q155 (h : F.q155 a0 a1 a2 a3 H K) : HT prg 155 [a0, a1, a2, a3].toArray H K :=
 HT_of_eq O.q155 mixed Try.func155 (by kernel_rfl) (by kernel_rfl) h
def F.q142 (a0 a1 a2 a3 : Value) (H : Hp) (K : Value → Hp → Prop) : Prop :=
 nw (a0 : Value).cells 49 H fun b H2 =>
 ob (vLoadN 3 b H2) fun c =>
 HT prg 83 [c, a1, a2].toArray H2 fun d H5 =>
 ob (vUn .neg d) fun e =>
 jn (fun σ7 H7 =>
 K (σ7 9) H7) fun J7 =>
 ob (vInt .sub a1 (.int .i64 1)) fun f =>
 lpE (fun Q9 σ9 H9 =>
 ob (vInt .add (σ9 1) (.int .i64 1)) fun g =>
 ob (vInt .leq (σ9 10) g) fun i =>
 cnd i
 (jn (fun σ12 H12 =>
 ob (vInt .add (σ12 10) (.int .i64 1)) fun j =>
 Q9 .normal (up (up (up σ12 23 (σ12 10)) 24 j) 10 j) H12) fun J12 =>
 ob (vInt .sub (σ9 2) (.int .i64 1)) fun k =>
 lpE (fun Q15 σ15 H15 =>
 ob (vInt .add (σ15 2) (.int .i64 1)) fun l =>
 ob (vInt .leq (σ15 11) l) fun m =>
 cnd m
 (ob (vLoadN 3 (σ15 4) H15) fun n =>
 HT prg 155 [n, (σ15 10), (σ15 11), (σ15 3)].toArray H15 fun p H20 =>
 ob (vInt .add (σ15 9) p) fun q =>
 ob (vInt .add (σ15 11) (.int .i64 1)) fun r =>
 Q15 .normal (up (up (up (up (up (up (up (up (up (up (up (up (up (up (up σ15 27 (σ15 11)) 28 (σ15 2)) 29 l) 30 m) 33 (σ15 9)) 34 n) 35 (σ15 10)) 36 (σ15 11)) 37 (σ15 3)) 38 p) 39 q) 9 q) 31 (σ15 11)) 32 r) 11 r) H20)
 (Q15 (.exit 2) (up (up (up (up σ15 27 (σ15 11)) 28 (σ15 2)) 29 l) 30 m) H15)) (blkQ 2 (blkQ 1 (thenQ J12 Q9))) (up (up (up (up (up (up (up σ9 19 (σ9 10)) 20 (σ9 1)) 21 g) 22 i) 25 (σ9 2)) 26 k) 11 k) H9)
 (Q9 (.exit 0) (up (up (up (up σ9 19 (σ9 10)) 20 (σ9 1)) 21 g) 22 i) H9)) (blkQ 0 (thenQ J7 (retQ prg [(.tmp 8)] K))) (up (up (up (up (up (up (up (up (up (up (up (S0 [a0, a1, a2, a3]) 4 b) 8 (.int .i64 0)) 12 c) 13 a1) 14 a2) 15 d) 16 e) 9 e) 17 a1) 18 f) 10 f) H5
theorem R.q142 (h : F.q142 a0 a1 a2 a3 H K) : HT prg 142 [a0, a1, a2, a3].toArray H K :=
 HT_of_eq O0 mixed Try.func142 (by kernel_rfl) (by kernel_rfl) h
def F.q140 (a0 a1 a2 a3 a4 : Value) (H : Hp) (K : Value → Hp → Prop) : Prop :=
 ob (vLoadN 2 a2 H) fun b =>
 ob (vLoadN 3 a3 H) fun c =>
 ob (vLoadN 3 a3 H) fun d =>
 ob (vLoad a4 H) fun e =>
 HT prg 83 [c, a0, a1].toArray H fun f H6 =>
 Le H H6 ∧ (HT prg 142 [d, a0, a1, e].toArray H6 fun g H8 =>
 Le H6 H8 ∧ (HT prg 141 [b, f, g].toArray H8 fun i H10 =>
 Le H8 H10 ∧ (K i H10)))
def O.q140 : Nat → Nat × List Nat := fun i => bif Nat.beq i 1 then (0, [0, 1, 2, 3, 5, 6, 7, 8, 4, 9, 10, 11]) else (0, [])
theorem R.q140 (h : F.q140 a0 a1 a2 a3 a4 H K) : HT prg 140 [a0, a1, a2, a3, a4].toArray H K :=
 HT_of_eq O.q140 mixed Try.func140 (by kernel_rfl) (by kernel_rfl) h
def F.q109 (a0 a1 a2 : Value) (H : Hp) (K : Value → Hp → Prop) : Prop :=
 nw (a0 : Value).cells 46 H fun b H2 =>
 nw (a1 : Value).cells 49 H2 fun c H4 =>
 nw (a2 : Value).cells 4 H4 fun d H6 =>
 nw #[(.int .i64 0), (.int .i64 0), (.slice none 0 0)] 49 H6 fun e H8 =>
 ob (vFa 0 c) fun f =>
 ob (vLoad f H8) fun g =>
 ob (vFa 1 c) fun i =>
 ob (vLoad i H8) fun j =>
 HT prg 81 [g, j, (.func (.func 140) #[] #[b, c, d])].toArray H8 fun k H14 =>
 st 3 e k H14 fun H15 =>
 ob (vLoadN 3 e H15) fun u16 => K u16 H15
theorem R.q109 (h : F.q109 a0 a1 a2 H K) : HT prg 109 [a0, a1, a2].toArray H K :=
 HT_of_eq O0 mixed Try.func109 (by kernel_rfl) (by kernel_rfl) h
def F.q67 (a0 a1 : Value) (H : Hp) (K : Value → Hp → Prop) : Prop :=
 nw (a0 : Value).cells 46 H fun b H2 =>
 nw (a1 : Value).cells 49 H2 fun c H4 =>
 nw #[(.int .i64 0), (.int .i64 0), (.slice none 0 0)] 49 H4 fun d H6 =>
 ob (vLoadN 2 b H6) fun e =>
 ob (vLoadN 3 c H6) fun f =>
 ob (vFa 0 c) fun g =>
 ob (vLoad g H6) fun i =>
 ob (vInt .sub i (.int .i64 2)) fun j =>
 ob (vFa 1 c) fun k =>
 ob (vLoad k H6) fun l =>
 ob (vInt .sub l (.int .i64 2)) fun m =>
 HT prg 109 [e, f, (.bool false)].toArray H6 fun n H16 =>
 Le H6 H16 ∧ (HT prg 78 [n, (.int .i64 1), (.int .i64 1), j, m].toArray H16 fun p H18 =>
 Le H16 H18 ∧ (st 3 d p H18 fun H19 =>
 ob (vLoadN 3 d H19) fun u20 => K u20 H19))
def O.q67 : Nat → Nat × List Nat := fun i => bif Nat.beq i 1 then (0, [0, 1, 3, 4, 5, 6, 7, 8, 2, 9, 10]) else (0, [])
theorem R.q67 (h : F.q67 a0 a1 H K) : HT prg 67 [a0, a1].toArray H K :=
 HT_of_eq O.q67 mixed Try.func67 (by kernel_rfl) (by kernel_rfl) h
def F.q29 (a0 a1 : Value) (H : Hp) (K : Value → Hp → Prop) : Prop :=
 nw (a0 : Value).cells 46 H fun b H2 =>
 nw (a1 : Value).cells 49 H2 fun c H4 =>
 nw #[(.int .i64 0), (.int .i64 0), (.slice none 0 0)] 49 H4 fun d H6 =>
 ob (vLoadN 2 b H6) fun e =>
 HT prg 65 [e].toArray H6 fun f H9 =>
 ob (vUn .not f) fun g =>
 gop g false (fun K11 => ob (vLoadN 3 c H9) fun u => K11 u H9) H9 fun i H13 =>
 gop g false (fun K14 => HT prg 66 [i].toArray H13 K14) H13 fun j H16 =>
 gop g false (fun K17 => ob (vUn .not j) fun u => K17 u H16) H16 fun k H19 =>
 ob (vPick g (.bool true) k) fun l =>
 cnd l
 (ob (vBuild [(0, 1), (1, 1), (2, 1)] (.agg #[(.int .i64 0), (.int .i64 0), (.slice none 0 0)]) []) fun m =>
 st 3 d m H19 fun H22 =>
 ob (vLoadN 3 d H22) fun u23 => K (.tuple #[u23, (.bool false)]) H22)
 (ob (vLoadN 3 c H19) fun n =>
 nw #[(.int .i64 0), (.int .i64 0), (.slice none 0 0)] 49 H19 fun p H26 =>
 st 3 p n H26 fun H27 =>
 jn (fun σ28 H28 =>
 ob (vLoadN 3 (σ28 6) H28) fun q =>
 st 3 (σ28 4) q H28 fun H30 =>
 ob (vLoadN 3 (σ28 4) H30) fun u31 => K (.tuple #[u31, (.bool true)]) H30) fun J28 =>
 ob (vFa 0 c) fun r =>
 ob (vLoad r H27) fun s =>
 ob (vInt .quo s (.int .i64 4)) fun t =>
 lpE (fun Q35 σ35 H35 =>
 ob (vInt .lss (σ35 20) (σ35 19)) fun w =>
 cnd w
 (ob (vLoadN 2 (σ35 2) H35) fun x =>
 ob (vLoadN 3 (σ35 6) H35) fun y =>
 HT prg 67 [x, y].toArray H35 fun z H40 =>
 st 3 (σ35 6) z H40 fun H41 =>
 ob (vInt .add (σ35 20) (.int .i64 1)) fun b0 =>
 Q35 .normal (up (up (up (up (up (up σ35 21 w) 22 x) 23 y) 24 z) 25 b0) 20 b0) H41)
 (Q35 (.exit 0) (up σ35 21 w) H35)) (blkQ 0 (thenQ J28 (retQ prg [(.cell 4 49), (.tmp 5)] K))) (up (up (up (up (up (up (up (up (up (up (up (up (up (up (up (up (up (up (S0 [a0, a1]) 2 b) 3 c) 4 d) 5 (.bool false)) 7 e) 8 f) 9 g) 10 g) 11 i) 12 j) 13 k) 14 l) 16 n) 6 p) 17 r) 18 s) 19 t) 20 (.int .i64 0)) H27)
theorem R.q29 (h : F.q29 a0 a1 H K) : HT prg 29 [a0, a1].toArray H K :=
 HT_of_eq O0 mixed Try.func29 (by kernel_rfl) (by kernel_rfl) h
def F.q143 (a0 : Value) (H : Hp) (K : Value → Hp → Prop) : Prop :=
 jn (fun σ1 H1 =>
 K (.bool true) H1) fun J1 =>
 lpE (fun Q2 σ2 H2 =>
 ob (vLenSl (σ2 0)) fun b =>
 ob (vInt .lss (σ2 3) b) fun c =>
 cnd c
 (ob (vIx 1 (σ2 0) (σ2 3)) fun d =>
 ob (vLoad d H2) fun e =>
 HT prg 59 [e, (.int .i64 0), (.int .i64 8)].toArray H2 fun f H8 =>
 Le H2 H8 ∧ (ob (vUn .not f) fun g =>
 gop g false (fun K10 => K10 (σ2 3) H8) H8 fun i H12 =>
 gop g false (fun K13 => ob (vInt .gtr i (.int .i64 0)) fun u => K13 u H12) H12 fun j H15 =>
 gop g false (fun K16 => K16 j H15) H15 fun k H18 =>
 gop k true (fun K19 => K19 (σ2 0) H18) H18 fun l H21 =>
 gop k true (fun K22 => K22 (σ2 3) H21) H21 fun m H24 =>
 gop k true (fun K25 => ob (vIx 1 l m) fun u => K25 u H24) H24 fun n H27 =>
 gop k true (fun K28 => ob (vLoad n H27) fun u => K28 u H27) H27 fun p H30 =>
 gop k true (fun K31 => K31 (σ2 0) H30) H30 fun q H33 =>
 gop k true (fun K34 => K34 (σ2 3) H33) H33 fun r H36 =>
 gop k true (fun K37 => ob (vInt .sub r (.int .i64 1)) fun u => K37 u H36) H36 fun s H39 =>
 gop k true (fun K40 => ob (vIx 1 q s) fun u => K40 u H39) H39 fun t H42 =>
 gop k true (fun K43 => ob (vLoad t H42) fun u => K43 u H42) H42 fun w H45 =>
 gop k true (fun K46 => ob (vInt .leq p w) fun u => K46 u H45) H45 fun x H48 =>
 gop g false (fun K49 => ob (vPick k x (.bool false)) fun u => K49 u H48) H48 fun y H51 =>
 ob (vPick g (.bool true) y) fun z =>
 cnd z
 (Q2 .ret (up (up (up (up (up (up (up (up (up (up (up (up (up (up (up (up (up (up (up (up (up (up (up (up (up (up (up σ2 4 (σ2 3)) 5 (σ2 0)) 6 b) 7 c) 10 (σ2 0)) 11 (σ2 3)) 12 d) 13 e) 14 f) 15 g) 16 g) 17 i) 18 j) 19 k) 20 l) 21 m) 22 n) 23 p) 24 q) 25 r) 26 s) 27 t) 28 w) 29 x) 30 y) 31 z) 2 (.bool false)) H51)
 (ob (vInt .add (σ2 3) (.int .i64 1)) fun b0 =>
 Q2 .normal (up (up (up (up (up (up (up (up (up (up (up (up (up (up (up (up (up (up (up (up (up (up (up (up (up (up (up (up (up σ2 4 (σ2 3)) 5 (σ2 0)) 6 b) 7 c) 10 (σ2 0)) 11 (σ2 3)) 12 d) 13 e) 14 f) 15 g) 16 g) 17 i) 18 j) 19 k) 20 l) 21 m) 22 n) 23 p) 24 q) 25 r) 26 s) 27 t) 28 w) 29 x) 30 y) 31 z) 8 (σ2 3)) 9 b0) 3 b0) H51)))
 (Q2 (.exit 0) (up (up (up (up σ2 4 (σ2 3)) 5 (σ2 0)) 6 b) 7 c) H2)) (blkQ 0 (thenQ J1 (retQ prg [(.tmp 2)] K))) (up (up (S0 [a0]) 2 (.bool false)) 3 (.int .i64 0)) H
def O.q143 : Nat → Nat × List Nat := fun i => bif Nat.beq i 4 then (0, [0, 1, 2, 3, 4, 5, 6, 7, 8, 9, 10, 11, 12, 13, 14, 15, 16, 17, 18, 19, 20, 21]) else (0, [])
theorem R.q143 (h : F.q143 a0 H K) : HT prg 143 [a0].toArray H K :=
 HT_of_eq O.q143 mixed Try.func143 (by kernel_rfl) (by kernel_rfl) h
def F.q110 (a0 : Value) (H : Hp) (K : Value → Hp → Prop) : Prop :=
 ob (vNilC a0) fun b =>
 ob (vFa 0 b) fun c =>
 ob (vLoad c H) fun d =>
 HT prg 143 [d].toArray H fun e H5 =>
 gop e true (fun K6 => K6 a0 H5) H5 fun f H8 =>
 gop e true (fun K9 => ob (vNilC f) fun u => K9 u H8) H8 fun g H11 =>
 gop e true (fun K12 => ob (vFa 1 g) fun u => K12 u H11) H11 fun i H14 =>
 gop e true (fun K15 => ob (vLoad i H14) fun u => K15 u H14) H14 fun j H17 =>
 gop e true (fun K18 => HT prg 143 [j].toArray H17 K18) H17 fun k H20 =>
 ob (vPick e k (.bool false)) fun l =>
 K l H20
theorem R.q110 (h : F.q110 a0 H K) : HT prg 110 [a0].toArray H K :=
 HT_of_eq O0 mixed Try.func110 (by kernel_rfl) (by kernel_rfl) h
def F.q70 (a0 : Value) (H : Hp) (K : Value → Hp → Prop) : Prop :=
 ob (vNilC a0) fun b =>
 ob (vFa 0 b) fun c =>
 ob (vLoad c H) fun d =>
 HT prg 59 [d, (.int .i64 1), (.int .i64 24)].toArray H fun e H5 =>
 Le H H5 ∧ (ob (vUn .not e) fun f =>
 gop f false (fun K7 => K7 a0 H5) H5 fun g H9 =>
 gop f false (fun K10 => ob (vNilC g) fun u => K10 u H9) H9 fun i H12 =>
 gop f false (fun K13 => ob (vFa 1 i) fun u => K13 u H12) H12 fun j H15 =>
 gop f false (fun K16 => ob (vLoad j H15) fun u => K16 u H15) H15 fun k H18 =>
 gop f false (fun K19 => HT prg 59 [k, (.int .i64 1), (.int .i64 24)].toArray H18 fun l H21 =>
 Le H18 H21 ∧ K19 l H21) H18 fun m H23 =>
 gop f false (fun K24 => ob (vUn .not m) fun u => K24 u H23) H23 fun n H26 =>
 ob (vPick f (.bool true) n) fun p =>
 gop p false (fun K28 => K28 a0 H26) H26 fun q H30 =>
 gop p false (fun K31 => ob (vNilC q) fun u => K31 u H30) H30 fun r H33 =>
 gop p false (fun K34 => ob (vFa 2 r) fun u => K34 u H33) H33 fun s H36 =>
 gop p false (fun K37 => ob (vLoad s H36) fun u => K37 u H36) H36 fun t H39 =>
 gop p false (fun K40 => ob (vLenSl t) fun u => K40 u H39) H39 fun w H42 =>
 gop p false (fun K43 => K43 a0 H42) H42 fun x H45 =>
 gop p false (fun K46 => ob (vNilC x) fun u => K46 u H45) H45 fun y H48 =>
 gop p false (fun K49 => ob (vFa 0 y) fun u => K49 u H48) H48 fun z H51 =>
 gop p false (fun K52 => ob (vLoad z H51) fun u => K52 u H51) H51 fun b0 H54 =>
 gop p false (fun K55 => K55 a0 H54) H54 fun c0 H57 =>
 gop p false (fun K58 => ob (vNilC c0) fun u => K58 u H57) H57 fun d0 H60 =>
 gop p false (fun K61 => ob (vFa 1 d0) fun u => K61 u H60) H60 fun e0 H63 =>
 gop p false (fun K64 => ob (vLoad e0 H63) fun u => K64 u H63) H63 fun f0 H66 =>
 gop p false (fun K67 => ob (vInt .mul b0 f0) fun u => K67 u H66) H66 fun g0 H69 =>
 gop p false (fun K70 => ob (vInt .neq w g0) fun u => K70 u H69) H69 fun i0 H72 =>
 ob (vPick p (.bool true) i0) fun j0 =>
 cnd j0
 (K (.bool false) H72)
 (jn (fun σ74 H74 =>
 K (.bool true) H74) fun J74 =>
 lpE (fun Q75 σ75 H75 =>
 ob (vNilC (σ75 0)) fun k0 =>
 ob (vFa 2 k0) fun l0 =>
 ob (vLoad l0 H75) fun m0 =>
 ob (vLenSl m0) fun n0 =>
 ob (vInt .lss (σ75 3) n0) fun p0 =>
 cnd p0
 (ob (vNilC (σ75 0)) fun q0 =>
 ob (vFa 2 q0) fun r0 =>
 ob (vLoad r0 H75) fun s0 =>
 ob (vIx 1 s0 (σ75 3)) fun t0 =>
 ob (vLoad t0 H75) fun w0 =>
 HT prg 59 [w0, (.int .i64 0), (.int .i64 9)].toArray H75 fun x0 H87 =>
 ob (vUn .not x0) fun y0 =>
 cnd y0
 (Q75 .ret (up (up (up (up (up (up (up (up (up (up (up (up (up (up (up (up (up σ75 35 (σ75 3)) 36 (σ75 0)) 37 k0) 38 l0) 39 m0) 40 n0) 41 p0) 44 (σ75 0)) 45 q0) 46 r0) 47 s0) 48 (σ75 3)) 49 t0) 50 w0) 51 x0) 52 y0) 2 (.bool false)) H87)
 (ob (vInt .add (σ75 3) (.int .i64 1)) fun z0 =>
 Q75 .normal (up (up (up (up (up (up (up (up (up (up (up (up (up (up (up (up (up (up (up σ75 35 (σ75 3)) 36 (σ75 0)) 37 k0) 38 l0) 39 m0) 40 n0) 41 p0) 44 (σ75 0)) 45 q0) 46 r0) 47 s0) 48 (σ75 3)) 49 t0) 50 w0) 51 x0) 52 y0) 42 (σ75 3)) 43 z0) 3 z0) H87))
 (Q75 (.exit 0) (up (up (up (up (up (up (up σ75 35 (σ75 3)) 36 (σ75 0)) 37 k0) 38 l0) 39 m0) 40 n0) 41 p0) H75)) (blkQ 0 (thenQ J74 (retQ prg [(.tmp 2)] K))) (up (up (up (up (up (up (up (up (up (up (up (up (up (up (up (up (up (up (up (up (up (up (up (up (up (up (up (up (up (up (up (up (up (S0 [a0]) 2 (.bool false)) 4 a0) 5 b) 6 c) 7 d) 8 e) 9 f) 10 f) 11 g) 12 i) 13 j) 14 k) 15 m) 16 n) 17 p) 18 p) 19 q) 20 r) 21 s) 22 t) 23 w) 24 x) 25 y) 26 z) 27 b0) 28 c0) 29 d0) 30 e0) 31 f0) 32 g0) 33 i0) 34 j0) 3 (.int .i64 0)) H72))
def O.q70 : Nat → Nat × List Nat := fun i => bif Nat.beq i 1 then (0, [0, 1, 2, 3, 4, 5, 6, 7, 8, 9, 10, 11, 12, 13, 14, 15, 16, 17, 18, 19, 20, 21, 22, 23, 24, 25, 26, 27, 28, 29, 30]) else (0, [])
theorem R.q70 (h : F.q70 a0 H K) : HT prg 70 [a0].toArray H K :=
 HT_of_eq O.q70 mixed Try.func70 (by kernel_rfl) (by kernel_rfl) h
def F.q111 (a0 : Value) (H : Hp) (K : Value → Hp → Prop) : Prop :=
 HT prg 70 [a0].toArray H fun b H2 =>
 ob (vUn .not b) fun c =>
 cnd c
 (K (.bool false) H2)
 (jn (fun σ4 H4 =>
 K (.bool true) H4) fun J4 =>
 lpE (fun Q5 σ5 H5 =>
 ob (vNilC (σ5 0)) fun d =>
 ob (vFa 2 d) fun e =>
 ob (vLoad e H5) fun f =>
 ob (vLenSl f) fun g =>
 ob (vInt .lss (σ5 3) g) fun i =>
 cnd i
 (ob (vNilC (σ5 0)) fun j =>
 ob (vFa 2 j) fun k =>
 ob (vLoad k H5) fun l =>
 ob (vIx 1 l (σ5 3)) fun m =>
 ob (vLoad m H5) fun n =>
 ob (vInt .gtr n (.int .i64 1)) fun p =>
 cnd p
 (Q5 .ret (up (up (up (up (up (up (up (up (up (up (up (up (up (up (up (up σ5 7 (σ5 3)) 8 (σ5 0)) 9 d) 10 e) 11 f) 12 g) 13 i) 16 (σ5 0)) 17 j) 18 k) 19 l) 20 (σ5 3)) 21 m) 22 n) 23 p) 2 (.bool false)) H5)
 (ob (vInt .add (σ5 3) (.int .i64 1)) fun q =>
 Q5 .normal (up (up (up (up (up (up (up (up (up (up (up (up (up (up (up (up (up (up σ5 7 (σ5 3)) 8 (σ5 0)) 9 d) 10 e) 11 f) 12 g) 13 i) 16 (σ5 0)) 17 j) 18 k) 19 l) 20 (σ5 3)) 21 m) 22 n) 23 p) 14 (σ5 3)) 15 q) 3 q) H5))
 (Q5 (.exit 0) (up (up (up (up (up (up (up σ5 7 (σ5 3)) 8 (σ5 0)) 9 d) 10 e) 11 f) 12 g) 13 i) H5)) (blkQ 0 (thenQ J4 (retQ prg [(.tmp 2)] K))) (up (up (up (up (up (S0 [a0]) 2 (.bool false)) 4 a0) 5 b) 6 c) 3 (.int .i64 0)) H2)
theorem R.q111 (h : F.q111 a0 H K) : HT prg 111 [a0].toArray H K :=
 HT_of_eq O0 mixed Try.func111 (by kernel_rfl) (by kernel_rfl) h
def F.q68 (a0 a1 : Value) (H : Hp) (K : Value → Hp → Prop) : Prop :=
 HT prg 110 [a0].toArray H fun b H2 =>
 gop b true (fun K3 => K3 a1 H2) H2 fun c H5 =>
 gop b true (fun K6 => HT prg 111 [c].toArray H5 K6) H5 fun d H8 =>
 ob (vPick b d (.bool false)) fun e =>
 K e H8
theorem R.q68 (h : F.q68 a0 a1 H K) : HT prg 68 [a0, a1].toArray H K :=
 HT_of_eq O0 mixed Try.func68 (by kernel_rfl) (by kernel_rfl) h
def F.q144 (a0 a1 a2 : Value) (H : Hp) (K : Value → Hp → Prop) : Prop :=
 ob (vNilC a0) fun b =>
 ob (vFa 0 b) fun c =>
 ob (vLoad c H) fun d =>
 ob (vInt .rem a1 d) fun e =>
 ob (vNilC a0) fun f =>
 ob (vFa 0 f) fun g =>
 ob (vLoad g H) fun i =>
 ob (vInt .add e i) fun j =>
 ob (vNilC a0) fun k =>
 ob (vFa 0 k) fun l =>
 ob (vLoad l H) fun m =>
 ob (vInt .rem j m) fun n =>
 ob (vNilC a0) fun p =>
 ob (vFa 1 p) fun q =>
 ob (vLoad q H) fun r =>
 ob (vInt .rem a2 r) fun s =>
 ob (vNilC a0) fun t =>
 ob (vFa 1 t) fun w =>
 ob (vLoad w H) fun x =>
 ob (vInt .add s x) fun y =>
 ob (vNilC a0) fun z =>
 ob (vFa 1 z) fun b0 =>
 ob (vLoad b0 H) fun c0 =>
 ob (vInt .rem y c0) fun d0 =>
 ob (vNilC a0) fun e0 =>
 ob (vFa 1 e0) fun f0 =>
 ob (vLoad f0 H) fun g0 =>
 ob (vInt .mul n g0) fun i0 =>
 ob (vInt .add i0 d0) fun j0 =>
 K j0 H
def O.q144 : Nat → Nat × List Nat := fun i => bif Nat.beq i 1 then (0, [0, 1, 2, 3, 4, 5, 6, 7, 8, 9, 10, 11, 12, 13, 14, 15, 16]) else bif Nat.beq i 2 then (0, [0, 1, 2, 3, 4, 5, 6, 7, 8, 9, 10, 11, 12, 13, 14, 15, 16]) else (0, [])
theorem R.q144 (h : F.q144 a0 a1 a2 H K) : HT prg 144 [a0, a1, a2].toArray H K :=
 HT_of_eq O.q144 mixed Try.func144 (by kernel_rfl) (by kernel_rfl) h
def F.q114 (a0 a1 a2 a3 : Value) (H : Hp) (K : Value → Hp → Prop) : Prop :=
 jn (fun σ1 H1 =>
 K (σ1 9) H1) fun J1 =>
 ob (vInt .sub a1 (.int .i64 1)) fun b =>
 lpE (fun Q3 σ3 H3 =>
 ob (vInt .add (σ3 1) (.int .i64 1)) fun c =>
 ob (vInt .leq (σ3 10) c) fun d =>
 cnd d
 (jn (fun σ6 H6 =>
 ob (vInt .add (σ6 10) (.int .i64 1)) fun e =>
 Q3 .normal (up (up (up σ6 18 (σ6 10)) 19 e) 10 e) H6) fun J6 =>
 ob (vInt .sub (σ3 2) (.int .i64 1)) fun f =>
 lpE (fun Q9 σ9 H9 =>
 ob (vInt .add (σ9 2) (.int .i64 1)) fun g =>
 ob (vInt .leq (σ9 11) g) fun i =>
 cnd i
 (ob (vInt .eql (σ9 10) (σ9 1)) fun j =>
 gop j true (fun K13 => K13 (σ9 11) H9) H9 fun k H15 =>
 gop j true (fun K16 => K16 (σ9 2) H15) H15 fun l H18 =>
 gop j true (fun K19 => ob (vInt .eql k l) fun u => K19 u H18) H18 fun m H21 =>
 ob (vPick j m (.bool false)) fun n =>
 cnd n
 (ob (vInt .add (σ9 11) (.int .i64 1)) fun p =>
 Q9 .normal (up (up (up (up (up (up (up (up (up (up (up (up (up (up (up σ9 22 (σ9 11)) 23 (σ9 2)) 24 g) 25 i) 28 (σ9 10)) 29 (σ9 1)) 30 j) 31 j) 32 k) 33 l) 34 m) 35 n) 26 (σ9 11)) 27 p) 11 p) H21)
 (gop (σ9 3) false (fun K24 => K24 (σ9 10) H21) H21 fun q H26 =>
 gop (σ9 3) false (fun K27 => K27 (σ9 0) H26) H26 fun r H29 =>
 gop (σ9 3) false (fun K30 => ob (vNilC r) fun u => K30 u H29) H29 fun s H32 =>
 gop (σ9 3) false (fun K33 => ob (vFa 0 s) fun u => K33 u H32) H32 fun t H35 =>
 gop (σ9 3) false (fun K36 => ob (vLoad t H35) fun u => K36 u H35) H35 fun w H38 =>
 gop (σ9 3) false (fun K39 => ob (vInt .sub w (.int .i64 1)) fun u => K39 u H38) H38 fun x H41 =>
 gop (σ9 3) false (fun K42 => HT prg 59 [q, (.int .i64 0), x].toArray H41 K42) H41 fun y H44 =>
 gop (σ9 3) false (fun K45 => K45 y H44) H44 fun z H47 =>
 gop z true (fun K48 => K48 (σ9 11) H47) H47 fun b0 H50 =>
 gop z true (fun K51 => K51 (σ9 0) H50) H50 fun c0 H53 =>
 gop z true (fun K54 => ob (vNilC c0) fun u => K54 u H53) H53 fun d0 H56 =>
 gop z true (fun K57 => ob (vFa 1 d0) fun u => K57 u H56) H56 fun e0 H59 =>
 gop z true (fun K60 => ob (vLoad e0 H59) fun u => K60 u H59) H59 fun f0 H62 =>
 gop z true (fun K63 => ob (vInt .sub f0 (.int .i64 1)) fun u => K63 u H62) H62 fun g0 H65 =>
 gop z true (fun K66 => HT prg 59 [b0, (.int .i64 0), g0].toArray H65 K66) H65 fun i0 H68 =>
 gop (σ9 3) false (fun K69 => ob (vPick z i0 (.bool false)) fun u => K69 u H68) H68 fun j0 H71 =>
 ob (vPick (σ9 3) (.bool true) j0) fun k0 =>
 cnd k0
 (ob (vNilC (σ9 0)) fun l0 =>
 ob (vFa 2 l0) fun m0 =>
 ob (vLoad m0 H71) fun n0 =>
 HT prg 144 [(σ9 0), (σ9 10), (σ9 11)].toArray H71 fun p0 H77 =>
 Le H71 H77 ∧ (ob (vIx 1 n0 p0) fun q0 =>
 ob (vLoad q0 H77) fun r0 =>
 ob (vInt .add (σ9 9) r0) fun s0 =>
 ob (vInt .add (σ9 11) (.int .i64 1)) fun t0 =>
 Q9 .normal (up (up (up (up (up (up (up (up (up (up (up (up (up (up (up (up (up (up (up (up (up (up (up (up (up (up (up (up (up (up (up (up (up (up (up (up (up (up (up (up (up (up (up (up (up (up (up σ9 22 (σ9 11)) 23 (σ9 2)) 24 g) 25 i) 28 (σ9 10)) 29 (σ9 1)) 30 j) 31 j) 32 k) 33 l) 34 m) 35 n) 36 (σ9 3)) 37 (σ9 3)) 38 q) 39 r) 40 s) 41 t) 42 w) 43 x) 44 y) 45 z) 46 b0) 47 c0) 48 d0) 49 e0) 50 f0) 51 g0) 52 i0) 53 j0) 54 k0) 55 (σ9 9)) 56 (σ9 0)) 57 l0) 58 m0) 59 n0) 60 (σ9 0)) 61 (σ9 10)) 62 (σ9 11)) 63 p0) 64 q0) 65 r0) 66 s0) 9 s0) 26 (σ9 11)) 27 t0) 11 t0) H77))
 (ob (vInt .add (σ9 11) (.int .i64 1)) fun w0 =>
 Q9 .normal (up (up (up (up (up (up (up (up (up (up (up (up (up (up (up (up (up (up (up (up (up (up (up (up (up (up (up (up (up (up (up (up (up (up σ9 22 (σ9 11)) 23 (σ9 2)) 24 g) 25 i) 28 (σ9 10)) 29 (σ9 1)) 30 j) 31 j) 32 k) 33 l) 34 m) 35 n) 36 (σ9 3)) 37 (σ9 3)) 38 q) 39 r) 40 s) 41 t) 42 w) 43 x) 44 y) 45 z) 46 b0) 47 c0) 48 d0) 49 e0) 50 f0) 51 g0) 52 i0) 53 j0) 54 k0) 26 (σ9 11)) 27 w0) 11 w0) H71)))
 (Q9 (.exit 2) (up (up (up (up σ9 22 (σ9 11)) 23 (σ9 2)) 24 g) 25 i) H9)) (blkQ 2 (blkQ 1 (thenQ J6 Q3))) (up (up (up (up (up (up (up σ3 14 (σ3 10)) 15 (σ3 1)) 16 c) 17 d) 20 (σ3 2)) 21 f) 11 f) H3)
 (Q3 (.exit 0) (up (up (up (up σ3 14 (σ3 10)) 15 (σ3 1)) 16 c) 17 d) H3)) (blkQ 0 (thenQ J1 (retQ prg [(.tmp 8)] K))) (up (up (up (up (up (S0 [a0, a1, a2, a3]) 8 (.int .i64 0)) 9 (.int .i64 0)) 12 a1) 13 b) 10 b) H
def O.q114 : Nat → Nat × List Nat := fun i => bif Nat.beq i 10 then (0, [0, 1, 2, 3, 4, 5, 6, 7, 8, 9, 10, 11, 12]) else (0, [])
theorem R.q114 (h : F.q114 a0 a1 a2 a3 H K) : HT prg 114 [a0, a1, a2, a3].toArray H K :=
 HT_of_eq O.q114 mixed Try.func114 (by kernel_rfl) (by kernel_rfl) h
def F.q115 (a0 a1 : Value) (H : Hp) (K : Value → Hp → Prop) : Prop :=
 jn (fun σ1 H1 =>
 K (.bool false) H1) fun J1 =>
 lpE (fun Q2 σ2 H2 =>
 ob (vLenSl (σ2 0)) fun b =>
 ob (vInt .lss (σ2 5) b) fun c =>
 cnd c
 (ob (vIx 1 (σ2 0) (σ2 5)) fun d =>
 ob (vLoad d H2) fun e =>
 ob (vInt .eql e (σ2 1)) fun f =>
 cnd f
 (Q2 .ret (up (up (up (up (up (up (up (up (up (up (up σ2 6 (σ2 5)) 7 (σ2 0)) 8 b) 9 c) 12 (σ2 0)) 13 (σ2 5)) 14 d) 15 e) 16 (σ2 1)) 17 f) 4 (.bool true)) H2)
 (ob (vInt .add (σ2 5) (.int .i64 1)) fun g =>
 Q2 .normal (up (up (up (up (up (up (up (up (up (up (up (up (up σ2 6 (σ2 5)) 7 (σ2 0)) 8 b) 9 c) 12 (σ2 0)) 13 (σ2 5)) 14 d) 15 e) 16 (σ2 1)) 17 f) 10 (σ2 5)) 11 g) 5 g) H2))
 (Q2 (.exit 0) (up (up (up (up σ2 6 (σ2 5)) 7 (σ2 0)) 8 b) 9 c) H2)) (blkQ 0 (thenQ J1 (retQ prg [(.tmp 4)] K))) (up (up (S0 [a0, a1]) 4 (.bool false)) 5 (.int .i64 0)) H
theorem R.q115 (h : F.q115 a0 a1 H K) : HT prg 115 [a0, a1].toArray H K :=
 HT_of_eq O0 mixed Try.func115 (by kernel_rfl) (by kernel_rfl) h
def F.q73 (a0 a1 a2 : Value) (H : Hp) (K : Value → Hp → Prop) : Prop :=
 nw #[(.int .i64 0), (.int .i64 0), (.slice none 0 0)] 49 H fun b H2 =>
 ob (vNilC a1) fun c =>
 ob (vFa 0 c) fun d =>
 ob (vLoad d H2) fun e =>
 ob (vNilC a1) fun f =>
 ob (vFa 1 f) fun g =>
 ob (vLoad g H2) fun i =>
 HT prg 72 [e, i].toArray H2 fun j H10 =>
 Le H2 H10 ∧ (nw #[(.int .i64 0), (.int .i64 0), (.slice none 0 0)] 49 H10 fun k H12 =>
 st 3 k j H12 fun H13 =>
 jn (fun σ14 H14 =>
 ob (vLoadN 3 (σ14 7) H14) fun l =>
 st 3 (σ14 6) l H14 fun H16 =>
 ob (vLoadN 3 (σ14 6) H16) fun u17 => K u17 H16) fun J14 =>
 lpE (fun Q18 σ18 H18 =>
 ob (vNilC (σ18 1)) fun m =>
 ob (vFa 0 m) fun n =>
 ob (vLoad n H18) fun p =>
 ob (vInt .lss (σ18 8) p) fun q =>
 cnd q
 (jn (fun σ23 H23 =>
 ob (vInt .add (σ23 8) (.int .i64 1)) fun r =>
 Q18 .normal (up (up (up σ23 27 (σ23 8)) 28 r) 8 r) H23) fun J23 =>
 lpE (fun Q25 σ25 H25 =>
 ob (vNilC (σ25 1)) fun s =>
 ob (vFa 1 s) fun t =>
 ob (vLoad t H25) fun w =>
 ob (vInt .lss (σ25 9) w) fun x =>
 cnd x
 (HT prg 114 [(σ25 1), (σ25 8), (σ25 9), (σ25 2)].toArray H25 fun y H31 =>
 ob (vNilC (σ25 1)) fun z =>
 ob (vFa 1 z) fun b0 =>
 ob (vLoad b0 H31) fun c0 =>
 ob (vInt .mul (σ25 8) c0) fun d0 =>
 ob (vInt .add d0 (σ25 9)) fun e0 =>
 ob (vNilC (σ25 1)) fun f0 =>
 ob (vFa 2 f0) fun g0 =>
 ob (vLoad g0 H31) fun i0 =>
 ob (vIx 1 i0 e0) fun j0 =>
 ob (vLoad j0 H31) fun k0 =>
 ob (vInt .eql k0 (.int .i64 0)) fun l0 =>
 gop l0 true (fun K43 => K43 (σ25 0) H31) H31 fun m0 H45 =>
 gop l0 true (fun K46 => ob (vNilC m0) fun u => K46 u H45) H45 fun n0 H48 =>
 gop l0 true (fun K49 => ob (vFa 0 n0) fun u => K49 u H48) H48 fun p0 H51 =>
 gop l0 true (fun K52 => ob (vLoad p0 H51) fun u => K52 u H51) H51 fun q0 H54 =>
 gop l0 true (fun K55 => K55 y H54) H54 fun r0 H57 =>
 gop l0 true (fun K58 => HT prg 115 [q0, r0].toArray H57 K58) H57 fun s0 H60 =>
 ob (vPick l0 s0 (.bool false)) fun t0 =>
 gop t0 false (fun K62 => K62 (σ25 1) H60) H60 fun w0 H64 =>
 gop t0 false (fun K65 => ob (vNilC w0) fun u => K65 u H64) H64 fun x0 H67 =>
 gop t0 false (fun K68 => ob (vFa 2 x0) fun u => K68 u H67) H67 fun y0 H70 =>
 gop t0 false (fun K71 => ob (vLoad y0 H70) fun u => K71 u H70) H70 fun z0 H73 =>
 gop t0 false (fun K74 => K74 e0 H73) H73 fun b1 H76 =>
 gop t0 false (fun K77 => ob (vIx 1 z0 b1) fun u => K77 u H76) H76 fun c1 H79 =>
 gop t0 false (fun K80 => ob (vLoad c1 H79) fun u => K80 u H79) H79 fun d1 H82 =>
 gop t0 false (fun K83 => ob (vInt .eql d1 (.int .i64 1)) fun u => K83 u H82) H82 fun e1 H85 =>
 gop t0 false (fun K86 => K86 e1 H85) H85 fun f1 H88 =>
 gop f1 true (fun K89 => K89 (σ25 0) H88) H88 fun g1 H91 =>
 gop f1 true (fun K92 => ob (vNilC g1) fun u => K92 u H91) H91 fun i1 H94 =>
 gop f1 true (fun K95 => ob (vFa 1 i1) fun u => K95 u H94) H94 fun j1 H97 =>
 gop f1 true (fun K98 => ob (vLoad j1 H97) fun u => K98 u H97) H97 fun k1 H100 =>
 gop f1 true (fun K101 => K101 y H100) H100 fun l1 H103 =>
 gop f1 true (fun K104 => HT prg 115 [k1, l1].toArray H103 K104) H103 fun m1 H106 =>
 gop t0 false (fun K107 => ob (vPick f1 m1 (.bool false)) fun u => K107 u H106) H106 fun n1 H109 =>
 ob (vPick t0 (.bool true) n1) fun p1 =>
 cnd p1
 (ob (vFa 2 (σ25 7)) fun q1 =>
 ob (vLoad q1 H109) fun r1 =>
 ob (vIx 1 r1 e0) fun s1 =>
 st 1 s1 (.int .i64 1) H109 fun H114 =>
 ob (vInt .add (σ25 9) (.int .i64 1)) fun t1 =>
 Q25 .normal (up (up (up (up (up (up (up (up (up (up (up (up (up (up (up (up (up (up (up (up (up (up (up (up (up (up (up (up (up (up (up (up (up (up (up (up (up (up (up (up (up (up (up (up (up (up (up (up (up (up (up (up (up (up (up (up (up (up (up (up (up (up σ25 29 (σ25 9)) 30 (σ25 1)) 31 s) 32 t) 33 w) 34 x) 37 (σ25 1)) 38 (σ25 8)) 39 (σ25 9)) 40 (σ25 2)) 41 y) 10 y) 42 (σ25 8)) 43 (σ25 1)) 44 z) 45 b0) 46 c0) 47 d0) 48 (σ25 9)) 49 e0) 11 e0) 50 (σ25 1)) 51 f0) 52 g0) 53 i0) 54 e0) 55 j0) 56 k0) 57 l0) 58 l0) 59 m0) 60 n0) 61 p0) 62 q0) 63 r0) 64 s0) 65 t0) 66 t0) 67 w0) 68 x0) 69 y0) 70 z0) 71 b1) 72 c1) 73 d1) 74 e1) 75 f1) 76 g1) 77 i1) 78 j1) 79 k1) 80 l1) 81 m1) 82 n1) 83 p1) 84 q1) 85 r1) 86 e0) 87 s1) 35 (σ25 9)) 36 t1) 9 t1) H114)
 (ob (vInt .add (σ25 9) (.int .i64 1)) fun w1 =>
 Q25 .normal (up (up (up (up (up (up (up (up (up (up (up (up (up (up (up (up (up (up (up (up (up (up (up (up (up (up (up (up (up (up (up (up (up (up (up (up (up (up (up (up (up (up (up (up (up (up (up (up (up (up (up (up (up (up (up (up (up (up σ25 29 (σ25 9)) 30 (σ25 1)) 31 s) 32 t) 33 w) 34 x) 37 (σ25 1)) 38 (σ25 8)) 39 (σ25 9)) 40 (σ25 2)) 41 y) 10 y) 42 (σ25 8)) 43 (σ25 1)) 44 z) 45 b0) 46 c0) 47 d0) 48 (σ25 9)) 49 e0) 11 e0) 50 (σ25 1)) 51 f0) 52 g0) 53 i0) 54 e0) 55 j0) 56 k0) 57 l0) 58 l0) 59 m0) 60 n0) 61 p0) 62 q0) 63 r0) 64 s0) 65 t0) 66 t0) 67 w0) 68 x0) 69 y0) 70 z0) 71 b1) 72 c1) 73 d1) 74 e1) 75 f1) 76 g1) 77 i1) 78 j1) 79 k1) 80 l1) 81 m1) 82 n1) 83 p1) 35 (σ25 9)) 36 w1) 9 w1) H109))
 (Q25 (.exit 2) (up (up (up (up (up (up σ25 29 (σ25 9)) 30 (σ25 1)) 31 s) 32 t) 33 w) 34 x) H25)) (blkQ 2 (blkQ 1 (thenQ J23 Q18))) (up (up (up (up (up (up (up σ18 21 (σ18 8)) 22 (σ18 1)) 23 m) 24 n) 25 p) 26 q) 9 (.int .i64 0)) H18)
 (Q18 (.exit 0) (up (up (up (up (up (up σ18 21 (σ18 8)) 22 (σ18 1)) 23 m) 24 n) 25 p) 26 q) H18)) (blkQ 0 (thenQ J14 (retQ prg [(.cell 6 49)] K))) (up (up (up (up (up (up (up (up (up (up (up (up (S0 [a0, a1, a2]) 6 b) 12 a1) 13 c) 14 d) 15 e) 16 a1) 17 f) 18 g) 19 i) 20 j) 7 k) 8 (.int .i64 0)) H13)
def O.q73 : Nat → Nat × List Nat := fun i => bif Nat.beq i 1 then (0, [0, 1, 2, 3, 4, 5, 6, 7, 8, 9, 10]) else (0, [])
theorem R.q73 (h : F.q73 a0 a1 a2 H K) : HT prg 73 [a0, a1, a2].toArray H K :=
 HT_of_eq O.q73 mixed Try.func73 (by kernel_rfl) (by kernel_rfl) h
def F.q112 (a0 : Value) (H : Hp) (K : Value → Hp → Prop) : Prop :=
 nw #[(.int .i64 0), (.int .i64 0), (.slice none 0 0)] 49 H fun b H2 =>
 ob (vNilC a0) fun c =>
 ob (vFa 0 c) fun d =>
 ob (vLoad d H2) fun e =>
 ob (vNilC a0) fun f =>
 ob (vFa 1 f) fun g =>
 ob (vLoad g H2) fun i =>
 ob (vNilC a0) fun j =>
 ob (vFa 2 j) fun k =>
 ob (vLoad k H2) fun l =>
 bS 1 0 #[(.int .i64 0)] 2 [] H2 fun m H13 =>
 apd 1 8 #[(.int .i64 0)] 2 m l H13 fun n H15 =>
 Le H13 H15 ∧ (ob (vBuild [(0, 1), (1, 1), (2, 1)] (.agg #[(.int .i64 0), (.int .i64 0), (.slice none 0 0)]) [(0, e), (1, i), (2, n)]) fun p =>
 st 3 b p H15 fun H17 =>
 ob (vLoadN 3 b H17) fun u18 => K u18 H17)
def O.q112 : Nat → Nat × List Nat := fun i => bif Nat.beq i 1 then (1, [0, 1, 2, 3, 4, 5, 6, 7, 9, 10, 11, 12, 8, 13, 14, 15]) else (0, [])
theorem R.q112 (h : F.q112 a0 H K) : HT prg 112 [a0].toArray H K :=
 HT_of_eq O.q112 mixed Try.func112 (by kernel_rfl) (by kernel_rfl) h
def F.q69 (a0 a1 a2 a3 : Value) (H : Hp) (K : Value → Hp → Prop) : Prop :=
 nw #[(.int .i64 0), (.int .i64 0), (.slice none 0 0)] 49 H fun b H2 =>
 HT prg 112 [a1].toArray H2 fun c H4 =>
 nw #[(.int .i64 0), (.int .i64 0), (.slice none 0 0)] 49 H4 fun d H6 =>
 st 3 d c H6 fun H7 =>
 jn (fun σ8 H8 =>
 ob (vLoadN 3 (σ8 9) H8) fun e =>
 st 3 (σ8 8) e H8 fun H10 =>
 ob (vLoadN 3 (σ8 8) H10) fun u11 => K u11 H10) fun J8 =>
 lpE (fun Q12 σ12 H12 =>
 ob (vInt .gtr (σ12 3) (.int .i64 0)) fun f =>
 cnd f
 (HT prg 73 [(σ12 0), (σ12 9), (σ12 2)].toArray H12 fun g H15 =>
 st 3 (σ12 9) g H15 fun H16 =>
 ob (vInt .sub (σ12 3) (.int .i64 1)) fun i =>
 Q12 .normal (up (up (up (up (up (up (up (up σ12 12 (σ12 3)) 13 f) 16 (σ12 0)) 17 (σ12 2)) 18 g) 14 (σ12 3)) 15 i) 3 i) H16)
 (Q12 (.exit 0) (up (up σ12 12 (σ12 3)) 13 f) H12)) (blkQ 0 (thenQ J8 (retQ prg [(.cell 8 49)] K))) (up (up (up (up (S0 [a0, a1, a2, a3]) 8 b) 10 a1) 11 c) 9 d) H7
theorem R.q69 (h : F.q69 a0 a1 a2 a3 H K) : HT prg 69 [a0, a1, a2, a3].toArray H K :=
 HT_of_eq O0 mixed Try.func69 (by kernel_rfl) (by kernel_rfl) h
def F.q30 (a0 a1 a2 a3 : Value) (H : Hp) (K : Value → Hp → Prop) : Prop :=
 nw (a0 : Value).cells 46 H fun b H2 =>
 nw (a1 : Value).cells 49 H2 fun c H4 =>
 nw #[(.int .i64 0), (.int .i64 0), (.slice none 0 0)] 49 H4 fun d H6 =>
 HT prg 68 [b, c].toArray H6 fun e H8 =>
 ob (vUn .not e) fun f =>
 gop f false (fun K10 => K10 a3 H8) H8 fun g H12 =>
 gop f false (fun K13 => HT prg 59 [g, (.int .i64 0), (.int .i64 512)].toArray H12 K13) H12 fun i H15 =>
 gop f false (fun K16 => ob (vUn .not i) fun u => K16 u H15) H15 fun j H18 =>
 ob (vPick f (.bool true) j) fun k =>
 cnd k
 (ob (vBuild [(0, 1), (1, 1), (2, 1)] (.agg #[(.int .i64 0), (.int .i64 0), (.slice none 0 0)]) []) fun l =>
 st 3 d l H18 fun H21 =>
 ob (vLoadN 3 d H21) fun u22 => K (.tuple #[u22, (.bool false)]) H21)
 (HT prg 69 [b, c, a2, a3].toArray H18 fun m H24 =>
 st 3 d m H24 fun H25 =>
 ob (vLoadN 3 d H25) fun u26 => K (.tuple #[u26, (.bool true)]) H25)
theorem R.q30 (h : F.q30 a0 a1 a2 a3 H K) : HT prg 30 [a0, a1, a2, a3].toArray H K :=
 HT_of_eq O0 mixed Try.func30 (by kernel_rfl) (by kernel_rfl) h
def F.q113 (a0 a1 : Value) (H : Hp) (K : Value → Hp → Prop) : Prop :=
 HT prg 59 [a0, (.int .i64 1), (.int .i64 24)].toArray H fun b H2 =>
 gop b true (fun K3 => K3 a1 H2) H2 fun c H5 =>
 gop b true (fun K6 => HT prg 59 [c, (.int .i64 1), (.int .i64 24)].toArray H5 K6) H5 fun d H8 =>
 ob (vPick b d (.bool false)) fun e =>
 K e H8
theorem R.q113 (h : F.q113 a0 a1 H K) : HT prg 113 [a0, a1].toArray H K :=
 HT_of_eq O0 mixed Try.func113 (by kernel_rfl) (by kernel_rfl) h
def F.q71 (a0 a1 a2 a3 a4 : Value) (H : Hp) (K : Value → Hp → Prop) : Prop :=
 HT prg 113 [a3, a4].toArray H fun b H2 =>
 gop b true (fun K3 => K3 a1 H2) H2 fun c H5 =>
 gop b true (fun K6 => K6 a0 H5) H5 fun d H8 =>
 gop b true (fun K9 => ob (vNilC d) fun u => K9 u H8) H8 fun e H11 =>
 gop b true (fun K12 => ob (vFa 0 e) fun u => K12 u H11) H11 fun f H14 =>
 gop b true (fun K15 => ob (vLoad f H14) fun u => K15 u H14) H14 fun g H17 =>
 gop b true (fun K18 => K18 a3 H17) H17 fun i H20 =>
 gop b true (fun K21 => ob (vInt .sub g i) fun u => K21 u H20) H20 fun j H23 =>
 gop b true (fun K24 => HT prg 59 [c, (.int .i64 0), j].toArray H23 K24) H23 fun k H26 =>
 ob (vPick b k (.bool false)) fun l =>
 gop l true (fun K28 => K28 a2 H26) H26 fun m H30 =>
 gop l true (fun K31 => K31 a0 H30) H30 fun n H33 =>
 gop l true (fun K34 => ob (vNilC n) fun u => K34 u H33) H33 fun p H36 =>
 gop l true (fun K37 => ob (vFa 1 p) fun u => K37 u H36) H36 fun q H39 =>
 gop l true (fun K40 => ob (vLoad q H39) fun u => K40 u H39) H39 fun r H42 =>
 gop l true (fun K43 => K43 a4 H42) H42 fun s H45 =>
 gop l true (fun K46 => ob (vInt .sub r s) fun u => K46 u H45) H45 fun t H48 =>
 gop l true (fun K49 => HT prg 59 [m, (.int .i64 0), t].toArray H48 K49) H48 fun w H51 =>
 ob (vPick l w (.bool false)) fun x =>
 K x H51
theorem R.q71 (h : F.q71 a0 a1 a2 a3 a4 H K) : HT prg 71 [a0, a1, a2, a3, a4].toArray H K :=
 HT_of_eq O0 mixed Try.func71 (by kernel_rfl) (by kernel_rfl) h
def F.q31 (a0 a1 a2 a3 a4 : Value) (H : Hp) (K : Value → Hp → Prop) : Prop :=
 nw (a0 : Value).cells 49 H fun b H2 =>
 nw #[(.int .i64 0), (.int .i64 0), (.slice none 0 0)] 49 H2 fun c H4 =>
 HT prg 70 [b].toArray H4 fun d H6 =>
 ob (vUn .not d) fun e =>
 gop e false (fun K8 => K8 a1 H6) H6 fun f H10 =>
 gop e false (fun K11 => K11 a2 H10) H10 fun g H13 =>
 gop e false (fun K14 => K14 a3 H13) H13 fun i H16 =>
 gop e false (fun K17 => K17 a4 H16) H16 fun j H19 =>
 gop e false (fun K20 => HT prg 71 [b, f, g, i, j].toArray H19 K20) H19 fun k H22 =>
 gop e false (fun K23 => ob (vUn .not k) fun u => K23 u H22) H22 fun l H25 =>
 ob (vPick e (.bool true) l) fun m =>
 cnd m
 (ob (vBuild [(0, 1), (1, 1), (2, 1)] (.agg #[(.int .i64 0), (.int .i64 0), (.slice none 0 0)]) []) fun n =>
 st 3 c n H25 fun H28 =>
 ob (vLoadN 3 c H28) fun u29 => K (.tuple #[u29, (.bool false)]) H28)
 (HT prg 72 [a3, a4].toArray H25 fun p H31 =>
 nw #[(.int .i64 0), (.int .i64 0), (.slice none 0 0)] 49 H31 fun q H33 =>
 st 3 q p H33 fun H34 =>
 jn (fun σ35 H35 =>
 ob (vLoadN 3 (σ35 12) H35) fun r =>
 st 3 (σ35 10) r H35 fun H37 =>
 ob (vLoadN 3 (σ35 10) H37) fun u38 => K (.tuple #[u38, (.bool true)]) H37) fun J35 =>
 lpE (fun Q39 σ39 H39 =>
 ob (vInt .lss (σ39 13) (σ39 3)) fun s =>
 cnd s
 (jn (fun σ41 H41 =>
 ob (vInt .add (σ41 13) (.int .i64 1)) fun t =>
 Q39 .normal (up (up (up σ41 32 (σ41 13)) 33 t) 13 t) H41) fun J41 =>
 lpE (fun Q43 σ43 H43 =>
 ob (vInt .lss (σ43 14) (σ43 4)) fun w =>
 cnd w
 (ob (vFa 2 (σ43 12)) fun x =>
 ob (vLoad x H43) fun y =>
 ob (vInt .mul (σ43 13) (σ43 4)) fun z =>
 ob (vInt .add z (σ43 14)) fun b0 =>
 ob (vFa 2 (σ43 5)) fun c0 =>
 ob (vLoad c0 H43) fun d0 =>
 ob (vInt .add (σ43 1) (σ43 13)) fun e0 =>
 ob (vFa 1 (σ43 5)) fun f0 =>
 ob (vLoad f0 H43) fun g0 =>
 ob (vInt .mul e0 g0) fun i0 =>
 ob (vInt .add i0 (σ43 2)) fun j0 =>
 ob (vInt .add j0 (σ43 14)) fun k0 =>
 ob (vIx 1 d0 k0) fun l0 =>
 ob (vLoad l0 H43) fun m0 =>
 ob (vIx 1 y b0) fun n0 =>
 st 1 n0 m0 H43 fun H60 =>
 ob (vInt .add (σ43 14) (.int .i64 1)) fun p0 =>
 Q43 .normal (up (up (up (up (up (up (up (up (up (up (up (up (up (up (up (up (up (up (up (up (up (up (up (up (up (up (up (up σ43 34 (σ43 14)) 35 (σ43 4)) 36 w) 39 x) 40 y) 41 (σ43 13)) 42 (σ43 4)) 43 z) 44 (σ43 14)) 45 b0) 46 c0) 47 d0) 48 (σ43 1)) 49 (σ43 13)) 50 e0) 51 f0) 52 g0) 53 i0) 54 (σ43 2)) 55 j0) 56 (σ43 14)) 57 k0) 58 l0) 59 m0) 60 n0) 37 (σ43 14)) 38 p0) 14 p0) H60)
 (Q43 (.exit 2) (up (up (up σ43 34 (σ43 14)) 35 (σ43 4)) 36 w) H43)) (blkQ 2 (blkQ 1 (thenQ J41 Q39))) (up (up (up (up σ39 29 (σ39 13)) 30 (σ39 3)) 31 s) 14 (.int .i64 0)) H39)
 (Q39 (.exit 0) (up (up (up σ39 29 (σ39 13)) 30 (σ39 3)) 31 s) H39)) (blkQ 0 (thenQ J35 (retQ prg [(.cell 10 49), (.tmp 11)] K))) (up (up (up (up (up (up (up (up (up (up (up (up (up (up (up (up (up (up (S0 [a0, a1, a2, a3, a4]) 5 b) 10 c) 11 (.bool false)) 15 d) 16 e) 17 e) 18 f) 19 g) 20 i) 21 j) 22 k) 23 l) 24 m) 26 a3) 27 a4) 28 p) 12 q) 13 (.int .i64 0)) H34)
def O.q31 : Nat → Nat × List Nat := fun i => bif Nat.beq i 10 then (0, [0, 1, 2, 3, 4, 5, 6, 7, 8, 9, 10, 11, 12, 13, 14, 15, 16, 17, 18, 19, 20, 21, 22]) else (0, [])
theorem R.q31 (h : F.q31 a0 a1 a2 a3 a4 H K) : HT prg 31 [a0, a1, a2, a3, a4].toArray H K :=
 HT_of_eq O.q31 mixed Try.func31 (by kernel_rfl) (by kernel_rfl) h
def F.q32 (a0 a1 : Value) (H : Hp) (K : Value → Hp → Prop) : Prop :=
 nw (a0 : Value).cells 46 H fun b H2 =>
 nw (a1 : Value).cells 49 H2 fun c H4 =>
 nw #[(.int .i64 0), (.int .i64 0), (.slice none 0 0)] 49 H4 fun d H6 =>
 ob (vLoadN 2 b H6) fun e =>
 HT prg 65 [e].toArray H6 fun f H9 =>
 ob (vUn .not f) fun g =>
 gop g false (fun K11 => ob (vLoadN 3 c H9) fun u => K11 u H9) H9 fun i H13 =>
 gop g false (fun K14 => HT prg 66 [i].toArray H13 K14) H13 fun j H16 =>
 gop g false (fun K17 => ob (vUn .not j) fun u => K17 u H16) H16 fun k H19 =>
 ob (vPick g (.bool true) k) fun l =>
 cnd l
 (ob (vBuild [(0, 1), (1, 1), (2, 1)] (.agg #[(.int .i64 0), (.int .i64 0), (.slice none 0 0)]) []) fun m =>
 st 3 d m H19 fun H22 =>
 ob (vLoadN 3 d H22) fun u23 => K (.tuple #[u23, (.bool false)]) H22)
 (ob (vLoadN 2 b H19) fun n =>
 ob (vLoadN 3 c H19) fun p =>
 HT prg 67 [n, p].toArray H19 fun q H27 =>
 st 3 d q H27 fun H28 =>
 ob (vLoadN 3 d H28) fun u29 => K (.tuple #[u29, (.bool true)]) H28)
theorem R.q32 (h : F.q32 a0 a1 H K) : HT prg 32 [a0, a1].toArray H K :=
 HT_of_eq O0 mixed Try.func32 (by kernel_rfl) (by kernel_rfl) h
def F.q33 (a0 a1 a2 : Value) (H : Hp) (K : Value → Hp → Prop) : Prop :=
 nw (a0 : Value).cells 46 H fun b H2 =>
 nw (a1 : Value).cells 49 H2 fun c H4 =>
 nw #[(.int .i64 0), (.int .i64 0), (.slice none 0 0)] 49 H4 fun d H6 =>
 HT prg 68 [b, c].toArray H6 fun e H8 =>
 ob (vUn .not e) fun f =>
 cnd f
 (ob (vBuild [(0, 1), (1, 1), (2, 1)] (.agg #[(.int .i64 0), (.int .i64 0), (.slice none 0 0)]) []) fun g =>
 st 3 d g H8 fun H11 =>
 ob (vLoadN 3 d H11) fun u12 => K (.tuple #[u12, (.bool false)]) H11)
 (HT prg 73 [b, c, a2].toArray H8 fun i H14 =>
 st 3 d i H14 fun H15 =>
 ob (vLoadN 3 d H15) fun u16 => K (.tuple #[u16, (.bool true)]) H15)
theorem R.q33 (h : F.q33 a0 a1 a2 H K) : HT prg 33 [a0, a1, a2].toArray H K :=
 HT_of_eq O0 mixed Try.func33 (by kernel_rfl) (by kernel_rfl) h
def F.q34 (a0 : Value) (H : Hp) (K : Value → Hp → Prop) : Prop :=
 nw (a0 : Value).cells 49 H fun b H2 =>
 ob (vLoadN 3 b H2) fun c =>
 HT prg 66 [c].toArray H2 fun d H5 =>
 ob (vUn .not d) fun e =>
 cnd e
 (K (.tuple #[(.slice none 0 0), (.bool false)]) H5)
 (ob (vLoadN 3 b H5) fun f =>
 HT prg 74 [f].toArray H5 fun g H9 =>
 K (.tuple #[g, (.bool true)]) H9)
theorem R.q34 (h : F.q34 a0 H K) : HT prg 34 [a0].toArray H K :=
 HT_of_eq O0 mixed Try.func34 (by kernel_rfl) (by kernel_rfl) h
def F.q75 (a0 : Value) (H : Hp) (K : Value → Hp → Prop) : Prop :=
 HT prg 111 [a0].toArray H fun b H2 =>
 Le H H2 ∧ (gop b true (fun K3 => K3 a0 H2) H2 fun c H5 =>
 gop b true (fun K6 => ob (vNilC c) fun u => K6 u H5) H5 fun d H8 =>
 gop b true (fun K9 => ob (vFa 0 d) fun u => K9 u H8) H8 fun e H11 =>
 gop b true (fun K12 => ob (vLoad e H11) fun u => K12 u H11) H11 fun f H14 =>
 gop b true (fun K15 => K15 a0 H14) H14 fun g H17 =>
 gop b true (fun K18 => ob (vNilC g) fun u => K18 u H17) H17 fun i H20 =>
 gop b true (fun K21 => ob (vFa 1 i) fun u => K21 u H20) H20 fun j H23 =>
 gop b true (fun K24 => ob (vLoad j H23) fun u => K24 u H23) H23 fun k H26 =>
 gop b true (fun K27 => ob (vInt .eql f k) fun u => K27 u H26) H26 fun l H29 =>
 ob (vPick b l (.bool false)) fun m =>
 gop m true (fun K31 => K31 a0 H29) H29 fun n H33 =>
 gop m true (fun K34 => ob (vNilC n) fun u => K34 u H33) H33 fun p H36 =>
 gop m true (fun K37 => ob (vFa 0 p) fun u => K37 u H36) H36 fun q H39 =>
 gop m true (fun K40 => ob (vLoad q H39) fun u => K40 u H39) H39 fun r H42 =>
 gop m true (fun K43 => ob (vInt .eql r (.int .i64 4)) fun u => K43 u H42) H42 fun s H45 =>
 gop m true (fun K46 => K46 s H45) H45 fun t H48 =>
 gop t false (fun K49 => K49 a0 H48) H48 fun w H51 =>
 gop t false (fun K52 => ob (vNilC w) fun u => K52 u H51) H51 fun x H54 =>
 gop t false (fun K55 => ob (vFa 0 x) fun u => K55 u H54) H54 fun y H57 =>
 gop t false (fun K58 => ob (vLoad y H57) fun u => K58 u H57) H57 fun z H60 =>
 gop t false (fun K61 => ob (vInt .eql z (.int .i64 8)) fun u => K61 u H60) H60 fun b0 H63 =>
 gop m true (fun K64 => ob (vPick t (.bool true) b0) fun u => K64 u H63) H63 fun c0 H66 =>
 gop m true (fun K67 => K67 c0 H66) H66 fun d0 H69 =>
 gop d0 false (fun K70 => K70 a0 H69) H69 fun e0 H72 =>
 gop d0 false (fun K73 => ob (vNilC e0) fun u => K73 u H72) H72 fun f0 H75 =>
 gop d0 false (fun K76 => ob (vFa 0 f0) fun u => K76 u H75) H75 fun g0 H78 =>
 gop d0 false (fun K79 => ob (vLoad g0 H78) fun u => K79 u H78) H78 fun i0 H81 =>
 gop d0 false (fun K82 => ob (vInt .eql i0 (.int .i64 16)) fun u => K82 u H81) H81 fun j0 H84 =>
 gop m true (fun K85 => ob (vPick d0 (.bool true) j0) fun u => K85 u H84) H84 fun k0 H87 =>
 ob (vPick m k0 (.bool false)) fun l0 =>
 K l0 H87)
def O.q75 : Nat → Nat × List Nat := fun i => bif Nat.beq i 1 then (0, [0, 1, 2, 3, 4, 5, 6, 7, 8, 9, 10, 11, 12, 13, 14, 15, 16, 17, 18, 19, 20, 21, 22, 23, 24, 25, 26, 27, 28, 29, 30, 31, 32, 33, 34]) else (0, [])
theorem R.q75 (h : F.q75 a0 H K) : HT prg 75 [a0].toArray H K :=
 HT_of_eq O.q75 mixed Try.func75 (by kernel_rfl) (by kernel_rfl) h
def F.q35 (a0 : Value) (H : Hp) (K : Value → Hp → Prop) : Prop :=
 nw (a0 : Value).cells 49 H fun b H2 =>
 HT prg 75 [b].toArray H2 fun c H4 =>
 ob (vUn .not c) fun d =>
 cnd d
 (K (.tuple #[(.slice none 0 0), (.bool false)]) H4)
 (HT prg 76 [b].toArray H4 fun e H7 =>
 K (.tuple #[e, (.bool true)]) H7)
theorem R.q35 (h : F.q35 a0 H K) : HT prg 35 [a0].toArray H K :=
 HT_of_eq O0 mixed Try.func35 (by kernel_rfl) (by kernel_rfl) h
def F.q77 (a0 : Value) (H : Hp) (K : Value → Hp → Prop) : Prop :=
 ob (vLenSl a0) fun b =>
 mkS 1 1 #[(.int .u8 0)] 5 b b H fun c H3 =>
 jn (fun σ4 H4 =>
 ob (val prg (convert 37 9 (σ4 3)) H4) fun d =>
 K d H4) fun J4 =>
 ob (vLenSl a0) fun e =>
 lpE (fun Q7 σ7 H7 =>
 ob (vInt .lss (σ7 11) (σ7 10)) fun f =>
 cnd f
 (ob (vIx 1 (σ7 9) (σ7 11)) fun g =>
 ob (vLoad g H7) fun i =>
 ob (vCI .u8 i) fun j =>
 ob (vIx 1 (σ7 3) (σ7 11)) fun k =>
 st 1 k j H7 fun H13 =>
 ob (vInt .add (σ7 11) (.int .i64 1)) fun l =>
 Q7 .normal (up (up (up (up (up (up (up (up (up (up (up (up (up σ7 12 f) 13 (σ7 11)) 14 g) 15 i) 4 (σ7 11)) 5 i) 16 (σ7 3)) 17 (σ7 11)) 18 i) 19 j) 20 k) 21 l) 11 l) H13)
 (Q7 (.exit 0) (up σ7 12 f) H7)) (blkQ 0 (thenQ J4 (retQ prg [(.tmp 2)] K))) (up (up (up (up (up (up (up (up (S0 [a0]) 2 (.string ⟨#[]⟩)) 6 a0) 7 b) 8 c) 3 c) 9 a0) 10 e) 11 (.int .i64 0)) H3
theorem R.q77 (h : F.q77 a0 H K) : HT prg 77 [a0].toArray H K :=
 HT_of_eq O0 mixed Try.func77 (by kernel_rfl) (by kernel_rfl) h
end Go.Proofs.Ythmdmbbdjbhcoaa
/- Functions' texts over a partial heap. -/
namespace Go.Proofs.Ythmdmbbdjbhcoaa
open HL
variable {a0 a1 : Value} {H : Hp} {K : Value → Hp → Prop}
set_option linter.unusedVariables false
set_option maxRecDepth 100000
set_option maxHeartbeats 4000000
def F.q36 (a0 : Value) (H : Hp) (K : Value → Hp → Prop) : Prop :=
 nw (a0 : Value).cells 49 H fun b H2 =>
 ob (vLoadN 3 b H2) fun c =>
 HT prg 66 [c].toArray H2 fun d H5 =>
 ob (vUn .not d) fun e =>
 cnd e
 (K (.tuple #[(.slice none 0 0), (.bool false)]) H5)
 (bS 1 0 #[(.int .i64 0)] 2 [] H5 fun f H8 =>
 jn (fun σ9 H9 =>
 K (.tuple #[(σ9 4), (.bool true)]) H9) fun J9 =>
 lpE (fun Q10 σ10 H10 =>
 ob (vFa 0 (σ10 1)) fun g =>
 ob (vLoad g H10) fun i =>
 ob (vInt .leq (σ10 5) i) fun j =>
 cnd j
 (jn (fun σ14 H14 =>
 ob (vInt .mul (σ14 5) (.int .i64 2)) fun k =>
 Q10 .normal (up (up (up σ14 17 (σ14 5)) 18 k) 5 k) H14) fun J14 =>
 opEv.nwM H10 fun l H17 =>
 jn (fun σ18 H18 =>
 ob (val prg (Builtin.len_ #[99] 3 [(σ18 6)].toArray) H18) fun m =>
 bS 1 1 #[(.int .i64 0)] 2 [(0, m)] H18 fun n H21 =>
 apd 1 8 #[(.int .i64 0)] 2 (σ18 4) n H21 fun p H23 =>
 J14 (up (up (up (up (up (up σ18 43 (σ18 4)) 44 (σ18 6)) 45 m) 46 n) 47 p) 4 p) H23) fun J18 =>
 lpE (fun Q24 σ24 H24 =>
 ob (vFa 0 (σ24 1)) fun q =>
 ob (vLoad q H24) fun r =>
 ob (vInt .lss (σ24 7) r) fun s =>
 cnd s
 (jn (fun σ28 H28 =>
 ob (vInt .add (σ28 7) (σ28 5)) fun t =>
 Q24 .normal (up (up (up (up σ28 24 (σ28 7)) 25 (σ28 5)) 26 t) 7 t) H28) fun J28 =>
 lpE (fun Q30 σ30 H30 =>
 ob (vFa 1 (σ30 1)) fun w =>
 ob (vLoad w H30) fun x =>
 ob (vInt .lss (σ30 8) x) fun y =>
 cnd y
 (ob (vLoadN 3 (σ30 1) H30) fun z =>
 HT prg 78 [z, (σ30 7), (σ30 8), (σ30 5), (σ30 5)].toArray H30 fun b0 H36 =>
 ob (vFld false 1 2 b0) fun c0 =>
 HT prg 77 [c0].toArray H36 fun d0 H39 =>
 hp prg (Instr.mapUpdate 99 (σ30 6) d0 (.bool true)) H39 fun _ H40 =>
 ob (vInt .add (σ30 8) (σ30 5)) fun e0 =>
 Q30 .normal (up (up (up (up (up (up (up (up (up (up (up (up (up (up (up (up (up σ30 27 (σ30 8)) 28 w) 29 x) 30 y) 34 (σ30 6)) 35 z) 36 (σ30 7)) 37 (σ30 8)) 38 (σ30 5)) 39 (σ30 5)) 40 b0) 41 c0) 42 d0) 31 (σ30 8)) 32 (σ30 5)) 33 e0) 8 e0) H40)
 (Q30 (.exit 4) (up (up (up (up σ30 27 (σ30 8)) 28 w) 29 x) 30 y) H30)) (blkQ 4 (blkQ 3 (thenQ J28 Q24))) (up (up (up (up (up σ24 20 (σ24 7)) 21 q) 22 r) 23 s) 8 (.int .i64 0)) H24)
 (Q24 (.exit 2) (up (up (up (up σ24 20 (σ24 7)) 21 q) 22 r) 23 s) H24)) (blkQ 2 (thenQ J18 (blkQ 1 (thenQ J14 Q10)))) (up (up (up (up (up (up (up σ10 13 (σ10 5)) 14 g) 15 i) 16 j) 19 l) 6 l) 7 (.int .i64 0)) H17)
 (Q10 (.exit 0) (up (up (up (up σ10 13 (σ10 5)) 14 g) 15 i) 16 j) H10)) (blkQ 0 (thenQ J9 (retQ prg [(.tmp 2), (.tmp 3)] K))) (up (up (up (up (up (up (up (up (up (S0 [a0]) 1 b) 2 (.slice none 0 0)) 3 (.bool false)) 9 c) 10 d) 11 e) 12 f) 4 f) 5 (.int .i64 1)) H8)
theorem R.q36 (h : F.q36 a0 H K) : HT prg 36 [a0].toArray H K :=
 HT_of_eq O0 mixed Try.func36 (by kernel_rfl) (by kernel_rfl) h
def F.q6 (a0 a1 : Value) (H : Hp) (K : Value → Hp → Prop) : Prop :=
 HT prg 19 [a0, a1].toArray H fun b H2 =>
 cnd b
 (K (.bool true) H2)
 (HT prg 27 [a1].toArray H2 fun c H4 =>
 nw #[(.slice none 0 0), (.slice none 0 0)] 46 H4 fun d H6 =>
 st 2 d c H6 fun H7 =>
 bS 1 3 #[(.int .i64 0)] 2 [(0, (.int .i64 4)), (1, (.int .i64 8)), (2, (.int .i64 16))] H7 fun e H9 =>
 HT prg 21 [a1, (.int .i64 0), (.int .i64 3)].toArray H9 fun f H11 =>
 ob (vIx 1 e f) fun g =>
 ob (vLoad g H11) fun i =>
 HT prg 28 [a0, i, i].toArray H11 fun j H15 =>
 nw #[(.int .i64 0), (.int .i64 0), (.slice none 0 0)] 49 H15 fun k H17 =>
 st 3 k j H17 fun H18 =>
 ob (vLoadN 2 d H18) fun l =>
 ob (vLoadN 3 k H18) fun m =>
 HT prg 29 [l, m].toArray H18 fun n H22 =>
 ob (vExt n 0) fun p =>
 ob (vExt n 1) fun q =>
 nw #[(.int .i64 0), (.int .i64 0), (.slice none 0 0)] 49 H22 fun r H26 =>
 st 3 r p H26 fun H27 =>
 ob (vLoadN 2 d H27) fun s =>
 ob (vLoadN 3 k H27) fun t =>
 ob (vInt .quo i (.int .i64 4)) fun w =>
 HT prg 30 [s, t, (.bool false), w].toArray H27 fun x H32 =>
 ob (vExt x 0) fun y =>
 ob (vExt x 1) fun z =>
 nw #[(.int .i64 0), (.int .i64 0), (.slice none 0 0)] 49 H32 fun b0 H36 =>
 st 3 b0 y H36 fun H37 =>
 ob (vLoadN 3 b0 H37) fun c0 =>
 ob (vInt .quo i (.int .i64 4)) fun d0 =>
 ob (vInt .quo i (.int .i64 4)) fun e0 =>
 ob (vInt .quo i (.int .i64 2)) fun f0 =>
 ob (vInt .quo i (.int .i64 2)) fun g0 =>
 HT prg 31 [c0, d0, e0, f0, g0].toArray H37 fun i0 H44 =>
 ob (vExt i0 0) fun j0 =>
 ob (vExt i0 1) fun k0 =>
 nw #[(.int .i64 0), (.int .i64 0), (.slice none 0 0)] 49 H44 fun l0 H48 =>
 st 3 l0 j0 H48 fun H49 =>
 ob (vLoadN 2 d H49) fun m0 =>
 ob (vLoadN 3 k H49) fun n0 =>
 HT prg 32 [m0, n0].toArray H49 fun p0 H53 =>
 ob (vExt p0 0) fun q0 =>
 ob (vExt p0 1) fun r0 =>
 nw #[(.int .i64 0), (.int .i64 0), (.slice none 0 0)] 49 H53 fun s0 H57 =>
 st 3 s0 q0 H57 fun H58 =>
 ob (vLoadN 2 d H58) fun t0 =>
 ob (vLoadN 3 k H58) fun w0 =>
 HT prg 33 [t0, w0, (.bool false)].toArray H58 fun x0 H62 =>
 ob (vExt x0 0) fun y0 =>
 ob (vExt x0 1) fun z0 =>
 nw #[(.int .i64 0), (.int .i64 0), (.slice none 0 0)] 49 H62 fun b1 H66 =>
 st 3 b1 y0 H66 fun H67 =>
 ob (vLoadN 3 b1 H67) fun c1 =>
 ob (vInt .sub i (.int .i64 2)) fun d1 =>
 ob (vInt .sub i (.int .i64 2)) fun e1 =>
 HT prg 31 [c1, (.int .i64 1), (.int .i64 1), d1, e1].toArray H67 fun f1 H72 =>
 ob (vExt f1 0) fun g1 =>
 ob (vExt f1 1) fun i1 =>
 nw #[(.int .i64 0), (.int .i64 0), (.slice none 0 0)] 49 H72 fun j1 H76 =>
 st 3 j1 g1 H76 fun H77 =>
 ob (vUn .not q) fun k1 =>
 gop k1 false (fun K79 => K79 z H77) H77 fun l1 H81 =>
 gop k1 false (fun K82 => ob (vUn .not l1) fun u => K82 u H81) H81 fun m1 H84 =>
 ob (vPick k1 (.bool true) m1) fun n1 =>
 gop n1 false (fun K86 => K86 k0 H84) H84 fun p1 H88 =>
 gop n1 false (fun K89 => ob (vUn .not p1) fun u => K89 u H88) H88 fun q1 H91 =>
 ob (vPick n1 (.bool true) q1) fun r1 =>
 gop r1 false (fun K93 => K93 r0 H91) H91 fun s1 H95 =>
 gop r1 false (fun K96 => ob (vUn .not s1) fun u => K96 u H95) H95 fun t1 H98 =>
 ob (vPick r1 (.bool true) t1) fun w1 =>
 gop w1 false (fun K100 => K100 z0 H98) H98 fun x1 H102 =>
 gop w1 false (fun K103 => ob (vUn .not x1) fun u => K103 u H102) H102 fun y1 H105 =>
 ob (vPick w1 (.bool true) y1) fun z1 =>
 gop z1 false (fun K107 => K107 i1 H105) H105 fun b2 H109 =>
 gop z1 false (fun K110 => ob (vUn .not b2) fun u => K110 u H109) H109 fun c2 H112 =>
 ob (vPick z1 (.bool true) c2) fun d2 =>
 gop d2 false (fun K114 => ob (vFa 0 r) fun u => K114 u H112) H112 fun e2 H116 =>
 gop d2 false (fun K117 => ob (vLoad e2 H116) fun u => K117 u H116) H116 fun f2 H119 =>
 gop d2 false (fun K120 => K120 i H119) H119 fun g2 H122 =>
 gop d2 false (fun K123 => ob (vInt .quo g2 (.int .i64 2)) fun u => K123 u H122) H122 fun i2 H125 =>
 gop d2 false (fun K126 => ob (vInt .neq f2 i2) fun u => K126 u H125) H125 fun j2 H128 =>
 ob (vPick d2 (.bool true) j2) fun k2 =>
 gop k2 false (fun K130 => ob (vFa 2 r) fun u => K130 u H128) H128 fun l2 H132 =>
 gop k2 false (fun K133 => ob (vLoad l2 H132) fun u => K133 u H132) H132 fun m2 H135 =>
 gop k2 false (fun K136 => ob (vFa 2 l0) fun u => K136 u H135) H135 fun n2 H138 =>
 gop k2 false (fun K139 => ob (vLoad n2 H138) fun u => K139 u H138) H138 fun p2 H141 =>
 gop k2 false (fun K142 => HT prg 23 [m2, p2].toArray H141 K142) H141 fun q2 H144 =>
 gop k2 false (fun K145 => ob (vUn .not q2) fun u => K145 u H144) H144 fun r2 H147 =>
 ob (vPick k2 (.bool true) r2) fun s2 =>
 gop s2 false (fun K149 => ob (vFa 0 s0) fun u => K149 u H147) H147 fun t2 H151 =>
 gop s2 false (fun K152 => ob (vLoad t2 H151) fun u => K152 u H151) H151 fun w2 H154 =>
 gop s2 false (fun K155 => K155 i H154) H154 fun x2 H157 =>
 gop s2 false (fun K158 => ob (vInt .sub x2 (.int .i64 2)) fun u => K158 u H157) H157 fun y2 H160 =>
 gop s2 false (fun K161 => ob (vInt .neq w2 y2) fun u => K161 u H160) H160 fun z2 H163 =>
 ob (vPick s2 (.bool true) z2) fun b3 =>
 gop b3 false (fun K165 => ob (vFa 2 s0) fun u => K165 u H163) H163 fun c3 H167 =>
 gop b3 false (fun K168 => ob (vLoad c3 H167) fun u => K168 u H167) H167 fun d3 H170 =>
 gop b3 false (fun K171 => ob (vFa 2 j1) fun u => K171 u H170) H170 fun e3 H173 =>
 gop b3 false (fun K174 => ob (vLoad e3 H173) fun u => K174 u H173) H173 fun f3 H176 =>
 gop b3 false (fun K177 => HT prg 23 [d3, f3].toArray H176 K177) H176 fun g3 H179 =>
 gop b3 false (fun K180 => ob (vUn .not g3) fun u => K180 u H179) H179 fun i3 H182 =>
 ob (vPick b3 (.bool true) i3) fun j3 =>
 cnd j3
 (K (.bool false) H182)
 (ob (vLoadN 3 k H182) fun k3 =>
 HT prg 34 [k3].toArray H182 fun l3 H186 =>
 ob (vExt l3 0) fun m3 =>
 ob (vExt l3 1) fun n3 =>
 ob (vLoadN 3 k H186) fun p3 =>
 HT prg 35 [p3].toArray H186 fun q3 H191 =>
 ob (vExt q3 0) fun r3 =>
 ob (vExt q3 1) fun s3 =>
 ob (vLoadN 3 k H191) fun t3 =>
 HT prg 36 [t3].toArray H191 fun w3 H196 =>
 ob (vExt w3 0) fun x3 =>
 ob (vExt w3 1) fun y3 =>
 HT prg 37 [m3].toArray H196 fun z3 H200 =>
 ob (vExt z3 0) fun b4 =>
 ob (vExt z3 1) fun c4 =>
 nw #[(.int .i64 0), (.int .i64 0), (.slice none 0 0)] 49 H200 fun d4 H204 =>
 st 3 d4 b4 H204 fun H205 =>
 ob (vUn .not n3) fun e4 =>
 gop e4 false (fun K207 => K207 s3 H205) H205 fun f4 H209 =>
 gop e4 false (fun K210 => ob (vUn .not f4) fun u => K210 u H209) H209 fun g4 H212 =>
 ob (vPick e4 (.bool true) g4) fun i4 =>
 gop i4 false (fun K214 => K214 y3 H212) H212 fun j4 H216 =>
 gop i4 false (fun K217 => ob (vUn .not j4) fun u => K217 u H216) H216 fun k4 H219 =>
 ob (vPick i4 (.bool true) k4) fun l4 =>
 gop l4 false (fun K221 => K221 c4 H219) H219 fun m4 H223 =>
 gop l4 false (fun K224 => ob (vUn .not m4) fun u => K224 u H223) H223 fun n4 H226 =>
 ob (vPick l4 (.bool true) n4) fun p4 =>
 gop p4 false (fun K228 => K228 m3 H226) H226 fun q4 H230 =>
 gop p4 false (fun K231 => K231 r3 H230) H230 fun r4 H233 =>
 gop p4 false (fun K234 => HT prg 23 [q4, r4].toArray H233 K234) H233 fun s4 H236 =>
 gop p4 false (fun K237 => ob (vUn .not s4) fun u => K237 u H236) H236 fun t4 H239 =>
 ob (vPick p4 (.bool true) t4) fun w4 =>
 gop w4 false (fun K241 => ob (vFa 0 d4) fun u => K241 u H239) H239 fun x4 H243 =>
 gop w4 false (fun K244 => ob (vLoad x4 H243) fun u => K244 u H243) H243 fun y4 H246 =>
 gop w4 false (fun K247 => K247 i H246) H246 fun z4 H249 =>
 gop w4 false (fun K250 => ob (vInt .neq y4 z4) fun u => K250 u H249) H249 fun b5 H252 =>
 ob (vPick w4 (.bool true) b5) fun c5 =>
 gop c5 false (fun K254 => ob (vFa 2 d4) fun u => K254 u H252) H252 fun d5 H256 =>
 gop c5 false (fun K257 => ob (vLoad d5 H256) fun u => K257 u H256) H256 fun e5 H259 =>
 gop c5 false (fun K260 => ob (vFa 2 k) fun u => K260 u H259) H259 fun f5 H262 =>
 gop c5 false (fun K263 => ob (vLoad f5 H262) fun u => K263 u H262) H262 fun g5 H265 =>
 gop c5 false (fun K266 => HT prg 23 [e5, g5].toArray H265 K266) H265 fun i5 H268 =>
 gop c5 false (fun K269 => ob (vUn .not i5) fun u => K269 u H268) H268 fun j5 H271 =>
 ob (vPick c5 (.bool true) j5) fun k5 =>
 gop k5 false (fun K273 => K273 x3 H271) H271 fun l5 H275 =>
 gop k5 false (fun K276 => ob (vLenSl l5) fun u => K276 u H275) H275 fun m5 H278 =>
 gop k5 false (fun K279 => ob (vInt .lss m5 (.int .i64 3)) fun u => K279 u H278) H278 fun n5 H281 =>
 ob (vPick k5 (.bool true) n5) fun p5 =>
 gop p5 false (fun K283 => K283 x3 H281) H281 fun q5 H285 =>
 gop p5 false (fun K286 => K286 x3 H285) H285 fun r5 H288 =>
 gop p5 false (fun K289 => ob (vLenSl r5) fun u => K289 u H288) H288 fun s5 H291 =>
 gop p5 false (fun K292 => ob (vInt .sub s5 (.int .i64 1)) fun u => K292 u H291) H291 fun t5 H294 =>
 gop p5 false (fun K295 => ob (vIx 1 q5 t5) fun u => K295 u H294) H294 fun w5 H297 =>
 gop p5 false (fun K298 => ob (vLoad w5 H297) fun u => K298 u H297) H297 fun x5 H300 =>
 gop p5 false (fun K301 => ob (vInt .neq x5 (.int .i64 1)) fun u => K301 u H300) H300 fun y5 H303 =>
 ob (vPick p5 (.bool true) y5) fun z5 =>
 cnd z5
 (K (.bool false) H303)
 (jn (fun σ305 H305 =>
 ob (vInt .mul (.int .i64 4) (σ305 29)) fun b6 =>
 ob (vLenSl (σ305 21)) fun c6 =>
 ob (vInt .eql b6 c6) fun d6 =>
 gop d6 true (fun K309 => K309 (σ305 25) H305) H305 fun e6 H311 =>
 gop d6 true (fun K312 => ob (vIx 1 e6 (.int .i64 0)) fun u => K312 u H311) H311 fun f6 H314 =>
 gop d6 true (fun K315 => ob (vLoad f6 H314) fun u => K315 u H314) H314 fun g6 H317 =>
 gop d6 true (fun K318 => ob (vInt .geq g6 (.int .i64 1)) fun u => K318 u H317) H317 fun i6 H320 =>
 ob (vPick d6 i6 (.bool false)) fun j6 =>
 gop j6 true (fun K322 => K322 (σ305 25) H320) H320 fun k6 H324 =>
 gop j6 true (fun K325 => ob (vIx 1 k6 (.int .i64 0)) fun u => K325 u H324) H324 fun l6 H327 =>
 gop j6 true (fun K328 => ob (vLoad l6 H327) fun u => K328 u H327) H327 fun m6 H330 =>
 gop j6 true (fun K331 => ob (vInt .leq m6 (.int .i64 2)) fun u => K331 u H330) H330 fun n6 H333 =>
 ob (vPick j6 n6 (.bool false)) fun p6 =>
 K p6 H333) fun J305 =>
 lpE (fun Q335 σ335 H335 =>
 ob (vLenSl (σ335 25)) fun q6 =>
 ob (vInt .lss (σ335 30) q6) fun r6 =>
 cnd r6
 (ob (vIx 1 (σ335 25) (σ335 30)) fun s6 =>
 ob (vLoad s6 H335) fun t6 =>
 ob (vInt .add (σ335 29) t6) fun w6 =>
 ob (vInt .add (σ335 30) (.int .i64 1)) fun x6 =>
 Q335 .normal (up (up (up (up (up (up (up (up (up (up (up (up (up (up σ335 214 (σ335 30)) 215 (σ335 25)) 216 q6) 217 r6) 220 (σ335 29)) 221 (σ335 25)) 222 (σ335 30)) 223 s6) 224 t6) 225 w6) 29 w6) 218 (σ335 30)) 219 x6) 30 x6) H335)
 (Q335 (.exit 0) (up (up (up (up σ335 214 (σ335 30)) 215 (σ335 25)) 216 q6) 217 r6) H335)) (blkQ 0 (thenQ J305 (retQ prg [(.tmp 4)] K))) (up (up (up (up (up (up (up (up (up (up (up (up (up (up (up (up (up (up (up (up (up (up (up (up (up (up (up (up (up (up (up (up (up (up (up (up (up (up (up (up (up (up (up (up (up (up (up (up (up (up (up (up (up (up (up (up (up (up (up (up (up (up (up (up (up (up (up (up (up (up (up (up (up (up (up (up (up (up (up (up (up (up (up (up (up (up (up (up (up (up (up (up (up (up (up (up (up (up (up (up (up (up (up (up (up (up (up (up (up (up (up (up (up (up (up (up (up (up (up (up (up (up (up (up (up (up (up (up (up (up (up (up (up (up (up (up (up (up (up (up (up (up (up (up (up (up (up (up (up (up (up (up (up (up (up (up (up (up (up (up (up (up (up (up (up (up (up (up (up (up (up (up (up (up (up (up (up (up (up (up (up (up (up (up (up (up (up (up (up (up (up (up (up (up (up (up (up (up (up (up (up (up (up (up (up (up (up (up (up (up (S0 [a0, a1]) 4 (.bool false)) 31 a0) 32 a1) 33 b) 34 a1) 35 c) 5 d) 36 e) 6 e) 37 e) 38 a1) 39 f) 40 g) 41 i) 7 i) 42 a0) 43 i) 44 i) 45 j) 8 k) 47 l) 48 m) 49 n) 46 n) 50 p) 51 q) 9 r) 10 q) 53 s) 54 t) 55 i) 56 w) 57 x) 52 x) 58 y) 59 z) 11 b0) 12 z) 61 c0) 62 i) 63 d0) 64 i) 65 e0) 66 i) 67 f0) 68 i) 69 g0) 70 i0) 60 i0) 71 j0) 72 k0) 13 l0) 14 k0) 74 m0) 75 n0) 76 p0) 73 p0) 77 q0) 78 r0) 15 s0) 16 r0) 80 t0) 81 w0) 82 x0) 79 x0) 83 y0) 84 z0) 17 b1) 18 z0) 86 c1) 87 i) 88 d1) 89 i) 90 e1) 91 f1) 85 f1) 92 g1) 93 i1) 19 j1) 20 i1) 94 q) 95 k1) 96 k1) 97 l1) 98 m1) 99 n1) 100 n1) 101 p1) 102 q1) 103 r1) 104 r1) 105 s1) 106 t1) 107 w1) 108 w1) 109 x1) 110 y1) 111 z1) 112 z1) 113 b2) 114 c2) 115 d2) 116 d2) 117 e2) 118 f2) 119 g2) 120 i2) 121 j2) 122 k2) 123 k2) 124 l2) 125 m2) 126 n2) 127 p2) 128 q2) 129 r2) 130 s2) 131 s2) 132 t2) 133 w2) 134 x2) 135 y2) 136 z2) 137 b3) 138 b3) 139 c3) 140 d3) 141 e3) 142 f3) 143 g3) 144 i3) 145 j3) 147 k3) 148 l3) 146 l3) 149 m3) 150 n3) 21 m3) 22 n3) 152 p3) 153 q3) 151 q3) 154 r3) 155 s3) 23 r3) 24 s3) 157 t3) 158 w3) 156 w3) 159 x3) 160 y3) 25 x3) 26 y3) 162 m3) 163 z3) 161 z3) 164 b4) 165 c4) 27 d4) 28 c4) 166 n3) 167 e4) 168 e4) 169 f4) 170 g4) 171 i4) 172 i4) 173 j4) 174 k4) 175 l4) 176 l4) 177 m4) 178 n4) 179 p4) 180 p4) 181 q4) 182 r4) 183 s4) 184 t4) 185 w4) 186 w4) 187 x4) 188 y4) 189 z4) 190 b5) 191 c5) 192 c5) 193 d5) 194 e5) 195 f5) 196 g5) 197 i5) 198 j5) 199 k5) 200 k5) 201 l5) 202 m5) 203 n5) 204 p5) 205 p5) 206 q5) 207 r5) 208 s5) 209 t5) 210 w5) 211 x5) 212 y5) 213 z5) 29 (.int .i64 0)) 30 (.int .i64 1)) H303)))
theorem R.q6 (h : F.q6 a0 a1 H K) : HT prg 6 [a0, a1].toArray H K :=
 HT_of_eq O0 mixed Try.func6 (by kernel_rfl) (by kernel_rfl) h
end Go.Proofs.Ythmdmbbdjbhcoaa
/- All functions' texts. -/
/- What the small functions of lanes come to. -/
namespace Go.Proofs.Ythmdmbbdjbhcoaa
open HL
variable {x lo hi : Int} {H : Hp} {K : Value → Hp → Prop} {a : Value} {l : List Int}
theorem C.c0 (hk : K (.bool (decide (lo ≤ x ∧ x ≤ hi))) H) : HT prg 59 [.int .i64 x, .int .i64 lo, .int .i64 hi].toArray H K := by
 refine R.q59 ?_
 unfold F.q59
 by_cases h : lo ≤ x
 simp only [vInt_geq, vInt_leq, ob_some, h, decide_true, gop_tt, vPick_t, true_and] at hk ⊢; exact hk
 simp only [vInt_geq, ob_some, h, decide_false, gop_ft, vPick_f, false_and] at hk ⊢; exact hk

theorem C.c1 (hk : K (.bool (decide (lo ≤ x ∧ x ≤ hi))) H) : HT prg 80 [.int .i64 x, .int .i64 lo, .int .i64 hi].toArray H K := by
 refine R.q80 ?_
 unfold F.q80
 by_cases h : lo ≤ x
 simp only [vInt_geq, vInt_leq, ob_some, h, decide_true, gop_tt, vPick_t, true_and] at hk ⊢; exact hk
 simp only [vInt_geq, ob_some, h, decide_false, gop_ft, vPick_f, false_and] at hk ⊢; exact hk

theorem C.c2 (ha : Sl eI H a l) (hl : l.length ≤ 9223372036854775807) (hk : K (.bool (decide (∀ x ∈ l, lo ≤ x ∧ x ≤ hi))) H) :
    HT prg 138 [a, .int .i64 lo, .int .i64 hi].toArray H K := by
 refine R.q138 ?_
 unfold F.q138 jn; dsimp only
 rw [ha.len, ob_some]
 refine ⟨fun n σ H1 => ∃ i : Nat, n = l.length - i ∧ i ≤ l.length ∧ H1 = H ∧ σ 1 = .int .i64 lo ∧ σ 2 = .int .i64 hi ∧ σ 9 = a ∧ σ 10 = .int .i64 l.length ∧ σ 11 = .int .i64 i ∧ ∀ x ∈ l.take i, lo ≤ x ∧ x ≤ hi,
    ⟨_, 0, rfl, by omega, rfl, rfl, rfl, rfl, rfl, rfl, by simp⟩, ?_⟩
 rintro n σ H1 ⟨i, rfl, hi', rfl, h1, h2, h9, h10, h11, hall⟩
 simp only [h1, h2, h9, h10, h11, vInt_lss, ob_some]
 refine cnd_d (fun hlt => ?_) (fun hge => ?_)
 have hlt' : i < l.length := by omega
 rw [ha.ix (by omega) hlt, ob_some, ha.ld 0 (by omega) hlt, ob_some]
 refine C.c1 ?_
 rw [vUn_not, ob_some]
 refine cnd_i (fun hb => ?_) (fun hb => ?_)
 refine retK (K := K) (v' := .bool false) rfl ?_
 rw [decide_eq_false] at hk
 exact hk
 intro hh
 have := hh _ (at_mem 0 l (i := i) (by omega) hlt)
 simp [this] at hb
 rw [vInt_add (by omega) (by omega), ob_some]
 refine nxt (l.length - (i + 1)) (by omega) ⟨i + 1, rfl, by omega, rfl, h1, h2, h9, h10, rfl, ?_⟩
 rw [take_at 0 l hlt']
 intro x hx
 rcases List.mem_append.mp hx with hx | hx
 exact hall x hx
 simp only [List.mem_singleton] at hx; subst hx; simpa using hb
 refine retK (K := K) (v' := .bool true) rfl ?_
 rw [decide_eq_true] at hk
 exact hk
 intro x hx
 rw [List.take_of_length_le (by omega)] at hall
 exact hall x hx

theorem C.c3 {n m : Int} (ha : Sl eI H a l) (hl : l.length ≤ 9223372036854775807)
    (hk : K (.bool (decide ((n ≤ l.length ∧ l.length ≤ m) ∧ ∀ x ∈ l, lo ≤ x ∧ x ≤ hi))) H) :
    HT prg 123 [a, .int .i64 n, .int .i64 m, .int .i64 lo, .int .i64 hi].toArray H K := by
 refine R.q123 ?_
 unfold F.q123
 rw [ha.len, ob_some]
 refine C.c1 ?_
 by_cases h : n ≤ l.length ∧ l.length ≤ m
 simp only [h, and_self, decide_true, gop_tt, true_and] at hk ⊢
 refine C.c2 ha hl ?_
 rw [vPick_t, ob_some]
 exact hk
 simp only [h, decide_false, gop_ft, vPick_f, ob_some, false_and] at hk ⊢
 exact hk

def isLane (l : List Int) : Prop := (1 ≤ (l.length : Int) ∧ (l.length : Int) ≤ 64) ∧ ∀ x ∈ l, -1 ≤ x ∧ x ≤ 5
instance (l : List Int) : Decidable (isLane l) := by unfold isLane; infer_instance
end Go.Proofs.Ythmdmbbdjbhcoaa
/- Structs that lie in cells of their own: what is read, what is written. -/
namespace Go.Proofs.Ythmdmbbdjbhcoaa.HL
/-- A pointer to a block of its own, whose cells are these. -/
def Cel (H : Hp) (p : Value) (cs : List Value) : Prop := ∃ r e, p = .pointer (some ⟨r, 0, none⟩) ∧ H r = some (.cells cs.toArray e (0, 0))
/-- The pointer to a field's first cell. -/
def fp (p : Value) (k : Nat) : Value := match p with | .pointer (some a) => .pointer (some (a.add k)) | _ => undef

theorem oc0 : ∀ x ∈ ([] : List Value), oneCell x = true := fun x hx => absurd hx (by simp)
theorem oc1 {a : Value} {l : List Value} (h : oneCell a = true) (t : ∀ x ∈ l, oneCell x = true) : ∀ x ∈ a :: l, oneCell x = true := fun x hx => by
  rcases List.mem_cons.mp hx with rfl | hx
  · exact h
  · exact t x hx
section
variable {H H' : Hp} {p u v : Value} {cs : List Value}
theorem Cel.le (h : Cel H p cs) (hl : Le H H') : Cel H' p cs := by
  obtain ⟨r, e, rfl, hr⟩ := h
  exact ⟨r, e, rfl, hl _ _ hr⟩
theorem Cel.off (h : Cel H p cs) (ho : Off v H H') (ha : Apart p v) : Cel H' p cs := by
  obtain ⟨r, e, rfl, hr⟩ := h
  exact ⟨r, e, rfl, ho _ _ hr (ha r rfl)⟩
theorem Cel.known (h : Cel H p cs) : ∀ b, bk p = some b → ∃ o, H b = some o := by
  obtain ⟨r, e, rfl, hr⟩ := h
  intro b hb
  simp only [bk, Option.some.injEq] at hb
  subst hb
  exact ⟨_, hr⟩
theorem Cel.apart (h : Cel H p cs) (hn : Nw H v) : Apart p v := Apart.of_nw h.known hn
theorem nw_i {cells : Array Value} {e : TypeId} {K : Value → Hp → Prop} (hk : ∀ p H', Cel H' p cells.toList → Nw H p → Le H H' → K p H') : nw cells e H K := by
  intro r hr
  refine hk _ _ ⟨r, e, rfl, by rw [Hp.put_same]⟩ ?_ (Le.put _ hr)
  intro b hb
  simp only [bk, Option.some.injEq] at hb
  subst hb
  exact hr
theorem Cel.fa (h : Cel H p cs) (k : Nat) : vFa k p = some (fp p k) := by
  obtain ⟨r, e, rfl, hr⟩ := h; rfl
theorem Cel.nilC (h : Cel H p cs) : vNilC p = some p := by
  obtain ⟨r, e, rfl, hr⟩ := h; rfl
theorem Cel.ld (h : Cel H p cs) (k : Nat) {x : Value} (hx : cs[k]? = some x) : vLoad (fp p k) H = some x := by
  obtain ⟨r, e, rfl, hr⟩ := h
  simp only [fp, vLoad, add_none, Hp.cell?, hr, Nat.zero_add]
  simpa using hx
theorem Cel.ld0 (h : Cel H p cs) {x : Value} (hx : cs[0]? = some x) : vLoad p H = some x := by
  obtain ⟨r, e, rfl, hr⟩ := h
  simp only [vLoad, Hp.cell?, hr]
  simpa using hx
theorem Cel.ldn (h : Cel H p cs) {n : Nat} (hn : cs.length = n) : vLoadN n p H = some (.agg cs.toArray) := by
  obtain ⟨r, e, rfl, hr⟩ := h
  simp only [vLoadN]
  rw [rd_cells (enc := id) ⟨r, 0, none⟩ n 0 cs hn (fun i hi => by
    simp only [add_none, Hp.cell?, hr, Nat.zero_add]
    simp [hi])]
  simp
theorem Cel.st (h : Cel H p cs) {k : Nat} {x : Value} {K : Hp → Prop} (hk : k < cs.length) (ho : oneCell x = true) (hz : x.cells = #[x]) (hK : ∀ H', Cel H' p (cs.set k x) → Off p H H' → K H') : st 1 (fp p k) x H K := by
  obtain ⟨r, e, rfl, hr⟩ := h
  simp only [HL.st, fp, add_none, Nat.zero_add, hz, List.toList_toArray, List.size_toArray, List.length_singleton, true_and, stC, Nat.add_zero]
  refine ⟨ho, ?_, ?_, ?_⟩
  · simp only [Hp.cell?, hr]; simp [hk]
  · simp only [Hp.frozen?, hr]; simp
  · refine hK _ ⟨r, e, rfl, ?_⟩ ?_
    · simp only [Hp.setCell, hr, Hp.put_same]; simp
    · intro b o hb hv
      simp only [bk, ne_eq, Option.some.injEq] at hv
      simp only [Hp.setCell, hr]
      rw [Hp.put_ne _ _ (Ne.symm hv)]
      exact hb
theorem Cel.st0 (h : Cel H p cs) {x : Value} {K : Hp → Prop} (hk : 0 < cs.length) (ho : oneCell x = true) (hz : x.cells = #[x]) (hK : ∀ H', Cel H' p (cs.set 0 x) → Off p H H' → K H') : HL.st 1 p x H K := by
  have : p = fp p 0 := by obtain ⟨r, e, rfl, hr⟩ := h; simp [fp, add_none]
  have h2 := h.st (K := K) hk ho hz hK
  rwa [← this] at h2
theorem Cel.stn (h : Cel H p cs) {ws : List Value} {n : Nat} {K : Hp → Prop} (hn : ws.length = n) (hl : cs.length = n) (ho : ∀ x ∈ ws, oneCell x = true) (hK : ∀ H', Cel H' p ws → Off p H H' → K H') : HL.st n p (.agg ws.toArray) H K := by
  obtain ⟨r, e, rfl, hr⟩ := h
  simp only [HL.st, Value.cells, List.size_toArray, hn, true_and]
  refine stC_run (b := r) (e := e) ws _ 0 cs.toArray H rfl rfl hr (by simp; omega) ho ?_
  intro H' cs' h1 h2 h3 h4 h5
  refine hK H' ⟨r, e, rfl, ?_⟩ ?_
  · rw [h1]
    have : cs' = ws.toArray := by
      apply Array.ext_getElem?
      intro i
      by_cases hi : i < ws.length
      · have := h4 i hi
        simp only [Nat.zero_add] at this
        rw [this]; simp [hi]
      · rw [Array.getElem?_eq_none (by rw [h2]; simp; omega), Array.getElem?_eq_none (by simp; omega)]
    rw [this]
  · intro b o hb hv
    simp only [bk, ne_eq, Option.some.injEq] at hv
    rw [h5 b (Ne.symm hv)]; exact hb
end
end Go.Proofs.Ythmdmbbdjbhcoaa.HL
/- Lists of truths: copies, and what is alike; lengths that are paid for. -/
namespace Go.Proofs.Ythmdmbbdjbhcoaa
open HL
set_option maxRecDepth 100000
end Go.Proofs.Ythmdmbbdjbhcoaa
/- Fields: which are valid, which are plain, and what lies where, round and round. -/
namespace Go.Proofs.Ythmdmbbdjbhcoaa
open HL
variable {r c n a b i k : Int} {l : List Int} {p vc : Value} {H : Hp} {K : Value → Hp → Prop}
set_option maxRecDepth 100000
def sidesF (r c : Int) : Prop := (1 ≤ r ∧ r ≤ 24) ∧ (1 ≤ c ∧ c ≤ 24)
instance (r c : Int) : Decidable (sidesF r c) := by unfold sidesF; infer_instance
theorem sidesF_mul (h : sidesF r c) : 1 ≤ r * c ∧ r * c ≤ 576 := by
  obtain ⟨⟨h1, h2⟩, h3, h4⟩ := h
  have a := Int.mul_le_mul h2 h4 (by omega) (by omega)
  have b := Int.mul_le_mul h1 h3 (by omega) (by omega)
  omega
/-- A field whose cells are from 0 to n. -/
def fieldN (n r c : Int) (l : List Int) : Prop := sidesF r c ∧ (l.length : Int) = r * c ∧ ∀ x ∈ l, 0 ≤ x ∧ x ≤ n
instance (n r c : Int) (l : List Int) : Decidable (fieldN n r c l) := by unfold fieldN; infer_instance
theorem vInt_mulF (a b : Int) : vInt .mul (.int .i64 a) (.int .i64 b) = some (.int .i64 (IntKind.i64.wrap (a * b))) := by simp only [vInt, if_true]
theorem fieldN_len (h : fieldN n r c l) : l.length ≤ 576 := by
  have := sidesF_mul h.1
  have := h.2.1
  omega
theorem fieldN_at (h : fieldN n r c l) {i : Int} (h0 : 0 ≤ i) (hi : i < r * c) : 0 ≤ at_ 0 l i ∧ at_ 0 l i ≤ n :=
  h.2.2 _ (at_mem 0 l h0 (by rw [h.2.1]; exact hi))
theorem C.c4 (hp : Cel H p [.int .i64 r, .int .i64 c, vc]) (hc : Sl eI H vc l)
    (k1 : l.length ≤ 9223372036854775807) (hk : K (.bool (decide (fieldN 9 r c l))) H) : HT prg 70 [p].toArray H K := by
 refine R.q70 ?_
 unfold F.q70
 simp only [hp.nilC, hp.fa, hp.ld 0 rfl, ob_some]
 refine C.c0 ⟨Le.refl _, ?_⟩
 by_cases c1 : 1 ≤ r ∧ r ≤ 24
 simp only [decide_eq_true c1, hp.nilC, hp.fa, hp.ld 1 rfl, EV]
 refine C.c0 ⟨Le.refl _, ?_⟩
 by_cases c2 : 1 ≤ c ∧ c ≤ 24
 have hs : sidesF r c := ⟨c1, c2⟩
 have hm := sidesF_mul hs
 simp only [decide_eq_true c2, hp.nilC, hp.fa, hp.ld 2 rfl, hp.ld 0 rfl, hp.ld 1 rfl, hc.len, vInt_mulF, wrap64 (show -9223372036854775808 ≤ r * c by omega) (show r * c < 9223372036854775808 by omega), EV]
 by_cases c3 : (l.length : Int) = r * c
 have f3 : decide ((l.length : Int) ≠ r * c) = false := decide_eq_false (fun h => h c3)
 simp only [f3, EV]
 unfold jn; dsimp only
 refine ⟨fun n σ H1 => ∃ i : Nat, n = l.length - i ∧ i ≤ l.length ∧ H1 = H ∧ σ 0 = p ∧ σ 3 = .int .i64 i ∧ ∀ x ∈ l.take i, 0 ≤ x ∧ x ≤ 9, ⟨_, 0, rfl, by omega, rfl, rfl, rfl, by simp⟩, ?_⟩
 rintro n σ H1 ⟨i, rfl, hi', rfl, h0, h3, hall⟩
 simp only [h0, h3, hp.nilC, hp.fa, hp.ld 2 rfl, hc.len, vInt_lss, ob_some]
 refine cnd_d (fun hlt => ?_) (fun hge => ?_)
 have hlt' : i < l.length := by omega
 rw [hc.ix (by omega) hlt, ob_some, hc.ld 0 (by omega) hlt, ob_some]
 refine C.c0 ?_
 rw [vUn_not, ob_some]
 refine cnd_i (fun hb => ?_) (fun hb => ?_)
 refine retK (K := K) (v' := .bool false) rfl (kF (K := K) hk ?_)
 intro hh
 have := hh.2.2 _ (at_mem 0 l (i := i) (by omega) hlt)
 simp [this] at hb
 rw [vInt_add (by omega) (by omega), ob_some]
 refine nxt (l.length - (i + 1)) (by omega) ⟨i + 1, rfl, by omega, rfl, h0, rfl, ?_⟩
 rw [take_at 0 l hlt']
 intro x hx
 rcases List.mem_append.mp hx with hx | hx
 exact hall x hx
 simp only [List.mem_singleton] at hx; subst hx; simpa using hb
 rw [List.take_of_length_le (by omega)] at hall
 exact retK (K := K) (v' := .bool true) rfl (kT (K := K) hk ⟨hs, c3, hall⟩)
 have f3 : decide ((l.length : Int) ≠ r * c) = true := decide_eq_true c3
 simp only [f3, EV]; exact kF (K := K) hk (fun h => c3 h.2.1)
 simp only [decide_eq_false c2, EV]; exact kF (K := K) hk (fun h => c2 h.1.2)
 simp only [decide_eq_false c1, EV]; exact kF (K := K) hk (fun h => c1 h.1.1)

theorem C.c5 (hp : Cel H p [.int .i64 r, .int .i64 c, vc]) (hc : Sl eI H vc l)
    (k1 : l.length ≤ 9223372036854775807) (hk : K (.bool (decide (fieldN 1 r c l))) H) : HT prg 111 [p].toArray H K := by
 refine R.q111 ?_
 unfold F.q111
 refine C.c4 hp hc k1 ?_
 by_cases c1 : fieldN 9 r c l
 simp only [decide_eq_true c1, EV]
 unfold jn; dsimp only
 refine ⟨fun n σ H1 => ∃ i : Nat, n = l.length - i ∧ i ≤ l.length ∧ H1 = H ∧ σ 0 = p ∧ σ 3 = .int .i64 i ∧ ∀ x ∈ l.take i, x ≤ 1, ⟨_, 0, rfl, by omega, rfl, rfl, rfl, by simp⟩, ?_⟩
 rintro n σ H1 ⟨i, rfl, hi', rfl, h0, h3, hall⟩
 simp only [h0, h3, hp.nilC, hp.fa, hp.ld 2 rfl, hc.len, vInt_lss, ob_some]
 refine cnd_d (fun hlt => ?_) (fun hge => ?_)
 have hlt' : i < l.length := by omega
 rw [hc.ix (by omega) hlt, ob_some, hc.ld 0 (by omega) hlt, ob_some, vInt_gtr, ob_some]
 refine cnd_d (fun hb => ?_) (fun hb => ?_)
 refine retK (K := K) (v' := .bool false) rfl (kF (K := K) hk ?_)
 intro hh
 have := hh.2.2 _ (at_mem 0 l (i := i) (by omega) hlt)
 omega
 rw [vInt_add (by omega) (by omega), ob_some]
 refine nxt (l.length - (i + 1)) (by omega) ⟨i + 1, rfl, by omega, rfl, h0, rfl, ?_⟩
 rw [take_at 0 l hlt']
 intro x hx
 rcases List.mem_append.mp hx with hx | hx
 exact hall x hx
 simp only [List.mem_singleton] at hx; subst hx; omega
 rw [List.take_of_length_le (by omega)] at hall
 exact retK (K := K) (v' := .bool true) rfl (kT (K := K) hk ⟨c1.1, c1.2.1, fun x hx => ⟨(c1.2.2 x hx).1, hall x hx⟩⟩)
 simp only [decide_eq_false c1, EV]; exact kF (K := K) hk (fun h => c1 ⟨h.1, h.2.1, fun x hx => by have := h.2.2 x hx; omega⟩)

theorem C.c6 (hk : K (.bool (decide (1 ≤ r ∧ r ≤ 24))) H) : HT prg 152 [.int .i64 r].toArray H K := R.q152 (C.c1 hk)
theorem C.c7 (hc : Sl eI H vc l)
    (k1 : l.length ≤ 9223372036854775807) (hk : ∀ H', Le H H' → K (.bool (decide (fieldN 9 r c l))) H') : HT prg 139 [.agg #[.int .i64 r, .int .i64 c, vc]].toArray H K := by
 refine R.q139 ?_
 unfold F.q139
 refine nw_i (fun p H1 hp np le1 => ?_)
 replace hk := hk H1 le1
 simp only [hp.fa, hp.ld 0 rfl, hp.ld 1 rfl, vInt_mulF, ob_some]
 refine C.c6 ?_
 by_cases c1 : 1 ≤ r ∧ r ≤ 24
 simp only [decide_eq_true c1, hp.fa, hp.ld 1 rfl, EV]
 refine C.c6 ?_
 by_cases c2 : 1 ≤ c ∧ c ≤ 24
 have hs : sidesF r c := ⟨c1, c2⟩
 have hm := sidesF_mul hs
 simp only [decide_eq_true c2, hp.fa, hp.ld 2 rfl, wrap64 (show -9223372036854775808 ≤ r * c by omega) (show r * c < 9223372036854775808 by omega), EV]
 replace hc := hc.le le1
 refine C.c3 hc k1 ?_
 exact kQ (K := K) hk ⟨fun h => ⟨⟨by have := h.2.1; omega, by have := h.2.1; omega⟩, h.2.2⟩, fun h => ⟨hs, by omega, h.2⟩⟩
 simp only [decide_eq_false c2, EV]; exact kF (K := K) hk (fun h => c2 h.1.2)
 simp only [decide_eq_false c1, EV]; exact kF (K := K) hk (fun h => c1 h.1.1)

theorem C.c8 (hc : Sl eI H vc l)
    (k1 : l.length ≤ 9223372036854775807) (hk : ∀ H', Le H H' → K (.bool (decide (fieldN 1 r c l))) H') : HT prg 108 [.agg #[.int .i64 r, .int .i64 c, vc]].toArray H K := by
 refine R.q108 ?_
 unfold F.q108
 refine nw_i (fun p H1 hp np le1 => ?_)
 refine ob_i (hp.ldn rfl) (C.c7 (hc.le le1) k1 (fun H2 le2 => ?_))
 replace hk := hk H2 (le1.trans le2)
 by_cases c1 : fieldN 9 r c l
 replace hp := hp.le le2
 simp only [decide_eq_true c1, hp.fa, hp.ld 2 rfl, EV]
 replace hc := hc.le (le1.trans le2)
 refine C.c2 hc k1 ?_
 exact kQ (K := K) hk ⟨fun h => h.2.2, fun h => ⟨c1.1, c1.2.1, h⟩⟩
 simp only [decide_eq_false c1, EV]; exact kF (K := K) hk (fun h => c1 ⟨h.1, h.2.1, fun x hx => by have := h.2.2 x hx; omega⟩)

theorem fm_eq (hb : 0 < b) : (a.tmod b + b).tmod b = a % b := by
  have h0 : 0 ≤ a.tmod b + b := by have := Int.lt_tmod_of_pos a hb; omega
  rw [Int.tmod_eq_emod_of_nonneg h0, Int.tmod_def, show a - b * a.tdiv b + b = a + b * (1 - a.tdiv b) by rw [Int.mul_sub, Int.mul_one]; omega, Int.add_mul_emod_self_left]
theorem tmod_bnd (hb : 0 < b) : -b < a.tmod b ∧ a.tmod b < b := ⟨by have := Int.lt_tmod_of_pos a hb; omega, Int.tmod_lt_of_pos a hb⟩
/-- A place, round and round. -/
def roundF (r c i k : Int) : Int := i % r * c + k % c
theorem roundF_lt (h : sidesF r c) : 0 ≤ i % r ∧ i % r < r ∧ 0 ≤ k % c ∧ k % c < c ∧ 0 ≤ i % r * c ∧ i % r * c ≤ 576 ∧ 0 ≤ roundF r c i k ∧ roundF r c i k < r * c := by
  obtain ⟨⟨h1, h2⟩, h3, h4⟩ := h
  have a1 := Int.emod_nonneg i (b := r) (by omega)
  have a2 := Int.emod_lt_of_pos i (b := r) (by omega)
  have a3 := Int.emod_nonneg k (b := c) (by omega)
  have a4 := Int.emod_lt_of_pos k (b := c) (by omega)
  have a5 := Int.mul_nonneg (a := i % r) (b := c) a1 (by omega)
  have a6 := Int.mul_le_mul (a := i % r) (b := c) (c := r - 1) (d := c) (by omega) (by omega) (by omega) (by omega)
  rw [Int.sub_mul] at a6
  have a7 := Int.mul_le_mul h2 h4 (by omega) (by omega)
  unfold roundF
  omega
theorem C.c9 (hp : Cel H p [.int .i64 r, .int .i64 c, vc]) (hs : sidesF r c)
    (hk : K (.int .i64 (roundF r c i k)) H) : HT prg 144 [p, .int .i64 i, .int .i64 k].toArray H K := by
 refine R.q144 ?_
 unfold F.q144
 have b := roundF_lt (i := i) (k := k) hs
 have m := sidesF_mul hs
 obtain ⟨⟨h1, h2⟩, h3, h4⟩ := hs
 have t1 := tmod_bnd (a := i) (b := r) (by omega)
 have t2 := tmod_bnd (a := k) (b := c) (by omega)
 simp only [hp.nilC, hp.fa, hp.ld 0 rfl, hp.ld 1 rfl, ob_some]
 rw [vInt_rem (by omega), ob_some, vInt_add (by omega) (by omega), ob_some, vInt_rem (by omega), ob_some, vInt_rem (by omega), ob_some, vInt_add (by omega) (by omega), ob_some, vInt_rem (by omega), ob_some, fm_eq (by omega), fm_eq (by omega),
    vInt_mul (by omega) (by omega), ob_some, vInt_add (by unfold roundF at b; omega) (by unfold roundF at b; omega), ob_some]
 exact hk

theorem C.c10 (h0 : -1000000 ≤ a) (h1 : a ≤ 1000000) (h2 : 0 < b) (h3 : b ≤ 1000000) (hk : K (.int .i64 (a % b)) H) : HT prg 145 [.int .i64 a, .int .i64 b].toArray H K := by
 refine R.q145 ?_
 unfold F.q145
 have t1 := tmod_bnd (a := a) (b := b) h2
 rw [vInt_rem (by omega), ob_some, vInt_add (by omega) (by omega), ob_some, vInt_rem (by omega), ob_some, fm_eq h2]
 exact hk

theorem C.c11 (hc : Sl eI H vc l) (h0 : 0 ≤ i * c) (h1 : i * c ≤ 1000000) (h2 : 0 ≤ i * c + k) (h3 : i * c + k < l.length) (h4 : l.length ≤ 1000000)
    (hk : ∀ H', Le H H' → K (.int .i64 (at_ 0 l (i * c + k))) H') : HT prg 83 [.agg #[.int .i64 r, .int .i64 c, vc], .int .i64 i, .int .i64 k].toArray H K := by
 refine R.q83 ?_
 unfold F.q83
 refine nw_i (fun p H1 hp np le1 => ?_)
 simp only [hp.fa, hp.ld 1 rfl, hp.ld 2 rfl, ob_some]
 rw [vInt_mul (by omega) (by omega), ob_some, vInt_add (by omega) (by omega), ob_some, (hc.le le1).ix h2 h3, ob_some, (hc.le le1).ld 0 h2 h3, ob_some]
 exact hk _ le1

theorem C.c12 (hc : Sl eI H vc l) (hs : sidesF r c) (hl : (l.length : Int) = r * c) (i0 : -1000 ≤ i) (i1 : i ≤ 1000) (k0 : -1000 ≤ k) (k1 : k ≤ 1000)
    (hk : ∀ H', Le H H' → K (.int .i64 (at_ 0 l (roundF r c i k))) H') : HT prg 155 [.agg #[.int .i64 r, .int .i64 c, vc], .int .i64 i, .int .i64 k, .bool true].toArray H K := by
 refine R.q155 ?_
 unfold F.q155
 refine nw_i (fun p H1 hp np le1 => ?_)
 refine cnd_t1 ?_
 have b := roundF_lt (i := i) (k := k) hs
 have m := sidesF_mul hs
 have q1 := hs.1
 have q2 := hs.2
 refine ob_i (hp.ldn rfl) ?_
 simp only [hp.fa, hp.ld 0 rfl, hp.ld 1 rfl, ob_some]
 refine C.c10 (by omega) (by omega) (by omega) (by omega) ⟨Le.refl _, ?_⟩
 refine C.c10 (by omega) (by omega) (by omega) (by omega) ⟨Le.refl _, ?_⟩
 refine C.c11 (hc.le le1) (by omega) (by omega) (by unfold roundF at b; omega) (by rw [hl]; unfold roundF at b; omega) (by omega) (fun H2 le2 => ⟨le2, ?_⟩)
 exact hk _ (le1.trans le2)

end Go.Proofs.Ythmdmbbdjbhcoaa
/- Fields that are made by a function of rows and columns, and fields that grow. -/
namespace Go.Proofs.Ythmdmbbdjbhcoaa
open HL
variable {H : Hp} {u u' z vc : Value} {K : Value → Hp → Prop} {c i k r : Int}
set_option maxRecDepth 100000
theorem Apart.app {x : Value} (hx : ∀ b, bk x = some b → ∃ o, H b = some o) (ha : Apart x u) (hb : ∀ b, bk u' = some b → bk u = some b ∨ H b = none) : Apart x u' := fun b h1 h2 => by
  rcases hb b h2 with h | h
  · exact ha b h1 h
  · obtain ⟨o, ho⟩ := hx b h1; rw [h] at ho; simp at ho
theorem Nw.app {H0 : Hp} (hn : Nw H0 u) (hl : Le H0 H) (hb : ∀ b, bk u' = some b → bk u = some b ∨ H b = none) : Nw H0 u' := fun b h => by
  rcases hb b h with h1 | h1
  · exact hn b h1
  · cases ho : H0 b with
    | none => rfl
    | some o => rw [hl b o ho] at h1; simp at h1
theorem apd_one {α : Type} {enc : α → Value} {b : Nat} {e : TypeId} {t : Value} {x : α} {l : List α} (o : Own enc H u l) (ot : Sl enc H t [x]) (ho : ∀ x, oneCell (enc x) = true) (hb : b ≤ 64) (hl : l.length ≤ 68719476736)
    (hk : ∀ u' H', Own enc H' u' (l ++ [x]) → Off u H H' → (∀ b, bk u' = some b → bk u = some b ∨ H b = none) → K u' H') : apd 1 b #[z] e u t H K := by
  refine o.apd ot ho (by simp; omega) (fun c hc => ?_) hk
  have := nsc_le hc
  simp only [List.length_singleton] at this ⊢
  exact Nat.le_trans (Nat.mul_le_mul this hb) (by omega)
theorem bS_i {α : Type} {enc : α → Value} {len : Nat} {e : TypeId} {parts : List (Nat × Value)} {l : List α} (h1 : len ≤ 1000) (hl : l.length = len)
    (hf : Instr.fill (fun i => some (i * 1, 1)) (if len * 1 = 0 then #[] else zrow #[z] (len * 1)) parts = some (l.map enc).toArray) (hk : ∀ v H', Own enc H' v l → Nw H v → Le H H' → K v H') : bS 1 len #[z] e parts H K := by
  refine ⟨by omega, ?_⟩
  rw [hf]
  intro r hr
  subst hl
  refine hk _ _ ⟨some ⟨r, 0, none⟩, l.length, rfl, Nat.le_refl _, fun _ => ⟨r, 0, _, e, rfl, Hp.put_same _ _ _, by simp, fun i hi => by simp [hi]⟩⟩ ?_ (Le.put _ hr)
  intro b hb
  simp only [bk] at hb
  split at hb
  · simp at hb
  · simp only [Option.some.injEq] at hb; subst hb; exact hr
/-- A field's cells, row by row, by a function. -/
def mkL (c : Int) (g : Int → Int → Int) (n : Nat) : List Int := (List.range n).map fun (t : Nat) => g ((t : Int) / c) ((t : Int) % c)
theorem mkL_length (c : Int) (g : Int → Int → Int) (n : Nat) : (mkL c g n).length = n := by simp [mkL]
theorem mkL_succ (c : Int) (g : Int → Int → Int) (n : Nat) : mkL c g (n + 1) = mkL c g n ++ [g ((n : Int) / c) ((n : Int) % c)] := by simp [mkL, List.range_succ]
theorem divmod (hc : 0 < c) (k0 : 0 ≤ k) (k1 : k < c) : (i * c + k) / c = i ∧ (i * c + k) % c = k := by
  constructor
  · rw [Int.add_comm, Int.add_mul_ediv_right _ _ (by omega), Int.ediv_eq_zero_of_lt k0 k1]; omega
  · rw [Int.add_comm, Int.add_mul_emod_self_right, Int.emod_eq_of_lt k0 k1]
theorem cast_ix {i k : Nat} (hc : 0 ≤ c) : ((i * c.toNat + k : Nat) : Int) = i * c + k := by rw [Int.natCast_add, Int.natCast_mul, Int.toNat_of_nonneg hc]
theorem C.c13 {fv : Value} {rr cc : Int} {g : Int → Int → Int} (r1 : 0 ≤ rr) (r2 : rr ≤ 1000) (c1 : 1 ≤ cc) (c2 : cc ≤ 1000)
    (hcl : ∀ H' (i k : Nat) (Z : Value → Hp → Prop), Le H H' → (i : Int) < rr → (k : Int) < cc → (∀ H'', Le H' H'' → Z (.int .i64 (g i k)) H'') → callV prg fv [.int .i64 i, .int .i64 k] H' Z)
    (hk : ∀ u H', Own eI H' u (mkL cc g (rr.toNat * cc.toNat)) → Nw H u → Le H H' → K (.agg #[.int .i64 rr, .int .i64 cc, u]) H') :
    HT prg 81 [.int .i64 rr, .int .i64 cc, fv].toArray H K := by
 refine R.q81 ?_
 unfold F.q81
 refine nw_i (fun q H1 oq nq le1 => ?_)
 replace oq : Cel H1 q [.int .i64 0, .int .i64 0, .slice none 0 0] := oq
 refine ob_i (a := .agg #[.int .i64 rr, .int .i64 cc, .slice none 0 0]) rfl ?_
 refine nw_i (fun s H2 os ns le2 => ?_)
 have aqs : Apart q s := oq.apart ns
 have ns0 : Nw H s := ns.le le1
 have nq0 : Nw H q := nq
 refine os.stn (ws := [.int .i64 rr, .int .i64 cc, .slice none 0 0]) rfl rfl (by simp [oneCell]) (fun H3 os off3 => ?_)
 have leB : Le H H3 := off3.le (le1.trans le2) ns0
 refine jn_i (fun σ' H' => σ' 6 = q ∧ σ' 7 = s ∧ Cel H' q [.int .i64 0, .int .i64 0, .slice none 0 0] ∧ Le H H' ∧ ∃ u, Cel H' s [.int .i64 rr, .int .i64 cc, u] ∧ Own eI H' u (mkL cc g (rr.toNat * cc.toNat)) ∧ Nw H u ∧ Apart q u) (fun σ' H' hP => ?_) (fun J7 hJ7 => ?_)
 replace oq := (oq.le le2).off off3 aqs
 obtain ⟨g6, g7, oq, le, u, os, ou, nu, aqu⟩ := hP
 rw [g6, g7]
 refine ob_i (os.ldn rfl) (oq.stn (ws := [.int .i64 rr, .int .i64 cc, u]) rfl rfl (oc1 rfl (oc1 rfl (oc1 ou.one oc0))) (fun H6 oq off6 => ?_))
 exact ob_i (oq.ldn rfl) (hk u H6 (ou.off off6 aqu.symm) nu (off6.le le nq0))
 replace oq := (oq.le le2).off off3 aqs
 refine ⟨fun n σ H4 => ∃ i : Nat, n = rr.toNat - i ∧ (i : Int) ≤ rr ∧ σ 1 = .int .i64 cc ∧ σ 2 = fv ∧ σ 6 = q ∧ σ 7 = s ∧ σ 13 = .int .i64 rr ∧ σ 14 = .int .i64 i ∧ Cel H4 q [.int .i64 0, .int .i64 0, .slice none 0 0] ∧ Le H H4 ∧
      ∃ u, Cel H4 s [.int .i64 rr, .int .i64 cc, u] ∧ Own eI H4 u (mkL cc g (i * cc.toNat)) ∧ Nw H u ∧ Apart q u ∧ Apart s u,
    ⟨_, 0, rfl, by omega, rfl, rfl, rfl, rfl, rfl, rfl, oq, leB, .slice none 0 0, os, by rw [Nat.zero_mul]; exact Own.nil_of none, fun b hb => by simp [bk] at hb, fun b _ hb => by simp [bk] at hb, fun b _ hb => by simp [bk] at hb⟩, ?_⟩
 rintro n σ H4 ⟨i, rfl, hiR, g1, g2, g6, g7, g13, g14, oq, le4, hu⟩
 simp only [g1, g13, g14, vInt_lss, ob_some]
 refine cnd_d (fun hlt => ?_) (fun hge => ?_)
 refine jn_i (fun σ' H' => σ' 1 = .int .i64 cc ∧ σ' 2 = fv ∧ σ' 6 = q ∧ σ' 7 = s ∧ σ' 13 = .int .i64 rr ∧ σ' 14 = .int .i64 i ∧ Cel H' q [.int .i64 0, .int .i64 0, .slice none 0 0] ∧ Le H H' ∧
      ∃ u, Cel H' s [.int .i64 rr, .int .i64 cc, u] ∧ Own eI H' u (mkL cc g ((i + 1) * cc.toNat)) ∧ Nw H u ∧ Apart q u ∧ Apart s u) (fun σ' H' hP => ?_) (fun J13 hJ13 => ?_)
 obtain ⟨z1, z2, z6, z7, z13, z14, zq, zle, zu⟩ := hP
 rw [z14, vInt_add (by omega) (by omega), ob_some]
 exact nxt (rr.toNat - (i + 1)) (by omega) ⟨i + 1, rfl, by omega, z1, z2, z6, z7, z13, rfl, zq, zle, zu⟩
 refine ⟨fun n σ H5 => ∃ k : Nat, n = cc.toNat - k ∧ (k : Int) ≤ cc ∧ σ 1 = .int .i64 cc ∧ σ 2 = fv ∧ σ 6 = q ∧ σ 7 = s ∧ σ 13 = .int .i64 rr ∧ σ 14 = .int .i64 i ∧ σ 8 = .int .i64 i ∧ σ 17 = .int .i64 cc ∧ σ 18 = .int .i64 k ∧ Cel H5 q [.int .i64 0, .int .i64 0, .slice none 0 0] ∧ Le H H5 ∧
      ∃ u, Cel H5 s [.int .i64 rr, .int .i64 cc, u] ∧ Own eI H5 u (mkL cc g (i * cc.toNat + k)) ∧ Nw H u ∧ Apart q u ∧ Apart s u,
    ⟨_, 0, rfl, by omega, g1, g2, g6, g7, g13, g14, rfl, rfl, rfl, oq, le4, hu⟩, ?_⟩
 rintro n σ H5 ⟨k, rfl, hkC, z1, z2, z6, z7, z13, z14, z8, z17, z18, zq, le5, u, zs, zu, nu, aqu, asu⟩
 simp only [z2, z7, z8, z17, z18, vInt_lss, ob_some]
 refine cnd_d (fun hkl => ?_) (fun hkg => ?_)
 simp only [zs.fa, zs.ld 2 rfl, ob_some]
 refine hcl H5 i k _ le5 hlt hkl (fun H6 le6 => ⟨le6, ?_⟩)
 refine bS_i (enc := eI) (l := [g i k]) (by omega) rfl (by kernel_rfl) (fun t H7 ot nt le7 => ?_)
 have le57 := le6.trans le7
 have leB7 := le5.trans le57
 have hlen : (mkL cc g (i * cc.toNat + k)).length ≤ 68719476736 := by
    rw [mkL_length]
    have : i * cc.toNat ≤ 1000 * 1000 := Nat.mul_le_mul (by omega) (by omega)
    omega
 replace zu := zu.le le57
 refine apd_one zu ot.sl (fun _ => rfl) (by omega) hlen (fun u' H8 ou' off8 hbk => ?_)
 replace zq := zq.le le57
 have aqu' : Apart q u' := Apart.app zq.known aqu hbk
 replace zs := zs.le le57
 have asu' : Apart s u' := Apart.app zs.known asu hbk
 have nu' : Nw H u' := Nw.app nu leB7 hbk
 have leB8 : Le H H8 := off8.le leB7 nu
 replace zs := zs.off off8 asu
 refine zs.st (by simp) ou'.one ou'.cells (fun H9 os9 off9 => ?_)
 rw [vInt_add (by omega) (by omega), ob_some]
 replace zq := zq.off off8 aqu
 refine nxt (cc.toNat - (k + 1)) (by omega) ⟨k + 1, rfl, by omega, z1, z2, z6, z7, z13, z14, z8, z17, rfl, zq.off off9 aqs, off9.le leB8 ns0, u', os9, ?_, nu', aqu', asu'⟩
 have hd := divmod (c := cc) (i := i) (k := k) (by omega) (by omega) hkl
 rw [← Nat.add_assoc, mkL_succ, cast_ix (by omega), hd.1, hd.2]
 exact ou'.off off9 asu'.symm
 have e : k = cc.toNat := by omega
 refine hJ13 _ _ ⟨z1, z2, z6, z7, z13, z14, zq, le5, u, zs, ?_, nu, aqu, asu⟩
 rw [Nat.add_mul, Nat.one_mul, ← e]; rw [← e] at zu; exact zu
 have e : i = rr.toNat := by omega
 subst e
 obtain ⟨u, os, ou, nu, aqu, asu⟩ := hu
 exact hJ7 _ _ ⟨g6, g7, oq, le4, u, os, ou, nu, aqu⟩

/-- A cell, or 0 beyond the border. -/
def flatF (r c : Int) (l : List Int) (i k : Int) : Int := if (0 ≤ i ∧ i ≤ r - 1) ∧ 0 ≤ k ∧ k ≤ c - 1 then at_ 0 l (i * c + k) else 0
theorem C.c14 (hs : sidesF r c) (hk : ∀ H', Le H H' → K (.bool (decide ((0 ≤ i ∧ i ≤ r - 1) ∧ 0 ≤ k ∧ k ≤ c - 1))) H') :
    HT prg 158 [.agg #[.int .i64 r, .int .i64 c, vc], .int .i64 i, .int .i64 k].toArray H K := by
 refine R.q158 ?_
 unfold F.q158
 refine nw_i (fun p H1 hp np le1 => ?_)
 replace hk := hk H1 le1
 have q1 := hs.1
 have q2 := hs.2
 simp only [hp.fa, hp.ld 0 rfl, ob_some]
 rw [vInt_sub (by omega) (by omega), ob_some]
 refine C.c1 ?_
 by_cases c1 : 0 ≤ i ∧ i ≤ r - 1
 simp only [decide_eq_true c1, hp.fa, hp.ld 1 rfl, EV]
 rw [vInt_sub (by omega) (by omega), ob_some]
 refine C.c1 ?_
 exact kQ (K := K) hk ⟨fun h => h.2, fun h => ⟨c1, h⟩⟩
 simp only [decide_eq_false c1, EV]; exact kF (K := K) hk (fun h => c1 h.1)

theorem C.c15 {l : List Int} (hc : Sl eI H vc l) (hs : sidesF r c) (hl : (l.length : Int) = r * c)
    (hk : ∀ H', Le H H' → K (.int .i64 (flatF r c l i k)) H') : HT prg 155 [.agg #[.int .i64 r, .int .i64 c, vc], .int .i64 i, .int .i64 k, .bool false].toArray H K := by
 refine R.q155 ?_
 unfold F.q155
 refine nw_i (fun p H1 hp np le1 => ?_)
 refine cnd_f1 (ob_i (hp.ldn rfl) (C.c14 hs (fun H2 le2 => ?_)))
 rw [vUn_not, ob_some]
 have m := sidesF_mul hs
 by_cases c1 : (0 ≤ i ∧ i ≤ r - 1) ∧ 0 ≤ k ∧ k ≤ c - 1
 have hk' := fun H' h => hk H' h
 simp only [flatF, c1, and_self, if_true] at hk'
 simp only [decide_eq_true c1, EV]
 refine ob_i ((hp.le le2).ldn rfl) ?_
 have a1 := Int.mul_nonneg (a := i) (b := c) (by omega) (by have := hs.2; omega)
 have a2 := Int.mul_le_mul (a := i) (b := c) (c := r - 1) (d := c) (by omega) (by omega) (by have := hs.2; omega) (by have := hs.1; omega)
 rw [Int.sub_mul] at a2
 refine C.c11 (hc.le (le1.trans le2)) (by omega) (by have := hs.2; omega) (by omega) (by rw [hl]; omega) (by omega) (fun H3 le3 => ?_)
 exact hk' _ ((le1.trans le2).trans le3)
 have h1 := hk H2 (le1.trans le2)
 simp only [flatF, c1, if_false] at h1
 simp only [decide_eq_false c1, EV]; exact h1

end Go.Proofs.Ythmdmbbdjbhcoaa
/- Fields with a border of zeros: the program's and the reference's. -/
namespace Go.Proofs.Ythmdmbbdjbhcoaa
open HL
set_option maxRecDepth 100000
def groOk (r c : Int) (l : List Int) (b : Int) : Prop := fieldN 1 r c l ∧ (0 ≤ b ∧ b ≤ 24) ∧ (1 ≤ r + 2 * b ∧ r + 2 * b ≤ 24) ∧ (1 ≤ c + 2 * b ∧ c + 2 * b ≤ 24)
instance (r c : Int) (l : List Int) (b : Int) : Decidable (groOk r c l b) := by unfold groOk; infer_instance
theorem C.c16 {rr cc : Int} {H : Hp} {K : Value → Hp → Prop} (r0 : 0 ≤ rr) (r1 : rr ≤ 24) (c0 : 0 ≤ cc) (c1 : cc ≤ 24)
    (hk : ∀ u H', Own eI H' u (List.replicate (rr.toNat * cc.toNat) 0) → Nw H u → Le H H' → K (.agg #[.int .i64 rr, .int .i64 cc, u]) H') : HT prg 72 [.int .i64 rr, .int .i64 cc].toArray H K := by
 refine R.q72 ?_
 unfold F.q72
 have m := Int.mul_le_mul r1 c1 c0 (by omega)
 have m0 := Int.mul_nonneg r0 c0
 refine nw_i (fun q H1 oq nq le1 => ?_)
 rw [vInt_mul (by omega) (by omega), ob_some]
 refine Own.mk_ (z := (0 : Int)) (by omega) (by omega) (by omega) (by omega) (fun u H2 ou nu le2 => ?_)
 have aqu : Apart q u := oq.apart nu
 refine ob_i (a := .agg #[.int .i64 rr, .int .i64 cc, u]) (by obtain ⟨_, _, _, rfl⟩ := ou.isSl; rfl) ?_
 replace oq := oq.le le2
 refine oq.stn (ws := [.int .i64 rr, .int .i64 cc, u]) rfl rfl (oc1 rfl (oc1 rfl (oc1 ou.one oc0))) (fun H3 oq off3 => ?_)
 refine ob_i (oq.ldn rfl) ?_
 rw [Int.toNat_mul r0 c0] at ou
 exact hk u H3 (ou.off off3 aqu.symm) (nu.le le1) (off3.le (le1.trans le2) nq)

end Go.Proofs.Ythmdmbbdjbhcoaa
/- Rules for the walks that a program writes. -/
namespace Go.Proofs.Ythmdmbbdjbhcoaa.HL
theorem ob_nd {p : Prop} [Decidable p] {K : Value → Prop} (h1 : p → K (.bool false)) (h2 : ¬ p → K (.bool true)) : ob (vUn .not (.bool (decide p))) K := by
  rw [vUn_not, ob_some]
  by_cases c : p
  · rw [decide_eq_true c]; exact h1 c
  · rw [decide_eq_false c]; exact h2 c
theorem vInt_quoN {a b : Int} (ha : 0 ≤ a) (ha' : a < 9223372036854775808) (hb : 0 < b) : vInt .quo (.int .i64 a) (.int .i64 b) = some (.int .i64 (a / b)) := by
  rw [vInt_quo hb (by omega) ha', Int.tdiv_eq_ediv_of_nonneg ha]
theorem vInt_remN {a b : Int} (ha : 0 ≤ a) (hb : 0 < b) : vInt .rem (.int .i64 a) (.int .i64 b) = some (.int .i64 (a % b)) := by
  rw [vInt_rem (by omega), Int.tmod_eq_emod_of_nonneg ha]
theorem Apart.ap2 {H : Hp} {x u u' : Value} (hx : ∀ b, bk x = some b → ∃ o, H b = some o) (ha : Apart x u) (hb : ∀ b, bk u' = some b → bk u = some b ∨ H b = none) : Apart x u' := fun b h1 h2 => by
  rcases hb b h2 with h | h
  · exact ha b h1 h
  · obtain ⟨o, ho⟩ := hx b h1; rw [h] at ho; simp at ho
theorem Nw.ap2 {H0 H : Hp} {u u' : Value} (hn : Nw H0 u) (hl : Le H0 H) (hb : ∀ b, bk u' = some b → bk u = some b ∨ H b = none) : Nw H0 u' := fun b h => by
  rcases hb b h with h1 | h1
  · exact hn b h1
  · cases ho : H0 b with
    | none => rfl
    | some o => rw [hl b o ho] at h1; simp at h1
theorem apd_any {α : Type} {enc : α → Value} {z : Value} {b : Nat} {e : TypeId} {u t : Value} {l m : List α} {H : Hp} {K : Value → Hp → Prop} (o : Own enc H u l) (ot : Sl enc H t m) (ho : ∀ x, oneCell (enc x) = true) (hb : b ≤ 64) (hl : l.length + m.length ≤ 68719476736)
    (hk : ∀ u' H', Own enc H' u' (l ++ m) → Off u H H' → (∀ b, bk u' = some b → bk u = some b ∨ H b = none) → K u' H') : apd 1 b #[z] e u t H K := by
  refine o.apd ot ho (by omega) (fun c hc => ?_) hk
  have := nsc_le hc
  exact Nat.le_trans (Nat.mul_le_mul this hb) (by omega)
end Go.Proofs.Ythmdmbbdjbhcoaa.HL
/- The smallest part of a field with all cells of 1. -/
namespace Go.Proofs.Ythmdmbbdjbhcoaa
open HL
variable {c i k a b r row col : Int} {N t : Nat} {vc : Value} {l : List Int} {H : Hp} {K : Value → Hp → Prop}
set_option maxRecDepth 100000
/-- Cells that are filled one behind the other. -/
def fillL (c : Int) (g : Int → Int → Int) (N t : Nat) : List Int := (List.range N).map fun (j : Nat) => if j < t then g ((j : Int) / c) ((j : Int) % c) else 0
theorem fillL_length (c : Int) (g : Int → Int → Int) (N t : Nat) : (fillL c g N t).length = N := by simp [fillL]
theorem fillL_zero (c : Int) (g : Int → Int → Int) (N : Nat) : fillL c g N 0 = List.replicate N 0 := by
  rw [List.eq_replicate_iff]
  refine ⟨fillL_length c g N 0, fun x hx => ?_⟩
  simp only [fillL, List.mem_map] at hx
  obtain ⟨j, _, rfl⟩ := hx
  rw [if_neg (by omega)]
theorem fillL_end {g : Int → Int → Int} (h : N ≤ t) : fillL c g N t = mkL c g N := by
  unfold fillL mkL
  apply List.map_congr_left
  intro j hj
  have := List.mem_range.mp hj
  rw [if_pos (by omega)]
theorem fillL_set {g : Int → Int → Int} (hc : 0 < c) (k0 : 0 ≤ k) (k1 : k < c) (ht : (t : Int) = i * c + k) (h : 0 ≤ i * c) : (fillL c g N t).set (i * c + k).toNat (g i k) = fillL c g N (t + 1) := by
  have hd := divmod (c := c) (i := i) (k := k) hc k0 k1
  rw [show (i * c + k).toNat = t by omega]
  apply List.ext_getElem?
  intro j
  rw [List.getElem?_set]
  simp only [fillL, List.getElem?_map, List.length_map, List.length_range]
  by_cases e : t = j
  · subst e
    rw [if_pos rfl]
    by_cases hj : t < N
    · rw [if_pos hj, List.getElem?_range hj]
      simp only [Option.map_some]
      rw [if_pos (by omega), ht, hd.1, hd.2]
    · rw [if_neg hj, List.getElem?_eq_none (by simpa using hj)]; rfl
  · rw [if_neg e]
    by_cases hj : j < N
    · rw [List.getElem?_range hj]
      simp only [Option.map_some]
      by_cases h1 : j < t
      · rw [if_pos h1, if_pos (by omega)]
      · rw [if_neg h1, if_neg (by omega)]
    · rw [List.getElem?_eq_none (by simpa using hj)]; rfl
theorem ix_lt (a0 : 0 ≤ a) (a1 : a < r) (b0 : 0 ≤ b) (b1 : b < c) : 0 ≤ a * c ∧ a * c + b < r * c := by
  have := Int.mul_nonneg a0 (show (0 : Int) ≤ c by omega)
  have := Int.mul_le_mul (a := a) (b := c) (c := r - 1) (d := c) (by omega) (by omega) (by omega) (by omega)
  rw [Int.sub_mul] at this
  omega
theorem ix_le (a0 : 0 ≤ a) (a1 : a ≤ 24) (b0 : 0 ≤ b) (b1 : b ≤ 24) : 0 ≤ a * b ∧ a * b ≤ 576 := by
  have := Int.mul_nonneg a0 b0
  have := Int.mul_le_mul a1 b1 b0 (by omega)
  omega
theorem fillL_len {g : Int → Int → Int} {rr cc : Int} (h1 : 0 ≤ rr) (h2 : 0 ≤ cc) : ((fillL c g (rr.toNat * cc.toNat) t).length : Int) = rr * cc := by
  rw [fillL_length, Int.natCast_mul, Int.toNat_of_nonneg h1, Int.toNat_of_nonneg h2]
/-- A part of a field. -/
def cutG (c : Int) (l : List Int) (row col i k : Int) : Int := at_ 0 l ((row + i) * c + col + k)
/-- Where the cells of 1 lie, of the first t cells: top, bottom, left, right. -/
def trStep (c : Int) (l : List Int) (s : Int × Int × Int × Int) (j : Nat) : Int × Int × Int × Int :=
  if at_ 0 l (j : Int) = 1 then (min s.1 ((j : Int) / c), max s.2.1 ((j : Int) / c), min s.2.2.1 ((j : Int) % c), max s.2.2.2 ((j : Int) % c)) else s
def trS (r c : Int) (l : List Int) (t : Nat) : Int × Int × Int × Int := (List.range t).foldl (trStep c l) (r, -1, c, -1)
/-- The smallest part: its sides, its cells, and where it begins. -/
def trm (r c : Int) (l : List Int) : Int × Int × Int × Int := trS r c l (r * c).toNat
def trR (r c : Int) (l : List Int) : Int := (trm r c l).2.1 - (trm r c l).1 + 1
def trC (r c : Int) (l : List Int) : Int := (trm r c l).2.2.2 - (trm r c l).2.2.1 + 1
def trL (r c : Int) (l : List Int) : List Int := mkL (trC r c l) (cutG c l (trm r c l).1 (trm r c l).2.2.1) ((trR r c l).toNat * (trC r c l).toNat)
def trimOk (r c : Int) (l : List Int) : Prop := fieldN 1 r c l ∧ 0 ≤ (trm r c l).2.1
instance (r c : Int) (l : List Int) : Decidable (trimOk r c l) := by unfold trimOk; infer_instance
theorem C.c17 {p q s : Value} (hp0 : Cel H p [.int .i64 r, .int .i64 c, vc]) (hq0 : Cel H q [.int .i64 row]) (hs0 : Cel H s [.int .i64 col]) (hvc0 : Sl eI H vc l) (hs : sidesF r c) (hl : (l.length : Int) = r * c)
    (h0 : 0 ≤ row + i) (h1 : 0 ≤ col + k) (h2 : row + i < r) (h3 : col + k < c) (hk : ∀ H', Le H H' → K (.int .i64 (cutG c l row col i k)) H') : HT prg 118 [.int .i64 i, .int .i64 k, p, q, s].toArray H K := by
 unfold cutG at hk
 have hs' := hs
 have lE := Le.refl H
 have hsx := hs0
 refine R.q118 ?_
 unfold F.q118
 have x1 := ix_lt (a := row + i) (b := col + k) (r := r) (c := c) (by omega) (by omega) (by omega) (by omega)
 have m := sidesF_mul hs
 have q1 := hs.1
 have q2 := hs.2
 refine ob_i ((hp0.le lE).ldn rfl) (ob_i ((hq0.le lE).ld0 rfl) (ob_i (vInt_add (by omega) (by omega)) (ob_i (hsx.ld0 rfl) (ob_i (vInt_add (by omega) (by omega)) (C.c11 (hvc0.le lE) (by omega) (by omega) (by omega) (by omega) (by omega) (fun H1 le2 => ?_))))))
 rw [show (row + i) * c + (col + k) = (row + i) * c + col + k by omega]
 replace lE := lE.trans le2
 exact hk _ lE

theorem C.c18 {rows cols : Int} (hvc0 : Sl eI H vc l) (hs : sidesF r c) (hl : (l.length : Int) = r * c)
    (h0 : 0 ≤ row) (h1 : 0 ≤ col) (h2 : 1 ≤ rows) (h3 : 1 ≤ cols) (h4 : row + rows ≤ r) (h5 : col + cols ≤ c) (hk : ∀ u H', Own eI H' u (mkL cols (cutG c l row col) (rows.toNat * cols.toNat)) → Nw H u → Le H H' → K (.agg #[.int .i64 rows, .int .i64 cols, u]) H') :
    HT prg 78 [.agg #[.int .i64 r, .int .i64 c, vc], .int .i64 row, .int .i64 col, .int .i64 rows, .int .i64 cols].toArray H K := by
 have lE := Le.refl H
 refine R.q78 ?_
 unfold F.q78
 have q1 := hs.1
 have q2 := hs.2
 refine nw_i (fun p1 H2 op1 nn3 le4 => ?_)
 replace op1 : Cel H2 p1 [(.int .i64 (r)), (.int .i64 (c)), vc] := op1
 refine nw_i (fun p5 H6 op5 nn7 le8 => ?_)
 replace op5 : Cel H6 p5 [(.int .i64 (row))] := op5
 refine nw_i (fun p9 H10 op9 nn11 le12 => ?_)
 replace op9 : Cel H10 p9 [(.int .i64 (col))] := op9
 refine nw_i (fun p13 H14 op13 nn15 le16 => ?_)
 replace lE := ((lE.trans le4).trans le8).trans le12
 have np13 := nn15.le lE
 replace op13 : Cel H14 p13 [(.int .i64 (0)), (.int .i64 (0)), (.slice none 0 0)] := op13
 refine C.c13 (g := cutG c l row col) (by omega) (by omega) (by omega) (by omega) (fun H' i k Z le hi hk' hZ => ?_) (fun u17 H18 ou17 nn19 le20 => ?_)
 refine ⟨by kernel_rfl, ?_⟩
 replace op1 := ((op1.le le8).le le12).le le16
 replace op5 := (op5.le le12).le le16
 replace op9 := op9.le le16
 replace lE := lE.trans le16
 exact C.c17 (op1.le le) (op5.le le) (op9.le le) ((hvc0.le lE).le le) hs hl (by omega) (by omega) (by omega) (by omega) hZ
 have ap13Xu17 := op13.apart nn19
 replace lE := lE.trans le16
 have nu17 := nn19.le lE
 replace op13 := op13.le le20
 refine op13.stn (ws := [(.int .i64 (rows)), (.int .i64 (cols)), u17]) rfl rfl (oc1 rfl (oc1 rfl (oc1 ou17.one oc0))) (fun H21 op13 off22 => ?_)
 refine ob_i (op13.ldn rfl) ?_
 replace lE := off22.le (lE.trans le20) np13
 replace ou17 := ou17.off off22 ap13Xu17.symm
 exact hk u17 _ ou17 nu17 lE

end Go.Proofs.Ythmdmbbdjbhcoaa
/- Rules for contracts that are told once. -/
namespace Go.Proofs.Ythmdmbbdjbhcoaa.HL
theorem keq {K : Value → Hp → Prop} {v v' : Value} {H : Hp} (e : v = v') (h : K v' H) : K v H := e ▸ h
theorem Own.cast {α : Type} {enc : α → Value} {H : Hp} {v : Value} {l l' : List α} (e : l = l') (h : Own enc H v l) : Own enc H v l' := e ▸ h
theorem Sl.cast {α : Type} {enc : α → Value} {H : Hp} {v : Value} {l l' : List α} (e : l = l') (h : Sl enc H v l) : Sl enc H v l' := e ▸ h
/-- A slice that reads so, and whose block is known. -/
def Ro {α : Type} (enc : α → Value) (H : Hp) (v : Value) (l : List α) : Prop := Sl enc H v l ∧ ∀ b, bk v = some b → ∃ o, H b = some o
section
variable {α : Type} {enc : α → Value} {H H' : Hp} {u v : Value} {l l' : List α}
theorem Ro.sl (h : Ro enc H v l) : Sl enc H v l := h.1
theorem Ro.known (h : Ro enc H v l) : ∀ b, bk v = some b → ∃ o, H b = some o := h.2
theorem Ro.le (h : Ro enc H v l) (hl : Le H H') : Ro enc H' v l := ⟨h.1.le hl, fun b hb => by obtain ⟨o, ho⟩ := h.2 b hb; exact ⟨o, hl b o ho⟩⟩
theorem Sl.off (h : Sl enc H u l) (ho : Off v H H') (ha : Apart u v) : Sl enc H' u l := by
  obtain ⟨a, c, rfl, hc, hr⟩ := h
  refine ⟨a, c, rfl, hc, fun i hi => ?_⟩
  obtain ⟨ad, rfl, hh⟩ := hr i hi
  refine ⟨ad, rfl, ?_⟩
  have hb : (ad.add i).block = ad.block := by unfold Addr.add; split <;> rfl
  have hne : bk v ≠ some ad.block := ha ad.block (by simp only [bk]; rw [if_neg (by omega)])
  unfold Hp.cell? at hh ⊢
  rw [hb] at hh ⊢
  cases hc' : H ad.block with
  | none => simp [hc'] at hh
  | some o => rw [ho _ _ hc' hne]; rw [hc'] at hh; exact hh
theorem Ro.off (h : Ro enc H u l) (ho : Off v H H') (ha : Apart u v) : Ro enc H' u l := ⟨h.1.off ho ha, fun b hb => by obtain ⟨o, hh⟩ := h.2 b hb; exact ⟨o, ho b o hh (ha b hb)⟩⟩
theorem Ro.apart (h : Ro enc H u l) (hn : Nw H v) : Apart u v := Apart.of_nw h.2 hn
theorem Ro.cast (e : l = l') (h : Ro enc H v l) : Ro enc H v l' := e ▸ h
theorem Ro.len (h : Ro enc H v l) : vLenSl v = some (.int .i64 l.length) := h.1.len
theorem Ro.one (h : Ro enc H v l) : oneCell v = true := h.1.one
theorem Ro.cells (h : Ro enc H v l) : v.cells = #[v] := h.1.cells
theorem Ro.isSl (h : Ro enc H v l) : ∃ a n c, v = .slice a n c := h.1.isSl
theorem Own.ro (h : Own enc H v l) : Ro enc H v l := ⟨h.sl, h.known⟩
theorem Ro.of_sl (h : Sl enc H v l) (hn : 0 < l.length) : Ro enc H v l := by
  refine ⟨h, ?_⟩
  obtain ⟨a, c, rfl, hc, hr⟩ := h
  intro b hb
  obtain ⟨ad, rfl, hh⟩ := hr 0 hn
  simp only [bk, if_neg (by omega : ¬ c = 0), Option.some.injEq] at hb
  subst hb
  unfold Hp.cell? at hh
  have hb : (ad.add 0).block = ad.block := by unfold Addr.add; split <;> rfl
  rw [hb] at hh
  cases hc' : H ad.block with
  | none => simp [hc'] at hh
  | some o => exact ⟨o, rfl⟩
end
theorem gop_u {b : Bool} {F : (Value → Hp → Prop) → Prop} {H : Hp} {K : Value → Hp → Prop} (h : K undef H) : gop undef b F H K := h
theorem vUn_ngK {a : Int} (h : -9223372036854775808 ≤ -a) (h' : -a < 9223372036854775808) : vUn .neg (.int .i64 a) = some (.int .i64 (-a)) := by
  simp only [vUn, Int.zero_sub, wrap64 h h']
theorem gop_e {b c g : Bool} {F : (Value → Hp → Prop) → Prop} {H : Hp} {K : Value → Hp → Prop} (e : b = c) (h : gop (.bool c) g F H K) : gop (.bool b) g F H K := by rw [e]; exact h
theorem vPick_et {b : Bool} (e : b = true) (x y : Value) : vPick (.bool b) x y = some x := by rw [e]; rfl
theorem vPick_ef {b : Bool} (e : b = false) (x y : Value) : vPick (.bool b) x y = some y := by rw [e]; rfl
/-- A number, or 0 where something does not hold. -/
def selI (p : Prop) [Decidable p] (x : Int) : Int := if p then x else 0
/-- A list, or none where something does not hold. -/
def selL {α : Type} (p : Prop) [Decidable p] (l : List α) : List α := if p then l else []
theorem selI_t {p : Prop} [Decidable p] {x : Int} (h : p) : selI p x = x := if_pos h
theorem selI_f {p : Prop} [Decidable p] {x : Int} (h : ¬ p) : selI p x = 0 := if_neg h
theorem selL_t {α : Type} {p : Prop} [Decidable p] {l : List α} (h : p) : selL p l = l := if_pos h
theorem selL_f {α : Type} {p : Prop} [Decidable p] {l : List α} (h : ¬ p) : selL p l = [] := if_neg h
theorem selL_len {α : Type} {p : Prop} [Decidable p] {l : List α} {n : Nat} (h : p → l.length ≤ n) : (selL p l).length ≤ n := by
  unfold selL
  split
  · rename_i hp; exact h hp
  · simp
theorem gQT {p : Prop} [Decidable p] {F : (Value → Hp → Prop) → Prop} {H : Hp} {K : Value → Hp → Prop} (c : p) (h : F K) : gop (.bool (decide p)) true F H K := gop_e (decide_eq_true c) (gop_rt h)
theorem hQT {p : Prop} [Decidable p] {F : (Value → Hp → Prop) → Prop} {H : Hp} {K : Value → Hp → Prop} (c : p) (h : K undef H) : gop (.bool (decide p)) false F H K := gop_e (decide_eq_true c) (gop_st h)
theorem gQF {p : Prop} [Decidable p] {F : (Value → Hp → Prop) → Prop} {H : Hp} {K : Value → Hp → Prop} (c : ¬ p) (h : F K) : gop (.bool (decide p)) false F H K := gop_e (decide_eq_false c) (gop_rf h)
theorem hQF {p : Prop} [Decidable p] {F : (Value → Hp → Prop) → Prop} {H : Hp} {K : Value → Hp → Prop} (c : ¬ p) (h : K undef H) : gop (.bool (decide p)) true F H K := gop_e (decide_eq_false c) (gop_sf h)
end Go.Proofs.Ythmdmbbdjbhcoaa.HL
/- Life on fields: what a step and many steps come to. -/
namespace Go.Proofs.Ythmdmbbdjbhcoaa
open HL
variable {l b s : List Int} {n : Nat} {r c i k x : Int} {rnd : Bool}
set_option maxRecDepth 100000
/-- Numbers that rise, the first n of them. -/
def cntU (l : List Int) (n : Nat) : Prop := ∀ j : Nat, j < n → 0 < j → at_ 0 l ((j : Int) - 1) < at_ 0 l (j : Int)
def cntV (l : List Int) (n : Nat) : Prop := ∀ j : Nat, j < n → 0 ≤ at_ 0 l (j : Int) ∧ at_ 0 l (j : Int) ≤ 8
/-- Counts of neighbours. -/
def cntP (l : List Int) : Prop := (∀ x ∈ l, 0 ≤ x ∧ x ≤ 8) ∧ cntU l l.length
instance (l : List Int) (n : Nat) : Decidable (cntU l n) := by unfold cntU; infer_instance
instance (l : List Int) : Decidable (cntP l) := by unfold cntP; infer_instance
theorem cntU_zero (l : List Int) : cntU l 0 := fun j h => by omega
theorem cntU_one (l : List Int) : cntU l 1 := fun j h h0 => by omega
theorem cntV_zero (l : List Int) : cntV l 0 := fun j h => by omega
theorem cntU_succ (h : cntU l n) (h1 : 0 < n → at_ 0 l ((n : Int) - 1) < at_ 0 l (n : Int)) : cntU l (n + 1) := fun j hj h0 => by
  by_cases e : j = n
  · subst e; exact h1 h0
  · exact h j (by omega) h0
theorem cntV_succ (h : cntV l n) (h1 : 0 ≤ at_ 0 l (n : Int) ∧ at_ 0 l (n : Int) ≤ 8) : cntV l (n + 1) := fun j hj => by
  by_cases e : j = n
  · subst e; exact h1
  · exact h j (by omega)
theorem cntV_all (h : cntV l n) (hn : l.length ≤ n) : ∀ x ∈ l, 0 ≤ x ∧ x ≤ 8 := fun x hx => by
  obtain ⟨j, hj, rfl⟩ := List.mem_iff_getElem.mp hx
  have := h j (by omega)
  rw [at_eq 0 l hj] at this
  exact this
theorem cntP_in (h : cntP l) {j : Nat} (hj : j < l.length) : 0 ≤ at_ 0 l (j : Int) ∧ at_ 0 l (j : Int) ≤ 8 := h.1 _ (at_mem 0 l (by omega) (by omega))
theorem cntP_up (h : cntP l) {j : Nat} (hj : j < l.length) (h0 : 0 < j) : at_ 0 l ((j : Int) - 1) < at_ 0 l (j : Int) := h.2 j hj h0
theorem cntU_full (h : cntU l n) (hn : l.length ≤ n) : cntU l l.length := fun j hj h0 => h j (by omega) h0
/-- Is a life valid? -/
def lifP (b s : List Int) : Prop := cntP b ∧ cntP s
instance (b s : List Int) : Decidable (lifP b s) := by unfold lifP; infer_instance
/-- Can a field live? -/
def canP (b s : List Int) (r c : Int) (l : List Int) : Prop := lifP b s ∧ fieldN 1 r c l
instance (b s : List Int) (r c : Int) (l : List Int) : Decidable (canP b s r c l) := by unfold canP; infer_instance
def sumF (f : Int → Int) : Nat → Int
  | 0 => 0
  | n + 1 => sumF f n + f n
theorem sumF_zero (f : Int → Int) : sumF f 0 = 0 := rfl
theorem sumF_succ (f : Int → Int) (n : Nat) : sumF f (n + 1) = sumF f n + f n := rfl
theorem sumF_3 (f : Int → Int) : sumF f 3 = f 0 + f 1 + f 2 := by
  show 0 + f ((0 : Nat) : Int) + f ((1 : Nat) : Int) + f ((2 : Nat) : Int) = _
  simp
theorem sumF_bnd {f : Int → Int} {a b : Int} (h : ∀ i, a ≤ f i ∧ f i ≤ b) : ∀ n : Nat, (n : Int) * a ≤ sumF f n ∧ sumF f n ≤ (n : Int) * b
  | 0 => by simp [sumF]
  | n + 1 => by
    have h1 := sumF_bnd h n
    have h2 := h n
    simp only [sumF, Int.natCast_add, Int.add_mul]
    omega
/-- A cell, round and round, or 0 beyond the border. -/
def lkF (rnd : Bool) (r c : Int) (l : List Int) (i k : Int) : Int := if rnd then at_ 0 l (roundF r c i k) else flatF r c l i k
/-- The same, but 0 for one cell. -/
def skF (rnd : Bool) (r c : Int) (l : List Int) (i k a b : Int) : Int := if a = i ∧ b = k then 0 else lkF rnd r c l a b
/-- The neighbours of a cell that are 1. -/
def arF (rnd : Bool) (r c : Int) (l : List Int) (i k : Int) : Int := sumF (fun a => sumF (fun b => skF rnd r c l i k (i - 1 + a) (k - 1 + b)) 3) 3
theorem roundF_in (h1 : 0 ≤ i) (h2 : i < r) (h3 : 0 ≤ k) (h4 : k < c) : roundF r c i k = i * c + k := by
  unfold roundF
  rw [Int.emod_eq_of_lt h1 h2, Int.emod_eq_of_lt h3 h4]
theorem lkF_in (h1 : 0 ≤ i) (h2 : i < r) (h3 : 0 ≤ k) (h4 : k < c) : lkF rnd r c l i k = at_ 0 l (i * c + k) := by
  unfold lkF
  rw [roundF_in h1 h2 h3 h4]
  split
  · rfl
  · unfold flatF; rw [if_pos (by omega)]
theorem lkF_01 (h : fieldN 1 r c l) (i k : Int) : 0 ≤ lkF rnd r c l i k ∧ lkF rnd r c l i k ≤ 1 := by
  unfold lkF
  split
  · have b := roundF_lt (i := i) (k := k) h.1
    exact fieldN_at h (by omega) (by omega)
  · unfold flatF
    split
    · rename_i h1
      have b := ix_lt (a := i) (b := k) (r := r) (c := c) (by omega) (by omega) (by omega) (by omega)
      exact fieldN_at h (by omega) (by omega)
    · omega
theorem skF_01 (h : fieldN 1 r c l) (i k a b : Int) : 0 ≤ skF rnd r c l i k a b ∧ skF rnd r c l i k a b ≤ 1 := by
  unfold skF
  split
  · omega
  · exact lkF_01 h a b
theorem skF_eq {a b : Int} : skF rnd r c l i k a b = if a = i ∧ b = k then 0 else if rnd = true ∨ ((0 ≤ a ∧ a ≤ r - 1) ∧ 0 ≤ b ∧ b ≤ c - 1) then at_ 0 l (roundF r c a b) else 0 := by
  unfold skF lkF flatF
  split
  · rfl
  · cases rnd with
    | true => simp
    | false =>
      simp only [Bool.false_eq_true, if_false, false_or]
      split
      · rename_i h; rw [roundF_in (by omega) (by omega) (by omega) (by omega)]
      · rfl
theorem arF_eq (h1 : 0 ≤ i) (h2 : i < r) (h3 : 0 ≤ k) (h4 : k < c) :
    -at_ 0 l (i * c + k) + sumF (fun a => sumF (fun b => lkF rnd r c l (i - 1 + a) (k - 1 + b)) 3) 3 = arF rnd r c l i k := by
  have e := lkF_in (rnd := rnd) (l := l) h1 h2 h3 h4
  unfold arF
  simp only [sumF_3, skF]
  rw [if_neg (by omega), if_neg (by omega), if_neg (by omega), if_neg (by omega), if_pos (by omega), if_neg (by omega), if_neg (by omega), if_neg (by omega), if_neg (by omega)]
  rw [show i - 1 + 1 = i by omega, show k - 1 + 1 = k by omega, e]
  omega
/-- What a cell becomes. -/
def nxG (rnd : Bool) (b s : List Int) (r c : Int) (l : List Int) (i k : Int) : Int :=
  if at_ 0 l (i * c + k) = 0 then (if arF rnd r c l i k ∈ b then 1 else 0) else (if arF rnd r c l i k ∈ s then 1 else 0)
section
variable {rnd : Bool} {b s : List Int} {r c i k : Int} {l : List Int}
theorem nx_b1 (h : at_ 0 l (i * c + k) = 0) (h2 : arF rnd r c l i k ∈ b) : nxG rnd b s r c l i k = 1 := by unfold nxG; rw [if_pos h, if_pos h2]
theorem nx_b0 (h : at_ 0 l (i * c + k) = 0) (h2 : arF rnd r c l i k ∉ b) : nxG rnd b s r c l i k = 0 := by unfold nxG; rw [if_pos h, if_neg h2]
theorem nx_s1 (h : at_ 0 l (i * c + k) = 1) (h2 : arF rnd r c l i k ∈ s) : nxG rnd b s r c l i k = 1 := by unfold nxG; rw [if_neg (by omega), if_pos h2]
theorem nx_s0 (h : at_ 0 l (i * c + k) = 1) (h2 : arF rnd r c l i k ∉ s) : nxG rnd b s r c l i k = 0 := by unfold nxG; rw [if_neg (by omega), if_neg h2]
end
/-- The next field. -/
def nxL (rnd : Bool) (b s : List Int) (r c : Int) (l : List Int) : List Int := mkL c (nxG rnd b s r c l) (r.toNat * c.toNat)
theorem nxG_01 (rnd : Bool) (b s : List Int) (r c : Int) (l : List Int) (i k : Int) : 0 ≤ nxG rnd b s r c l i k ∧ nxG rnd b s r c l i k ≤ 1 := by
  unfold nxG
  split <;> split <;> omega
theorem mkL_len' {g : Int → Int → Int} {rr cc : Int} (h1 : 0 ≤ rr) (h2 : 0 ≤ cc) : ((mkL c g (rr.toNat * cc.toNat)).length : Int) = rr * cc := by
  rw [mkL_length, Int.natCast_mul, Int.toNat_of_nonneg h1, Int.toNat_of_nonneg h2]
theorem mkL_field {n : Int} {g : Int → Int → Int} (h : sidesF r c) (hg : ∀ i k, 0 ≤ g i k ∧ g i k ≤ n) : fieldN n r c (mkL c g (r.toNat * c.toNat)) := by
  have q1 := h.1
  have q2 := h.2
  refine ⟨h, mkL_len' (by omega) (by omega), fun x hx => ?_⟩
  simp only [mkL, List.mem_map] at hx
  obtain ⟨j, _, rfl⟩ := hx
  exact hg _ _
theorem nxL_field (h : sidesF r c) : fieldN 1 r c (nxL rnd b s r c l) := mkL_field h (nxG_01 rnd b s r c l)
/-- The field behind steps. -/
def rnL (rnd : Bool) (b s : List Int) (r c : Int) (l : List Int) : Nat → List Int
  | 0 => l
  | n + 1 => nxL rnd b s r c (rnL rnd b s r c l n)
theorem rnL_succ (rnd : Bool) (b s : List Int) (r c : Int) (l : List Int) (n : Nat) : rnL rnd b s r c l (n + 1) = nxL rnd b s r c (rnL rnd b s r c l n) := rfl
theorem rnL_field (h : fieldN 1 r c l) : ∀ n, fieldN 1 r c (rnL rnd b s r c l n)
  | 0 => h
  | _ + 1 => nxL_field h.1
theorem fillL_skip {g : Int → Int → Int} {N : Nat} {t : Nat} (hc : 0 < c) (k0 : 0 ≤ k) (k1 : k < c) (ht : (t : Int) = i * c + k) (h : g i k = 0) : fillL c g N t = fillL c g N (t + 1) := by
  have hd := divmod (c := c) (i := i) (k := k) hc k0 k1
  unfold fillL
  apply List.map_congr_left
  intro j _
  by_cases e : j = t
  · subst e
    rw [if_neg (by omega), if_pos (by omega), ht, hd.1, hd.2, h]
  · by_cases h1 : j < t
    · rw [if_pos h1, if_pos (by omega)]
    · rw [if_neg h1, if_neg (by omega)]
theorem notin_succ {i : Nat} (h : x ∉ l.take i) (hi : i < l.length) (hne : ¬ at_ 0 l (i : Int) = x) : x ∉ l.take (i + 1) := by
  rw [take_at 0 l hi]
  intro hh
  rcases List.mem_append.mp hh with hh | hh
  · exact h hh
  · simp only [List.mem_singleton] at hh; exact hne hh.symm
/-- Where a number stands first, or -1. -/
def idxL (x : Int) (l : List Int) : Int := if x ∈ l then (l.findIdx (· == x) : Nat) else -1
theorem idxL_not (h : x ∉ l) : idxL x l = -1 := if_neg h
theorem idxL_mem : 0 ≤ idxL x l ↔ x ∈ l := by
  unfold idxL
  split
  · rename_i h; simp [h]
  · rename_i h; simp [h]
theorem idxL_at {i : Nat} (h : x ∉ l.take i) (hi : i < l.length) (he : at_ 0 l (i : Int) = x) : idxL x l = (i : Int) := by
  rw [at_eq 0 l hi] at he
  unfold idxL
  rw [if_pos (he ▸ List.getElem_mem hi)]
  congr 1
  rw [List.findIdx_eq hi]
  refine ⟨by simp [he], fun j hj => ?_⟩
  simp only [beq_eq_false_iff_ne, ne_eq]
  intro hh
  exact h (List.mem_iff_getElem.mpr ⟨j, by simp; omega, by simp [hh]⟩)
/-- How many cells have a state. -/
def cntE (v : Int) (l : List Int) : Int := l.countP (· == v)
end Go.Proofs.Ythmdmbbdjbhcoaa
/- What is found first; counts ahead; shifted fields. -/
namespace Go.Proofs.Ythmdmbbdjbhcoaa
open HL
/-- The first number below N of which something holds, or -1. -/
def fstN (p : Nat → Prop) [DecidablePred p] : Nat → Int
  | 0 => -1
  | n + 1 => if 0 ≤ fstN p n then fstN p n else if p n then (n : Int) else -1
theorem fstN_none {p : Nat → Prop} [DecidablePred p] : ∀ {N : Nat}, (∀ t, t < N → ¬ p t) → fstN p N = -1
  | 0, _ => rfl
  | n + 1, h => by
    have ih := fstN_none (p := p) (N := n) (fun t ht => h t (by omega))
    simp only [fstN, ih]
    rw [if_neg (by omega), if_neg (h n (by omega))]
theorem fstN_at {p : Nat → Prop} [DecidablePred p] {t : Nat} (hp : p t) (h : ∀ s, s < t → ¬ p s) : ∀ {N : Nat}, t < N → fstN p N = (t : Int)
  | 0, ht => by omega
  | n + 1, ht => by
    by_cases e : t = n
    · subst e
      simp only [fstN, fstN_none h]
      rw [if_neg (by omega), if_pos hp]
    · have ih := fstN_at hp h (N := n) (by omega)
      simp only [fstN, ih]
      rw [if_pos (by omega)]
theorem fstN_lt {p : Nat → Prop} [DecidablePred p] : ∀ {N : Nat}, fstN p N < N ∧ -1 ≤ fstN p N
  | 0 => by simp [fstN]
  | n + 1 => by
    have ih := fstN_lt (p := p) (N := n)
    simp only [fstN]
    split
    · omega
    · split <;> omega
/-- A shifted field. -/
def shG (r c : Int) (l : List Int) (a b i k : Int) : Int := at_ 0 l (roundF r c (i - a) (k - b))
def shL (r c : Int) (l : List Int) (a b : Int) : List Int := mkL c (shG r c l a b) (r.toNat * c.toNat)
/-- A place of a shift: steps, rows and columns in one number. -/
def mvP (b s : List Int) (r c : Int) (l : List Int) (t : Nat) : Prop :=
  cntE 1 (rnL true b s r c l (t / c.toNat / r.toNat + 1)) = cntE 1 l ∧ rnL true b s r c l (t / c.toNat / r.toNat + 1) = shL r c l ((t / c.toNat % r.toNat : Nat) : Int) ((t % c.toNat : Nat) : Int)
instance (b s : List Int) (r c : Int) (l : List Int) : DecidablePred (mvP b s r c l) := fun t => by unfold mvP; infer_instance
theorem tri {n i k r c : Nat} (hi : i < r) (hk : k < c) : ((n * r + i) * c + k) / c / r = n ∧ ((n * r + i) * c + k) / c % r = i ∧ ((n * r + i) * c + k) % c = k := by
  have h1 : ((n * r + i) * c + k) / c = n * r + i := by rw [Nat.add_comm, Nat.add_mul_div_right _ _ (by omega), Nat.div_eq_of_lt hk]; omega
  have h2 : ((n * r + i) * c + k) % c = k := by rw [Nat.add_comm, Nat.add_mul_mod_self_right, Nat.mod_eq_of_lt hk]
  rw [h1, h2]
  refine ⟨?_, ?_, rfl⟩
  · rw [Nat.add_comm, Nat.add_mul_div_right _ _ (by omega), Nat.div_eq_of_lt hi]; omega
  · rw [Nat.add_comm, Nat.add_mul_mod_self_right, Nat.mod_eq_of_lt hi]
/-- Where a field is shifted first, steps, rows and columns in one number. -/
def mvF (b s : List Int) (r c : Int) (l : List Int) (st : Int) : Int := fstN (mvP b s r c l) (st.toNat * r.toNat * c.toNat)
def mvOk (b s : List Int) (r c : Int) (l : List Int) (st : Int) : Prop := canP b s r c l ∧ (1 ≤ st ∧ st ≤ 512) ∧ 0 ≤ mvF b s r c l st
instance (b s : List Int) (r c : Int) (l : List Int) (st : Int) : Decidable (mvOk b s r c l st) := by unfold mvOk; infer_instance
section
variable {b s : List Int} {r c st : Int} {l : List Int} {n i k : Nat}
end
/-- A plain square of 4, 8 or 16 rows. -/
def sqP (r c : Int) (l : List Int) : Prop := fieldN 1 r c l ∧ r = c ∧ (r = 4 ∨ r = 8 ∨ r = 16)
instance (r c : Int) (l : List Int) : Decidable (sqP r c l) := by unfold sqP; infer_instance
/-- The inner part behind a step. -/
def inL (b s : List Int) (r c : Int) (l : List Int) : List Int := mkL (c - 2) (cutG c (nxL false b s r c l) 1 1) ((r - 2).toNat * (c - 2).toNat)
def inP (b s : List Int) (r c : Int) (l : List Int) : Prop := lifP b s ∧ sqP r c l
instance (b s : List Int) (r c : Int) (l : List Int) : Decidable (inP b s r c l) := by unfold inP; infer_instance
end Go.Proofs.Ythmdmbbdjbhcoaa
/- Digits of numbers, and all plain fields of few cells. -/
namespace Go.Proofs.Ythmdmbbdjbhcoaa
open HL
theorem HL.Cel.cast {H : Hp} {p : Value} {cs cs' : List Value} (e : cs = cs') (h : Cel H p cs) : Cel H p cs' := e ▸ h
/-- A power of 2. -/
def pw (n : Int) : Nat := 2 ^ n.toNat
/-- The digits of a number, the greatest one first; and the last t of them. -/
def dgL (b x : Int) (N : Nat) : List Int := (List.range N).map fun j => x / b ^ (N - 1 - j) % b
/-- Few cells. -/
def smP (r c : Int) : Prop := sidesF r c ∧ r * c ≤ 12
instance (r c : Int) : Decidable (smP r c) := by unfold smP; infer_instance
def stillP (b s : List Int) (r c : Int) (t : Nat) : Prop := nxL false b s r c (dgL 2 t (r * c).toNat) = dgL 2 t (r * c).toNat
instance (b s : List Int) (r c : Int) : DecidablePred (stillP b s r c) := fun t => by unfold stillP; infer_instance
def befP (b s : List Int) (r c : Int) (l : List Int) (t : Nat) : Prop := nxL false b s r c (dgL 2 t (r * c).toNat) = l
instance (b s : List Int) (r c : Int) (l : List Int) : DecidablePred (befP b s r c l) := fun t => by unfold befP; infer_instance
def stlP (b s : List Int) (r c : Int) : Prop := lifP b s ∧ smP r c
instance (b s : List Int) (r c : Int) : Decidable (stlP b s r c) := by unfold stlP; infer_instance
def cbfP (b s : List Int) (r c : Int) (l : List Int) : Prop := canP b s r c l ∧ smP r c
instance (b s : List Int) (r c : Int) (l : List Int) : Decidable (cbfP b s r c l) := by unfold cbfP; infer_instance
/-- The first field that leads to one. -/
def fbF (b s : List Int) (r c : Int) (l : List Int) : Int := fstN (befP b s r c l) (pw (r * c))
def fbP (b s : List Int) (r c : Int) (l : List Int) : Prop := cbfP b s r c l ∧ 0 ≤ fbF b s r c l
instance (b s : List Int) (r c : Int) (l : List Int) : Decidable (fbP b s r c l) := by unfold fbP; infer_instance
end Go.Proofs.Ythmdmbbdjbhcoaa
/- Two fields put together: the program's and the reference's. -/
namespace Go.Proofs.Ythmdmbbdjbhcoaa
open HL
set_option maxRecDepth 100000
def metO (ra ca rb cb row col : Int) : Prop := (0 ≤ row ∧ row ≤ 24) ∧ (0 ≤ col ∧ col ≤ 24) ∧ (1 ≤ max ra (row + rb) ∧ max ra (row + rb) ≤ 24) ∧ (1 ≤ max ca (col + cb) ∧ max ca (col + cb) ≤ 24)
def metOk (ra ca : Int) (la : List Int) (rb cb : Int) (lb : List Int) (row col : Int) : Prop := fieldN 1 ra ca la ∧ fieldN 1 rb cb lb ∧ metO ra ca rb cb row col
instance (ra ca rb cb row col : Int) : Decidable (metO ra ca rb cb row col) := by unfold metO; infer_instance
instance (ra ca : Int) (la : List Int) (rb cb : Int) (lb : List Int) (row col : Int) : Decidable (metOk ra ca la rb cb lb row col) := by unfold metOk; infer_instance
end Go.Proofs.Ythmdmbbdjbhcoaa
/- Patterns that come again elsewhere. -/
namespace Go.Proofs.Ythmdmbbdjbhcoaa
open HL
set_option maxRecDepth 100000
/-- A cell of 1 on the border. -/
def bdC (r c : Int) (l : List Int) (j : Nat) : Prop := at_ 0 l (j : Int) = 1 ∧ ((j : Int) / c = 0 ∨ (j : Int) % c = 0 ∨ (j : Int) / c = r - 1 ∨ (j : Int) % c = c - 1)
instance (r c : Int) (l : List Int) (j : Nat) : Decidable (bdC r c l j) := by unfold bdC; infer_instance
def bdU (r c : Int) (l : List Int) (n : Nat) : Prop := ∀ j, j < n → ¬ bdC r c l j
instance (r c : Int) (l : List Int) (n : Nat) : Decidable (bdU r c l n) := by unfold bdU; infer_instance
/-- Is a cell on the border 1? -/
def brdP (r c : Int) (l : List Int) : Prop := ¬ bdU r c l (r * c).toNat
instance (r c : Int) (l : List Int) : Decidable (brdP r c l) := by unfold brdP; infer_instance
section
variable {r c : Int} {l : List Int}
end
def shp0 (r c : Int) (l : List Int) : List Int := mkL 24 (fun x y => flatF r c l (x - (24 - r) / 2) (y - (24 - c) / 2)) ((24 : Int).toNat * (24 : Int).toNat)
/-- Is a field's smallest part that of another one? -/
def matP (l m : List Int) : Prop := 0 ≤ (trm 24 24 m).2.1 ∧ trR 24 24 m = trR 24 24 l ∧ trC 24 24 m = trC 24 24 l ∧ trL 24 24 m = trL 24 24 l
instance (l m : List Int) : Decidable (matP l m) := by unfold matP; infer_instance
def shpS (b s : List Int) (r c : Int) (l : List Int) (n : Nat) : List Int := rnL false b s 24 24 (shp0 r c l) n
def shpE (b s : List Int) (r c : Int) (l : List Int) (t : Nat) : Prop := brdP 24 24 (shpS b s r c l (t + 1)) ∨ matP (shp0 r c l) (shpS b s r c l (t + 1))
instance (b s : List Int) (r c : Int) (l : List Int) : DecidablePred (shpE b s r c l) := fun t => by unfold shpE; infer_instance
def shpF (b s : List Int) (r c : Int) (l : List Int) (st : Int) : Int := fstN (shpE b s r c l) st.toNat
def shpT (b s : List Int) (r c : Int) (l : List Int) (st : Int) : List Int := shpS b s r c l ((shpF b s r c l st).toNat + 1)
def shpOk (b s : List Int) (r c : Int) (l : List Int) (st : Int) : Prop := canP b s r c l ∧ (1 ≤ st ∧ st ≤ 64) ∧ 0 ≤ (trm 24 24 (shp0 r c l)).2.1 ∧ ¬ brdP 24 24 (shp0 r c l) ∧ 0 ≤ shpF b s r c l st ∧ ¬ brdP 24 24 (shpT b s r c l st)
instance (b s : List Int) (r c : Int) (l : List Int) (st : Int) : Decidable (shpOk b s r c l st) := by unfold shpOk; infer_instance
section
variable {b s : List Int} {r c st : Int} {l : List Int} {t : Nat}
end
end Go.Proofs.Ythmdmbbdjbhcoaa
/- Life on the plane: what a square tells of its inner part behind some steps. -/
namespace Go.Proofs.Ythmdmbbdjbhcoaa
open HL
variable {i k c r n : Int} {l b s : List Int}
set_option maxRecDepth 100000
abbrev Pl := Int → Int → Int
/-- The neighbours of a cell of the plane. -/
def plN (g : Pl) (i k : Int) : Int := sumF (fun a => sumF (fun b => if i - 1 + a = i ∧ k - 1 + b = k then 0 else g (i - 1 + a) (k - 1 + b)) 3) 3
/-- A step on the plane, and some steps. -/
def plS (b s : List Int) (g : Pl) : Pl := fun i k => if g i k = 0 then (if plN g i k ∈ b then 1 else 0) else (if plN g i k ∈ s then 1 else 0)
def pl (b s : List Int) : Nat → Pl → Pl
  | 0, g => g
  | n + 1, g => plS b s (pl b s n g)
section
variable {b s : List Int}
theorem plN_congr {g h : Pl} (e : ∀ x y, i - 1 ≤ x → x ≤ i + 1 → k - 1 ≤ y → y ≤ k + 1 → g x y = h x y) : plN g i k = plN h i k := by
  unfold plN
  simp only [sumF_3]
  rw [e (i - 1 + 0) (k - 1 + 0), e (i - 1 + 0) (k - 1 + 1), e (i - 1 + 0) (k - 1 + 2), e (i - 1 + 1) (k - 1 + 0), e (i - 1 + 1) (k - 1 + 1), e (i - 1 + 1) (k - 1 + 2), e (i - 1 + 2) (k - 1 + 0), e (i - 1 + 2) (k - 1 + 1), e (i - 1 + 2) (k - 1 + 2)] <;> omega
theorem plN_shift (g : Pl) (p q i k : Int) : plN (fun x y => g (x + p) (y + q)) i k = plN g (i + p) (k + q) := by
  unfold plN
  simp only [sumF_3]
  have e : ∀ a c : Int, i - 1 + a + p = i + p - 1 + a ∧ k - 1 + c + q = k + q - 1 + c := fun a c => by omega
  have f : ∀ a c : Int, (i - 1 + a = i ∧ k - 1 + c = k) ↔ (i + p - 1 + a = i + p ∧ k + q - 1 + c = k + q) := fun a c => by omega
  simp only [(e 0 0).1, (e 0 0).2, (e 1 1).1, (e 1 1).2, (e 2 2).1, (e 2 2).2, f]
theorem plS_shift (g : Pl) (p q i k : Int) : plS b s (fun x y => g (x + p) (y + q)) i k = plS b s g (i + p) (k + q) := by
  unfold plS
  rw [plN_shift]
end
/-- A list of rows and columns that has these cells. -/
def Rep (r c : Int) (l : List Int) (g : Pl) : Prop := (l.length : Int) = r * c ∧ ∀ i k, 0 ≤ i → i < r → 0 ≤ k → k < c → at_ 0 l (i * c + k) = g i k
theorem at_mkL {g : Pl} {N : Nat} (hi : 0 ≤ i) (hk : 0 ≤ k) (hkc : k < c) (h : i * c + k < N) (h0 : 0 ≤ i * c) : at_ 0 (mkL c g N) (i * c + k) = g i k := by
  obtain ⟨j, hj⟩ : ∃ j : Nat, i * c + k = (j : Int) := ⟨(i * c + k).toNat, by omega⟩
  have d := divmod (c := c) (i := i) (k := k) (by omega) hk hkc
  rw [hj] at d ⊢
  rw [at_eq 0 _ (by rw [mkL_length]; omega)]
  simp [mkL, d.1, d.2]
theorem Rep.mk {g : Pl} (h1 : 0 ≤ r) (h2 : 0 < c) : Rep r c (mkL c g (r.toNat * c.toNat)) g := by
  have hl := mkL_len' (c := c) (g := g) (rr := r) (cc := c) h1 (by omega)
  refine ⟨hl, fun i k hi hir hk hkc => ?_⟩
  have x1 := ix_lt (a := i) (b := k) (r := r) (c := c) hi hir hk hkc
  rw [mkL_length] at hl
  exact at_mkL hi hk hkc (by omega) (by omega)
theorem Rep.eq {g : Pl} (h1 : 0 ≤ r) (h2 : 0 < c) (h : Rep r c l g) : l = mkL c g (r.toNat * c.toNat) := by
  have hl := mkL_len' (c := c) (g := g) (rr := r) (cc := c) h1 (by omega)
  apply List.ext_getElem
  · have := h.1; omega
  · intro j g1 g2
    have hj : (j : Int) < r * c := by have := h.1; omega
    have d := Int.mul_ediv_add_emod (j : Int) c
    rw [Int.mul_comm] at d
    have m0 := Int.emod_nonneg (j : Int) (b := c) (by omega)
    have m1 := Int.emod_lt_of_pos (j : Int) h2
    have q0 := Int.ediv_nonneg (a := (j : Int)) (b := c) (by omega) (by omega)
    have q1 : (j : Int) / c < r := Int.ediv_lt_of_lt_mul h2 hj
    have := h.2 ((j : Int) / c) ((j : Int) % c) q0 q1 m0 m1
    rw [d, at_eq 0 l g1] at this
    rw [this]; simp [mkL]
theorem Rep.congr {g h : Pl} (e : ∀ i k, 0 ≤ i → i < r → 0 ≤ k → k < c → g i k = h i k) (hr : Rep r c l g) : Rep r c l h := ⟨hr.1, fun i k h1 h2 h3 h4 => by rw [hr.2 i k h1 h2 h3 h4]; exact e i k h1 h2 h3 h4⟩
theorem Rep.flat {g : Pl} (h : Rep r c l g) {i k : Int} (h1 : 0 ≤ i) (h2 : i < r) (h3 : 0 ≤ k) (h4 : k < c) : flatF r c l i k = g i k := by
  unfold flatF
  rw [if_pos (by omega)]
  exact h.2 i k h1 h2 h3 h4
theorem arF_plN (r c : Int) (l : List Int) (i k : Int) : arF false r c l i k = plN (flatF r c l) i k := rfl
theorem Rep.field (h1 : 0 ≤ r) (h2 : 0 < c) (hl : (l.length : Int) = r * c) : Rep r c l (flatF r c l) := ⟨hl, fun i k a1 a2 a3 a4 => by unfold flatF; rw [if_pos (by omega)]⟩
theorem Rep.next {g : Pl} (hs : sidesF r c) (h : Rep r c l g) {i k : Int} (h1 : 1 ≤ i) (h2 : i < r - 1) (h3 : 1 ≤ k) (h4 : k < c - 1) : at_ 0 (nxL false b s r c l) (i * c + k) = plS b s g i k := by
  have q1 := hs.1
  have q2 := hs.2
  have h0 := Rep.mk (r := r) (c := c) (g := nxG false b s r c l) (by omega) (by omega)
  have e := h0.2 i k (by omega) (by omega) (by omega) (by omega)
  unfold nxL
  rw [e]
  unfold nxG
  rw [h.2 i k (by omega) (by omega) (by omega) (by omega), arF_plN, plN_congr (g := flatF r c l) (h := g) (fun x y a1 a2 a3 a4 => h.flat (by omega) (by omega) (by omega) (by omega))]
  rfl
theorem Rep.inner {g : Pl} (hs : sidesF r c) (h3r : 3 ≤ r) (h3c : 3 ≤ c) (h : Rep r c l g) : Rep (r - 2) (c - 2) (inL b s r c l) (fun i k => plS b s g (i + 1) (k + 1)) := by
  have h0 := Rep.mk (r := r - 2) (c := c - 2) (g := cutG c (nxL false b s r c l) 1 1) (by omega) (by omega)
  refine Rep.congr (fun i k a1 a2 a3 a4 => ?_) h0
  unfold cutG
  rw [show (1 + i) * c + 1 + k = (i + 1) * c + (k + 1) by rw [Int.add_comm 1 i]; omega]
  exact Rep.next hs h (by omega) (by omega) (by omega) (by omega)
/-- The inner part behind a quarter of the rows. -/
def farL (b s : List Int) (n : Int) (l : List Int) : List Int := mkL (n / 2) (fun i k => pl b s (n / 4).toNat (flatF n n l) (i + n / 4) (k + n / 4)) ((n / 2).toNat * (n / 2).toNat)
section
variable {C : Int} {g : Pl} {pc : Int} {m : List Int} {row col i k : Int} {N : Nat}
end
theorem plS_01 {g : Pl} (i k : Int) : 0 ≤ plS b s g i k ∧ plS b s g i k ≤ 1 := by
  unfold plS
  split <;> split <;> omega
theorem pl_01 {g : Pl} {n : Nat} (h : 1 ≤ n) (i k : Int) : 0 ≤ pl b s n g i k ∧ pl b s n g i k ≤ 1 := by
  obtain ⟨m, rfl⟩ : ∃ m, n = m + 1 := ⟨n - 1, by omega⟩
  exact plS_01 i k
theorem far_field (h : n = 4 ∨ n = 8 ∨ n = 16) : fieldN 1 (n / 2) (n / 2) (farL b s n l) :=
  mkL_field ⟨by omega, by omega⟩ (fun i k => pl_01 (by omega) _ _)
/-- The program's way: inner parts of inner parts. -/
def inrL (b s : List Int) (n : Int) (l : List Int) : Nat → List Int
  | 0 => l
  | t + 1 => inL b s (n - 2 * t) (n - 2 * t) (inrL b s n l t)
theorem inr_rep {b s : List Int} {n : Int} {l : List Int} (hn : n ≤ 24) (hl : (l.length : Int) = n * n) : ∀ t : Nat, 2 * (t : Int) < n → Rep (n - 2 * t) (n - 2 * t) (inrL b s n l t) (fun i k => pl b s t (flatF n n l) (i + t) (k + t))
  | 0, h => by
    have := Rep.field (r := n) (c := n) (l := l) (by omega) (by omega) hl
    have e : n - 2 * ((0 : Nat) : Int) = n := by omega
    rw [e]
    refine Rep.congr (fun i k _ _ _ _ => ?_) this
    rw [show i + ((0 : Nat) : Int) = i by omega, show k + ((0 : Nat) : Int) = k by omega]; rfl
  | t + 1, h => by
    have ih := inr_rep (b := b) (s := s) hn hl t (by omega)
    have := Rep.inner (b := b) (s := s) (show sidesF (n - 2 * t) (n - 2 * t) from ⟨by omega, by omega⟩) (by omega) (by omega) ih
    rw [show n - 2 * ((t + 1 : Nat) : Int) = n - 2 * (t : Int) - 2 by omega]
    refine Rep.congr (fun i k _ _ _ _ => ?_) this
    show plS b s (fun i k => pl b s t (flatF n n l) (i + t) (k + t)) (i + 1) (k + 1) = plS b s (pl b s t (flatF n n l)) (i + ((t + 1 : Nat) : Int)) (k + ((t + 1 : Nat) : Int))
    rw [plS_shift (pl b s t (flatF n n l)) (t : Int) (t : Int), show i + 1 + (t : Int) = i + ((t + 1 : Nat) : Int) by omega, show k + 1 + (t : Int) = k + ((t + 1 : Nat) : Int) by omega]
theorem inr_field (h : fieldN 1 n n l) (t : Nat) (ht : 2 * (t : Int) < n) : fieldN 1 (n - 2 * t) (n - 2 * t) (inrL b s n l t) := by
  have q := h.1.1
  cases t with
  | zero => rw [show n - 2 * ((0 : Nat) : Int) = n by omega]; exact h
  | succ t =>
    have e := (inr_rep (b := b) (s := s) (by omega) h.2.1 (t + 1) ht).eq (by omega) (by omega)
    rw [e]
    exact mkL_field ⟨by omega, by omega⟩ (fun i k => pl_01 (by omega) _ _)
theorem inr_far (h : fieldN 1 n n l) (hn : n = 4 ∨ n = 8 ∨ n = 16) : inrL b s n l (n / 4).toNat = farL b s n l := by
  have hr := inr_rep (b := b) (s := s) (by omega) h.2.1 (n / 4).toNat (by omega)
  have e := hr.eq (by omega) (by omega)
  rw [e]
  unfold farL
  rcases hn with rfl | rfl | rfl <;> rfl
end Go.Proofs.Ythmdmbbdjbhcoaa
/- Slices whose elements have some cells each: what is read, what is owned. -/
namespace Go.Proofs.Ythmdmbbdjbhcoaa.HL
theorem add_add (a : Addr) (x y : Nat) : (a.add x).add y = a.add (x + y) := by
  unfold Addr.add
  by_cases hx : x = 0
  · subst hx; simp
  · by_cases hy : y = 0
    · subst hy; simp
    · rw [if_neg hx, if_neg hy, if_neg (by omega)]; simp [Nat.add_assoc]
theorem add_block (a : Addr) (x : Nat) : (a.add x).block = a.block := by unfold Addr.add; split <;> rfl
section
variable {α : Type} {enc : α → List Value} {n : Nat} {H H' : Hp} {u v : Value} {l m : List α}
theorem flat_len (hn : ∀ x, (enc x).length = n) : ∀ l : List α, (l.flatMap enc).length = l.length * n
  | [] => by simp
  | x :: r => by rw [List.flatMap_cons, List.length_append, hn, flat_len hn r, List.length_cons, Nat.add_mul, Nat.one_mul]; omega
theorem flat_get (hn : ∀ x, (enc x).length = n) : ∀ (l : List α) (i j : Nat) (h : i < l.length), j < n → (l.flatMap enc)[i * n + j]? = (enc l[i])[j]?
  | x :: r, 0, j, h, hj => by rw [List.flatMap_cons, Nat.zero_mul, Nat.zero_add, List.getElem?_append_left (by rw [hn]; exact hj)]; rfl
  | x :: r, i + 1, j, h, hj => by
    rw [List.flatMap_cons, List.getElem?_append_right (by rw [hn, Nat.add_mul]; omega), hn, show (i + 1) * n + j - n = i * n + j by rw [Nat.add_mul]; omega, flat_get hn r i j (by simpa using h) hj]
    rfl
theorem flat_ix {i j N : Nat} (h : i < N) (hj : j < n) : i * n + j < N * n := by
  have := Nat.mul_le_mul_right n (show i + 1 ≤ N by omega)
  rw [Nat.add_mul] at this; omega
/-- A slice of elements of n cells that reads so. -/
def SlE (n : Nat) (enc : α → List Value) (H : Hp) (v : Value) (l : List α) : Prop :=
  ∃ a c, v = .slice a l.length c ∧ l.length ≤ c ∧ ∀ t (h : t < (l.flatMap enc).length), ∃ ad, a = some ad ∧ H.cell? (ad.add t) = some (l.flatMap enc)[t]
/-- One whose block is known whole, and may be written. -/
def OwnE (n : Nat) (enc : α → List Value) (H : Hp) (v : Value) (l : List α) : Prop :=
  ∃ a c, v = .slice a l.length c ∧ l.length ≤ c ∧ (0 < c → ∃ b off cs e, a = some ⟨b, off, none⟩ ∧ H b = some (.cells cs e (0, 0)) ∧ off + c * n ≤ cs.size ∧ ∀ t (h : t < (l.flatMap enc).length), cs[off + t]? = some (l.flatMap enc)[t])
/-- The pointer to an element. -/
def ptrE (n : Nat) (v : Value) (i : Int) : Value := match v with | .slice (some a) _ _ => .pointer (some (a.add (i.toNat * n))) | _ => undef
theorem SlE.le (h : SlE n enc H v l) (hl : Le H H') : SlE n enc H' v l := by
  obtain ⟨a, c, rfl, hc, hr⟩ := h
  exact ⟨a, c, rfl, hc, fun i hi => by obtain ⟨ad, e, hh⟩ := hr i hi; exact ⟨ad, e, hl.cell hh⟩⟩
theorem SlE.len (h : SlE n enc H v l) : vLenSl v = some (.int .i64 l.length) := by
  obtain ⟨a, c, rfl, hc, hr⟩ := h; rfl
theorem SlE.base (h : SlE n enc H v l) (hn : ∀ x, (enc x).length = n) (n0 : 0 < n) {i : Nat} (hi : i < l.length) : ∃ a c, v = .slice (some a) l.length c ∧ ∀ j (hj : j < n), H.cell? (a.add (i * n + j)) = (enc l[i])[j]? := by
  obtain ⟨a, c, rfl, hc, hr⟩ := h
  have hb := flat_ix (n := n) hi n0
  obtain ⟨ad, rfl, _⟩ := hr (i * n + 0) (by rw [flat_len hn]; exact hb)
  refine ⟨ad, c, rfl, fun j hj => ?_⟩
  have hk := flat_ix (n := n) hi hj
  obtain ⟨ad', e, hh⟩ := hr (i * n + j) (by rw [flat_len hn]; exact hk)
  cases e
  rw [hh, ← flat_get hn l i j hi hj, List.getElem?_eq_getElem]
theorem SlE.ix (h : SlE n enc H v l) (hn : ∀ x, (enc x).length = n) (n0 : 0 < n) {k : IntKind} {i : Int} (h0 : 0 ≤ i) (h1 : i < l.length) : vIx n v (.int k i) = some (ptrE n v i) := by
  obtain ⟨a, c, rfl, _⟩ := h.base hn n0 (i := i.toNat) (by omega)
  simp only [vIx, ptrE]
  rw [if_pos ⟨h0, by simpa using h1⟩]
theorem SlE.ldn (h : SlE n enc H v l) (hn : ∀ x, (enc x).length = n) (n0 : 0 < n) (d : α) {i : Int} (h0 : 0 ≤ i) (h1 : i < l.length) : vLoadN n (ptrE n v i) H = some (.agg (enc (at_ d l i)).toArray) := by
  have hi : i.toNat < l.length := by omega
  obtain ⟨a, c, rfl, hr⟩ := h.base hn n0 hi
  have e : at_ d l i = l[i.toNat] := by unfold at_; rw [List.getD_eq_getElem?_getD, List.getElem?_eq_getElem hi]; rfl
  simp only [vLoadN, ptrE]
  rw [rd_cells (enc := id) _ n 0 (enc l[i.toNat]) (hn _) (fun j hj => by
    rw [add_add, Nat.zero_add, hr j (by rw [hn] at hj; exact hj), List.getElem?_eq_getElem hj]; rfl), e]
  simp
theorem SlE.fa (h : SlE n enc H v l) (hn : ∀ x, (enc x).length = n) (n0 : 0 < n) {i : Int} (h0 : 0 ≤ i) (h1 : i < l.length) (k : Nat) : vFa k (ptrE n v i) = some (fp (ptrE n v i) k) := by
  obtain ⟨a, c, rfl, _⟩ := h.base hn n0 (i := i.toNat) (by omega)
  rfl
theorem SlE.nilC (h : SlE n enc H v l) (hn : ∀ x, (enc x).length = n) (n0 : 0 < n) {i : Int} (h0 : 0 ≤ i) (h1 : i < l.length) : vNilC (ptrE n v i) = some (ptrE n v i) := by
  obtain ⟨a, c, rfl, _⟩ := h.base hn n0 (i := i.toNat) (by omega)
  rfl
theorem SlE.ld (h : SlE n enc H v l) (hn : ∀ x, (enc x).length = n) (n0 : 0 < n) (d : α) {i : Int} (h0 : 0 ≤ i) (h1 : i < l.length) {k : Nat} (hk : k < n) {x : Value} (hx : (enc (at_ d l i))[k]? = some x) : vLoad (fp (ptrE n v i) k) H = some x := by
  have hi : i.toNat < l.length := by omega
  obtain ⟨a, c, rfl, hr⟩ := h.base hn n0 hi
  have e : at_ d l i = l[i.toNat] := by unfold at_; rw [List.getD_eq_getElem?_getD, List.getElem?_eq_getElem hi]; rfl
  simp only [vLoad, fp, ptrE, add_add]
  rw [hr k hk, ← e, hx]
theorem SlE.firstC (h : SlE n enc H v l) (hn : ∀ x, (enc x).length = n) : firstC H n l.length v = some (l.flatMap enc) := by
  obtain ⟨a, c, rfl, hc, hr⟩ := h
  by_cases h0 : (l.flatMap enc).length = 0
  · have e : l.flatMap enc = [] := List.length_eq_zero_iff.mp h0
    have e2 : l.length * n = 0 := by rw [← flat_len hn]; exact h0
    cases a with
    | none => rw [e]; rfl
    | some ad => simp only [HL.firstC, e2, e]; rfl
  · obtain ⟨ad, rfl, _⟩ := hr 0 (by omega)
    simp only [HL.firstC]
    have := rd_cells (H := H) (enc := id) ad (l.length * n) 0 (l.flatMap enc) (flat_len hn l) (fun i hi => by obtain ⟨ad', e, hh⟩ := hr i hi; cases e; simpa using hh)
    rw [this]; simp
theorem SlE.lenO (h : SlE n enc H v l) : lenO v = some l.length := by
  obtain ⟨a, c, rfl, hc, hr⟩ := h; rfl
theorem OwnE.len (h : OwnE n enc H v l) : vLenSl v = some (.int .i64 l.length) := by
  obtain ⟨a, c, rfl, hc, hr⟩ := h; rfl
theorem OwnE.sl (h : OwnE n enc H v l) (hn : ∀ x, (enc x).length = n) : SlE n enc H v l := by
  obtain ⟨a, c, rfl, hc, hr⟩ := h
  refine ⟨a, c, rfl, hc, fun i hi => ?_⟩
  have h1 := flat_len hn l
  have hc0 : 0 < c := by
    rcases Nat.eq_zero_or_pos c with h | h
    · have : l.length = 0 := by omega
      rw [this, Nat.zero_mul] at h1; omega
    · exact h
  obtain ⟨b, off, cs, e, rfl, hb, hs, hcs⟩ := hr hc0
  exact ⟨_, rfl, by simp only [Hp.cell?, add_none, hb, hcs i hi]; rfl⟩
theorem OwnE.off (h : OwnE n enc H u l) (ho : Off v H H') (ha : Apart u v) : OwnE n enc H' u l := by
  obtain ⟨a, c, rfl, hc, hr⟩ := h
  refine ⟨a, c, rfl, hc, fun h0 => ?_⟩
  obtain ⟨b, off, cs, e, rfl, hb, hs, hcs⟩ := hr h0
  refine ⟨b, off, cs, e, rfl, ho b _ hb (ha b ?_), hs, hcs⟩
  simp only [bk]
  rw [if_neg (by omega)]
theorem OwnE.le (h : OwnE n enc H u l) (hl : Le H H') : OwnE n enc H' u l := by
  obtain ⟨a, c, rfl, hc, hr⟩ := h
  refine ⟨a, c, rfl, hc, fun h0 => ?_⟩
  obtain ⟨b, off, cs, e, rfl, hb, hs, hcs⟩ := hr h0
  exact ⟨b, off, cs, e, rfl, hl b _ hb, hs, hcs⟩
theorem OwnE.known (h : OwnE n enc H u l) : ∀ b, bk u = some b → ∃ o, H b = some o := by
  obtain ⟨a, c, rfl, hc, hr⟩ := h
  intro b hb
  cases a with
  | none => simp [bk] at hb
  | some ad =>
    simp only [bk] at hb
    by_cases h0 : c = 0
    · rw [if_pos h0] at hb; simp at hb
    · rw [if_neg h0] at hb
      obtain ⟨b', off, cs, e, he, hbb, _⟩ := hr (by omega)
      simp only [Option.some.injEq] at hb he
      subst he
      simp only at hb
      subst hb
      exact ⟨_, hbb⟩
theorem OwnE.apart (h : OwnE n enc H u l) (hn : Nw H v) : Apart u v := Apart.of_nw h.known hn
theorem OwnE.one (h : OwnE n enc H v l) : oneCell v = true := by
  obtain ⟨a, c, rfl, _⟩ := h; rfl
theorem OwnE.cells (h : OwnE n enc H v l) : v.cells = #[v] := by
  obtain ⟨a, c, rfl, _⟩ := h; rfl
theorem OwnE.isSl (h : OwnE n enc H v l) : ∃ a n c, v = .slice a n c := by
  obtain ⟨a, c, h, _⟩ := h; exact ⟨_, _, _, h⟩
theorem OwnE.cast {l' : List α} (e : l = l') (h : OwnE n enc H v l) : OwnE n enc H v l' := e ▸ h
theorem OwnE.nil_of (a : Option Addr) : OwnE n enc H (.slice a 0 0) ([] : List α) := ⟨a, 0, rfl, by simp, fun h0 => absurd h0 (by simp)⟩
theorem SlE.nil (c : Nat) (a : Option Addr) : SlE n enc H (.slice a 0 c) ([] : List α) := ⟨a, c, rfl, by simp, fun i hi => absurd hi (by simp)⟩
theorem SlE.one (h : SlE n enc H v l) : oneCell v = true := by
  obtain ⟨a, c, rfl, _⟩ := h; rfl
theorem SlE.cells (h : SlE n enc H v l) : v.cells = #[v] := by
  obtain ⟨a, c, rfl, _⟩ := h; rfl
theorem SlE.cast {l' : List α} (e : l = l') (h : SlE n enc H v l) : SlE n enc H v l' := e ▸ h
/-- A new row of elements of n cells: one element. -/
theorem bSE_one {z : Array Value} {e : TypeId} {x : α} {k : Nat} {cs : List Value} {K : Value → Hp → Prop} (hx : enc x = cs) (hl : cs.length = n) (n0 : 0 < n) (n1 : n ≤ 1000) (hz : z.size = n)
    (hk : ∀ v H', OwnE n enc H' v [x] → Nw H v → Le H H' → K v H') (hk1 : k = 1) : bS n k z e [(0, .agg cs.toArray)] H K := by
  subst hk1
  refine ⟨by omega, ?_⟩
  have hs : (zrow z (1 * n)).size = n := by simp [zrow]
  have hf : Instr.fill (fun i => some (i * n, n)) (if 1 * n = 0 then #[] else zrow z (1 * n)) [(0, .agg cs.toArray)] = some cs.toArray := by
    rw [if_neg (by omega)]
    simp only [Instr.fill, Value.cells, Nat.zero_mul, Nat.zero_add]
    rw [if_neg (by rw [hs]; simp [hl])]
    congr 1
    apply Array.ext_getElem?
    intro i
    have key : ∀ (r : List Value) (s : Nat) (a : Array Value), s + r.length ≤ a.size → ((r.toArray.zipIdx s).foldl (fun cs x => cs.setIfInBounds x.2 x.1) a)[i]? = if s ≤ i ∧ i < s + r.length then r[i - s]? else a[i]? := by
      intro r
      induction r with
      | nil => intro s a _; rw [if_neg (by simp only [List.length_nil]; omega), ← Array.foldl_toList, Array.toList_zipIdx]; rfl
      | cons y r ih =>
        intro s a ha
        simp only [List.length_cons] at ha ⊢
        rw [← Array.foldl_toList]
        simp only [Array.toList_zipIdx, List.zipIdx_cons, List.foldl_cons]
        have := ih (s + 1) (a.setIfInBounds s y) (by simp; omega)
        rw [← Array.foldl_toList] at this
        simp only [Array.toList_zipIdx] at this
        rw [this]
        by_cases h1 : s = i
        · subst h1
          rw [if_neg (by omega), if_pos (by omega), Array.getElem?_setIfInBounds_self_of_lt (by omega)]; simp
        · by_cases h2 : s + 1 ≤ i ∧ i < s + 1 + r.length
          · rw [if_pos h2, if_pos (by omega), show i - s = (i - (s + 1)) + 1 by omega]; simp
          · rw [if_neg h2, if_neg (by omega), Array.getElem?_setIfInBounds_ne h1]
    have := key cs 0 (zrow z (1 * n)) (by rw [hs]; omega)
    simp only [Nat.zero_add, Nat.zero_le, true_and, Nat.sub_zero] at this
    rw [this]
    split
    · simp
    · rw [Array.getElem?_eq_none (by rw [hs]; omega), Array.getElem?_eq_none (by simp; omega)]
  rw [hf]
  intro r hr
  refine hk _ _ ⟨some ⟨r, 0, none⟩, 1, rfl, Nat.le_refl _, fun _ => ⟨r, 0, _, e, rfl, Hp.put_same _ _ _, by simp [hl], fun t ht => ?_⟩⟩ ?_ (Le.put _ hr)
  · simp only [List.flatMap_cons, List.flatMap_nil, List.append_nil, hx] at ht ⊢
    simp [ht]
  · intro b hb
    simp only [bk] at hb
    split at hb
    · simp at hb
    · simp only [Option.some.injEq] at hb; subst hb; exact hr
/-- An append. -/
theorem OwnE.apd {bytes : Nat} {z : Array Value} {e : TypeId} {w : Value} {K : Value → Hp → Prop} (h : OwnE n enc H v l) (hn : ∀ x, (enc x).length = n) (hz : z.size = n) (hm : SlE n enc H w m) (ho : ∀ x ∈ m, ∀ y ∈ enc x, oneCell y = true)
    (hb : bytes ≤ 64) (hlm : l.length + m.length ≤ 68719476736)
    (hk : ∀ v' H', OwnE n enc H' v' (l ++ m) → Off v H H' → (∀ b, bk v' = some b → bk v = some b ∨ H b = none) → K v' H') : apd n bytes z e v w H K := by
  have hmf := hm.firstC hn
  have hml := hm.lenO
  have hlf := (h.sl hn).firstC hn
  have fl := flat_len hn l
  have fm := flat_len hn m
  have hap : (l ++ m).flatMap enc = l.flatMap enc ++ m.flatMap enc := List.flatMap_append
  obtain ⟨a, c, rfl, hlc, hr⟩ := h
  simp only [HL.apd, hml]
  by_cases hcap : l.length + m.length ≤ c
  · rw [if_pos hcap]
    simp only [hmf]
    by_cases hc0 : c = 0
    · have hl : l = [] := List.length_eq_zero_iff.mp (by omega)
      have hm' : m = [] := List.length_eq_zero_iff.mp (by omega)
      subst hl hm' hc0
      have : K (.slice a (([] : List α).length + ([] : List α).length) 0) H := hk _ H ⟨a, 0, rfl, by simp, fun h0 => absurd h0 (by simp)⟩ (fun b o hb _ => hb) (fun b hb => by cases a <;> simp [bk] at hb)
      cases a with
      | none => exact this
      | some ad => exact this
    · obtain ⟨b, off, cs, e', rfl, hbb, hs, hcs⟩ := hr (by omega)
      have hmul : (l.length + m.length) * n ≤ c * n := Nat.mul_le_mul_right n hcap
      rw [Nat.add_mul] at hmul
      simp only [add_none]
      refine stC_run (b := b) (e := e') (m.flatMap enc) _ 0 cs H rfl rfl hbb (by simp only [Nat.add_zero]; omega) (fun x hx => by
        obtain ⟨y, hy, hxy⟩ := List.mem_flatMap.mp hx; exact ho y hy x hxy) ?_
      intro H' cs' h1 h2 h3 h4 h5
      simp only [Nat.add_zero] at h3 h4
      refine hk _ H' ⟨some ⟨b, off, none⟩, c, by simp, by simpa using hcap, fun _ => ⟨b, off, cs', e', rfl, h1, by omega, ?_⟩⟩ ?_ ?_
      · simp only [hap]
        intro t ht
        rw [List.length_append] at ht
        by_cases htl : t < (l.flatMap enc).length
        · rw [h3 _ (by omega), hcs t htl, List.getElem_append_left htl]
        · have := h4 (t - (l.flatMap enc).length) (by omega)
          rw [show off + l.length * n + (t - (l.flatMap enc).length) = off + t by omega] at this
          rw [this, List.getElem_append_right (by omega)]
      · intro x o hx hne
        simp only [bk, if_neg hc0] at hne
        rw [h5 x (by rintro rfl; exact hne rfl)]; exact hx
      · intro x hx
        left; exact hx
  · rw [if_neg hcap]
    refine ⟨by omega, ?_, ?_⟩
    · have := nsc_le (n := l.length + m.length) (c := c) (by omega)
      exact Nat.le_trans (Nat.mul_le_mul this hb) (by omega)
    simp only [hlf, hmf]
    intro c' hc1 hc2 r hr'
    have hmul : (l.length + m.length) * n ≤ c' * n := Nat.mul_le_mul_right n hc1
    have hsub : (c' - (l.length + m.length)) * n = c' * n - (l.length + m.length) * n := Nat.sub_mul _ _ _
    rw [Nat.add_mul] at hmul hsub
    refine hk _ _ ⟨some ⟨r, 0, none⟩, c', by simp, by simpa using hc1, fun _ => ⟨r, 0, _, e, rfl, Hp.put_same _ _ _, ?_, ?_⟩⟩ ?_ ?_
    · have : (Builtin.zeroCells z (c' - (l.length + m.length))).size = (c' - (l.length + m.length)) * n := by simp [Builtin.zeroCells, hz]
      simp only [Nat.zero_add, Array.size_append, List.size_toArray, this, fl, fm]; omega
    · simp only [hap]
      intro t ht
      rw [Nat.zero_add, Array.getElem?_append_left (by simpa using ht)]
      rw [← Array.getElem?_toList]
      simp only [Array.toList_append]
      rw [List.getElem?_eq_getElem ht]
    · intro x o hx _
      rw [Hp.put_ne _ _ (by rintro rfl; rw [hr'] at hx; exact absurd hx (by simp))]; exact hx
    · intro x hx
      right
      simp only [bk] at hx
      split at hx
      · simp at hx
      · simp only [Option.some.injEq] at hx; subst hx; exact hr'
end
end Go.Proofs.Ythmdmbbdjbhcoaa.HL
/- Fields in slices: one of them. -/
namespace Go.Proofs.Ythmdmbbdjbhcoaa
open HL
/-- A field as it lies in cells. -/
structure Fv where
  r : Int
  c : Int
  v : Value
def fv0 : Fv := ⟨0, 0, .slice none 0 0⟩
def encFv (x : Fv) : List Value := [.int .i64 x.r, .int .i64 x.c, x.v]
theorem encFv_n (x : Fv) : (encFv x).length = 3 := rfl
end Go.Proofs.Ythmdmbbdjbhcoaa
/- What the small functions of structs come to: copies, sizes, what is alike. -/
namespace Go.Proofs.Ythmdmbbdjbhcoaa
open HL
set_option maxRecDepth 100000
end Go.Proofs.Ythmdmbbdjbhcoaa
/- What says whether lists are equal, and whether gases are. -/
namespace Go.Proofs.Ythmdmbbdjbhcoaa
open HL
set_option maxRecDepth 100000
theorem C.c19 {a b : Value} {l m : List Int} {H : Hp} {K : Value → Hp → Prop} (ha : Sl eI H a l) (hb : Sl eI H b m) (hl : l.length ≤ 9223372036854775807) (hk : K (.bool (decide (l = m))) H) :
    HT prg 84 [a, b].toArray H K := by
 refine R.q84 ?_
 unfold F.q84 jn; dsimp only
 rw [ha.len, hb.len, ob_some, ob_some, vInt_neq, ob_some]
 refine cnd_d (fun hne => ?_) (fun heq => ?_)
 rw [decide_eq_false] at hk
 exact hk
 rintro rfl; exact hne rfl
 have hlen : l.length = m.length := by omega
 rw [ob_some]
 refine ⟨fun n σ H1 => ∃ i : Nat, n = l.length - i ∧ i ≤ l.length ∧ H1 = H ∧ σ 0 = a ∧ σ 1 = b ∧ σ 13 = .int .i64 i ∧ σ 12 = .int .i64 l.length ∧ l.take i = m.take i,
    ⟨_, 0, rfl, by omega, rfl, rfl, rfl, rfl, rfl, by simp⟩, ?_⟩
 rintro n σ H1 ⟨i, rfl, hi', rfl, h0, h1, h5, h12, hall⟩
 simp only [h0, h1, h5, h12, vInt_lss, ob_some]
 refine cnd_d (fun hlt => ?_) (fun hge => ?_)
 have hlt' : i < l.length := by omega
 rw [ha.ix (by omega) hlt, ob_some, ha.ld 0 (by omega) hlt, ob_some, hb.ix (by omega) (by omega), ob_some, hb.ld 0 (by omega) (by omega), ob_some, vInt_neq, ob_some]
 refine cnd_d (fun hne => ?_) (fun heq => ?_)
 refine retK (K := K) (v' := .bool false) rfl ?_
 rw [decide_eq_false] at hk
 exact hk
 rintro rfl; exact hne rfl
 rw [vInt_add (by omega) (by omega), ob_some]
 refine nxt (l.length - (i + 1)) (by omega) ⟨i + 1, rfl, by omega, rfl, h0, h1, rfl, h12, ?_⟩
 rw [take_at 0 l hlt', take_at 0 m (by omega), hall, Decidable.not_not.mp heq]
 refine retK (K := K) (v' := .bool true) rfl ?_
 rw [List.take_of_length_le (by omega), List.take_of_length_le (by omega)] at hall
 rw [decide_eq_true hall] at hk
 exact hk

end Go.Proofs.Ythmdmbbdjbhcoaa
/- Lanes that are switched: what the program's and the reference's functions come to. -/
namespace Go.Proofs.Ythmdmbbdjbhcoaa
open HL
set_option maxRecDepth 100000
/-- May the car at i leave lane a for lane b? -/
def chg (a b : List Int) (i : Int) : Prop :=
  0 ≤ at_ 0 a i ∧ 0 ≤ at_ 0 a ((i + 1).tmod a.length) ∧ at_ 0 b i < 0 ∧ at_ 0 b ((i + 1).tmod a.length) < 0 ∧ at_ 0 b ((i + a.length - 1).tmod a.length) < 0
instance (a b : List Int) (i : Int) : Decidable (chg a b i) := by unfold chg; infer_instance
def okSw (l m : List Int) : Prop := isLane l ∧ isLane m ∧ l.length = m.length
instance (l m : List Int) : Decidable (okSw l m) := by unfold okSw; infer_instance
end Go.Proofs.Ythmdmbbdjbhcoaa
