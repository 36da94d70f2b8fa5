/- Several texts in one. -/
import Derived.Test.YthmdmbbdjbhcoaaHI
import Derived.Test.YthmdmbbdjbhcoaaG0
/- Slices over a partial heap: what is read, what is owned, and what stays when something else is written. -/
namespace Go.Proofs.Ythmdmbbdjbhcoaa.HL
abbrev eI : Int → Value := .int .i64
/-- The pointer to a slice's cell, where its elements have one cell each. -/
def ptr (v : Value) (i : Int) : Value := match v with | .slice (some a) _ _ => .pointer (some (a.add (i.toNat * 1))) | _ => undef
/-- The block that a slice or a pointer may write. -/
def bk (v : Value) : Option Nat := match v with | .slice (some a) _ c => if c = 0 then none else some a.block | .pointer (some a) => some a.block | _ => none
/-- The element at an index. -/
def at_ {α : Type} (d : α) (l : List α) (i : Int) : α := l.getD i.toNat d

/-- A slice that reads so. -/
def Sl {α : Type} (enc : α → Value) (H : Hp) (v : Value) (l : List α) : Prop :=
  ∃ a c, v = .slice a l.length c ∧ l.length ≤ c ∧ ∀ i (h : i < l.length), ∃ ad, a = some ad ∧ H.cell? (ad.add i) = some (enc l[i])
/-- A slice whose block is known whole, and may be written. -/
def Own {α : Type} (enc : α → Value) (H : Hp) (v : Value) (l : List α) : Prop :=
  ∃ a c, v = .slice a l.length c ∧ l.length ≤ c ∧ (0 < c → ∃ b off cs e, a = some ⟨b, off, none⟩ ∧ H b = some (.cells cs e (0, 0)) ∧ off + c ≤ cs.size ∧ ∀ i (h : i < l.length), cs[off + i]? = some (enc l[i]))
/-- A slice whose block is not known in a heap. -/
def Nw (H : Hp) (v : Value) : Prop := ∀ b, bk v = some b → H b = none
def Apart (u v : Value) : Prop := ∀ b, bk u = some b → bk v ≠ some b
/-- All that is known stays, but for a slice's block. -/
def Off (v : Value) (H H' : Hp) : Prop := ∀ b o, H b = some o → bk v ≠ some b → H' b = some o

theorem add_none (b off i : Nat) : (⟨b, off, none⟩ : Addr).add i = ⟨b, off + i, none⟩ := by
  unfold Addr.add
  split
  · rename_i h; subst h; rfl
  · rfl
theorem Apart.symm {u v : Value} (h : Apart u v) : Apart v u := fun b hb hu => h b hu hb
theorem Nw.le {H H' : Hp} {v : Value} (h : Nw H' v) (hl : Le H H') : Nw H v := fun b hb => by
  cases ho : H b with
  | none => rfl
  | some o => have := hl b o ho; rw [h b hb] at this; exact absurd this (by simp)
theorem Off.le {H0 H H' : Hp} {v : Value} (h : Off v H H') (hl : Le H0 H) (hn : Nw H0 v) : Le H0 H' := fun b o hb =>
  h b o (hl b o hb) (fun e => by rw [hn b e] at hb; exact absurd hb (by simp))
theorem Off.trans {A B C : Hp} {v : Value} (h : Off v A B) (h' : Off v B C) : Off v A C := fun b o hb hv => h' b o (h b o hb hv) hv

section
variable {α : Type} {enc : α → Value} {H H' : Hp} {u v : Value} {l : List α}
theorem Sl.le (h : Sl enc H v l) (hl : Le H H') : Sl enc H' v l := by
  obtain ⟨a, c, rfl, hc, hr⟩ := h
  exact ⟨a, c, rfl, hc, fun i hi => by obtain ⟨ad, e, hh⟩ := hr i hi; exact ⟨ad, e, hl.cell hh⟩⟩
theorem Sl.len (h : Sl enc H v l) : vLenSl v = some (.int .i64 l.length) := by
  obtain ⟨a, c, rfl, hc, hr⟩ := h; rfl
theorem Sl.ix (h : Sl enc H v l) {k : IntKind} {i : Int} (h0 : 0 ≤ i) (h1 : i < l.length) : vIx 1 v (.int k i) = some (ptr v i) := by
  obtain ⟨a, c, rfl, hc, hr⟩ := h
  obtain ⟨ad, rfl, hh⟩ := hr i.toNat (by omega)
  simp only [vIx, ptr]
  rw [if_pos ⟨h0, by simpa using h1⟩]
theorem Sl.ld (h : Sl enc H v l) (d : α) {i : Int} (h0 : 0 ≤ i) (h1 : i < l.length) : vLoad (ptr v i) H = some (enc (at_ d l i)) := by
  obtain ⟨a, c, rfl, hc, hr⟩ := h
  have hi : i.toNat < l.length := by omega
  obtain ⟨ad, rfl, hh⟩ := hr i.toNat hi
  simp only [vLoad, ptr, Nat.mul_one, hh, at_, List.getD_eq_getElem?_getD, List.getElem?_eq_getElem hi, Option.getD_some]
theorem Sl.nil (c : Nat) (a : Option Addr) : Sl enc H (.slice a 0 c) [] := ⟨a, c, rfl, by simp, fun i hi => absurd hi (by simp)⟩

theorem Own.len (h : Own enc H v l) : vLenSl v = some (.int .i64 l.length) := by
  obtain ⟨a, c, rfl, hc, hr⟩ := h; rfl
theorem Own.sl (h : Own enc H v l) : Sl enc H v l := by
  obtain ⟨a, c, rfl, hc, hr⟩ := h
  refine ⟨a, c, rfl, hc, fun i hi => ?_⟩
  obtain ⟨b, off, cs, e, rfl, hb, hs, hcs⟩ := hr (by omega)
  exact ⟨_, rfl, by simp only [Hp.cell?, add_none, hb, hcs i hi]; rfl⟩
theorem Own.off (h : Own enc H u l) (ho : Off v H H') (ha : Apart u v) : Own enc H' u l := by
  obtain ⟨a, c, rfl, hc, hr⟩ := h
  refine ⟨a, c, rfl, hc, fun h0 => ?_⟩
  obtain ⟨b, off, cs, e, rfl, hb, hs, hcs⟩ := hr h0
  refine ⟨b, off, cs, e, rfl, ho b _ hb (ha b ?_), hs, hcs⟩
  simp only [bk]
  rw [if_neg (by omega)]
theorem Own.le (h : Own enc H u l) (hl : Le H H') : Own enc H' u l := by
  obtain ⟨a, c, rfl, hc, hr⟩ := h
  refine ⟨a, c, rfl, hc, fun h0 => ?_⟩
  obtain ⟨b, off, cs, e, rfl, hb, hs, hcs⟩ := hr h0
  exact ⟨b, off, cs, e, rfl, hl b _ hb, hs, hcs⟩
theorem Own.known (h : Own enc H u l) : ∀ b, bk u = some b → ∃ o, H b = some o := by
  obtain ⟨a, c, rfl, hc, hr⟩ := h
  intro b hb
  cases a with
  | none => simp [bk] at hb
  | some ad =>
    simp only [bk] at hb
    by_cases h0 : c = 0
    · rw [if_pos h0] at hb; simp at hb
    · rw [if_neg h0] at hb
      obtain ⟨b', off, cs, e, he, hbb, _⟩ := hr (by omega)
      simp only [Option.some.injEq] at hb he
      subst he
      simp only at hb
      subst hb
      exact ⟨_, hbb⟩
theorem Own.apart (h : Own enc H u l) (hn : Nw H v) : Apart u v := fun b hb hv => by
  obtain ⟨o, ho⟩ := h.known b hb
  rw [hn b hv] at ho
  exact absurd ho (by simp)
theorem Apart.of_nw {H : Hp} {u v : Value} (hu : ∀ b, bk u = some b → ∃ o, H b = some o) (hn : Nw H v) : Apart u v := fun b hb hv => by
  obtain ⟨o, ho⟩ := hu b hb
  rw [hn b hv] at ho
  exact absurd ho (by simp)
theorem Own.nil_of (a : Option Addr) : Own enc H (.slice a 0 0) [] := ⟨a, 0, rfl, by simp, fun h0 => absurd h0 (by simp)⟩

/-- A write of one cell. -/
theorem Own.st (h : Own enc H v l) {x : α} {K : Hp → Prop} {i : Int} (h0 : 0 ≤ i) (h1 : i < l.length) (hx : oneCell (enc x) = true) (hz : (enc x).cells = #[enc x])
    (hk : ∀ H', Own enc H' v (l.set i.toNat x) → Off v H H' → K H') : st 1 (ptr v i) (enc x) H K := by
  obtain ⟨a, c, rfl, hc, hr⟩ := h
  obtain ⟨b, off, cs, e, rfl, hb, hs, hcs⟩ := hr (by omega)
  have hi : i.toNat < l.length := by omega
  simp only [HL.st, ptr, hz, List.toList_toArray, Nat.mul_one, List.size_toArray, List.length_singleton, true_and, stC]
  refine ⟨hx, ?_, ?_, ?_⟩
  · simp only [Hp.cell?, add_none, hb, hcs _ hi, Nat.add_zero]; rfl
  · simp only [Hp.frozen?, add_none, hb]; simp
  · refine hk _ ⟨_, c, by simp, by simpa using hc, fun _ => ⟨b, off, cs.setIfInBounds (off + i.toNat) (enc x), e, rfl, ?_, by simpa using hs, ?_⟩⟩ ?_
    · simp only [Hp.setCell, add_none, hb, Nat.add_zero, Hp.put_same]; rfl
    · intro j hj
      have hj' : j < l.length := by simpa using hj
      rw [Array.getElem?_setIfInBounds]
      by_cases e1 : off + i.toNat = off + j
      · have : i.toNat = j := by omega
        subst this
        rw [if_pos rfl, if_pos (by omega)]; simp
      · have : i.toNat ≠ j := by omega
        rw [if_neg e1, hcs j hj', List.getElem_set_ne this]
    · intro x' o ho hv
      simp only [bk, if_neg (by omega : ¬ c = 0)] at hv
      simp only [Hp.setCell, add_none, hb]
      rw [Hp.put_ne _ _ (by rintro rfl; exact hv rfl)]
      exact ho

theorem zrow_get (z : Value) (n i : Nat) (h : i < n) : (zrow #[z] n)[i]? = some z := by
  simp only [zrow, List.size_toArray, List.length_singleton, Nat.mod_one]
  simp [h]
theorem zrow_size (zs : Array Value) (n : Nat) : (zrow zs n).size = n := by simp [zrow]

/-- A new row. -/
theorem Own.mk_ {bytes : Nat} {z : α} {e : TypeId} {k k' : IntKind} {n c : Int} {K : Value → Hp → Prop} (h0 : 0 ≤ n) (h1 : n ≤ c) (h2 : c ≤ 281474976710656) (h3 : bytes * c ≤ 281474976710656)
    (hk : ∀ v H', Own enc H' v (List.replicate n.toNat z) → Nw H v → Le H H' → K v H') : mkS 1 bytes #[enc z] e (.int k n) (.int k' c) H K := by
  refine ⟨h0, h1, h2, h3, fun r hr => hk _ _ ⟨some ⟨r, 0, none⟩, c.toNat, by simp, by simp; omega, fun h4 => ⟨r, 0, _, e, rfl, Hp.put_same _ _ _, ?_, ?_⟩⟩ ?_ (Le.put _ hr)⟩
  · rw [Nat.mul_one, if_neg (by omega), zrow_size]; omega
  · intro i hi
    have : i < n.toNat := by simpa using hi
    rw [Nat.mul_one, if_neg (by omega), Nat.zero_add, zrow_get _ _ _ (by omega)]; simp
  · intro b hb
    simp only [bk] at hb
    split at hb
    · simp at hb
    · simp only [Option.some.injEq] at hb; subst hb; exact hr

theorem rd_cells (ad : Addr) : ∀ (n s : Nat) (l : List α), l.length = n → (∀ i (h : i < l.length), H.cell? (ad.add (s + i)) = some (enc l[i])) → rdCells H ad s n = some (l.map enc)
  | 0, s, l, hn, _ => by have : l = [] := List.length_eq_zero_iff.mp hn; subst this; rfl
  | n + 1, s, l, hn, h => by
    cases l with
    | nil => simp at hn
    | cons x r =>
      simp only [rdCells]
      have h0 := h 0 (by simp)
      simp only [Nat.add_zero, List.getElem_cons_zero] at h0
      rw [h0, rd_cells ad n (s + 1) r (by simpa using hn) (fun i hi => by
        have := h (i + 1) (by simpa using hi)
        rw [show s + 1 + i = s + (i + 1) by omega]
        simpa using this)]
      rfl
theorem Sl.firstC (h : Sl enc H v l) : firstC H 1 l.length v = some (l.map enc) := by
  obtain ⟨a, c, rfl, hc, hr⟩ := h
  cases l with
  | nil => cases a <;> rfl
  | cons x r =>
    obtain ⟨ad, rfl, _⟩ := hr 0 (by simp)
    simp only [HL.firstC, Nat.mul_one]
    exact rd_cells ad _ 0 _ rfl (fun i hi => by obtain ⟨ad', e, hh⟩ := hr i hi; cases e; simpa using hh)
theorem Sl.lenO (h : Sl enc H v l) : lenO v = some l.length := by
  obtain ⟨a, c, rfl, hc, hr⟩ := h; rfl

theorem stC_run {K : Hp → Prop} {b : Nat} {e : TypeId} : ∀ (m : List Value) (ad : Addr) (i : Nat) (cs : Array Value) (H : Hp), ad.block = b → ad.spot = none → H b = some (.cells cs e (0, 0)) → ad.off + i + m.length ≤ cs.size →
    (∀ x ∈ m, oneCell x = true) →
    (∀ H' cs', H' b = some (.cells cs' e (0, 0)) → cs'.size = cs.size → (∀ j, j < ad.off + i → cs'[j]? = cs[j]?) → (∀ j (h : j < m.length), cs'[ad.off + i + j]? = some m[j]) → (∀ x, x ≠ b → H' x = H x) → K H') → stC ad K m i H
  | [], ad, i, cs, H, hb, hsp, hH, hs, ho, hk => hk H cs hH rfl (fun _ _ => rfl) (fun j h => absurd h (by simp)) (fun _ _ => rfl)
  | x :: m, ad, i, cs, H, hb, hsp, hH, hs, ho, hk => by
    obtain ⟨abk, aoff, asp⟩ := ad
    simp only at hb hsp hs hk
    subst hb hsp
    simp only [List.length_cons] at hs
    refine ⟨ho x (by simp), ?_, ?_, ?_⟩
    · simp only [Hp.cell?, add_none, hH]
      rw [Array.getElem?_eq_getElem (by omega)]; rfl
    · simp only [Hp.frozen?, add_none, hH]; simp
    · refine stC_run (b := abk) (e := e) m _ (i + 1) (cs.setIfInBounds (aoff + i) x) _ rfl rfl ?_ (by simp; omega) (fun y hy => ho y (by simp [hy])) ?_
      · simp only [Hp.setCell, add_none, hH, Hp.put_same]; rfl
      · intro H' cs' h1 h2 h3 h4 h5
        refine hk H' cs' h1 (by simpa using h2) ?_ ?_ ?_
        · intro j hj
          rw [h3 j (by simp only; omega), Array.getElem?_setIfInBounds_ne (by omega)]
        · intro j hj
          cases j with
          | zero =>
            rw [Nat.add_zero, h3 _ (by simp only; omega), Array.getElem?_setIfInBounds_self_of_lt (by omega)]; rfl
          | succ j =>
            have := h4 j (by simpa using hj)
            simp only at this
            rw [show aoff + i + (j + 1) = aoff + (i + 1) + j by omega, this]; rfl
        · intro x' hx'
          rw [h5 x' hx']
          simp only [Hp.setCell, add_none, hH]
          rw [Hp.put_ne _ _ hx']

/-- An append. -/
theorem Own.apd {bytes : Nat} {z : Value} {e : TypeId} {w : Value} {m : List α} {K : Value → Hp → Prop} (h : Own enc H v l) (hm : Sl enc H w m) (ho : ∀ x, oneCell (enc x) = true)
    (hb : l.length + m.length < 9223372036854775808) (hc : ∀ c, l.length + m.length > c → Builtin.nextslicecap (l.length + m.length) c * bytes ≤ 281474976710656)
    (hk : ∀ v' H', Own enc H' v' (l ++ m) → Off v H H' → (∀ b, bk v' = some b → bk v = some b ∨ H b = none) → K v' H') : apd 1 bytes #[z] e v w H K := by
  have hmf := hm.firstC
  have hml := hm.lenO
  have hlf := h.sl.firstC
  obtain ⟨a, c, rfl, hlc, hr⟩ := h
  simp only [HL.apd, hml]
  by_cases hcap : l.length + m.length ≤ c
  · rw [if_pos hcap]
    simp only [hmf]
    by_cases hc0 : c = 0
    · have hl : l = [] := List.length_eq_zero_iff.mp (by omega)
      have hm' : m = [] := List.length_eq_zero_iff.mp (by omega)
      subst hl hm' hc0
      have : K (.slice a (([] : List α).length + ([] : List α).length) 0) H := hk _ H ⟨a, 0, rfl, by simp, fun h0 => absurd h0 (by simp)⟩ (fun b o hb _ => hb) (fun b hb => by cases a <;> simp [bk] at hb)
      cases a with
      | none => exact this
      | some ad => exact this
    · obtain ⟨b, off, cs, e', rfl, hbb, hs, hcs⟩ := hr (by omega)
      simp only [add_none, Nat.mul_one]
      refine stC_run (b := b) (e := e') (m.map enc) _ 0 cs H rfl rfl hbb (by simp; omega) (by simp; intro x _; exact ho x) ?_
      intro H' cs' h1 h2 h3 h4 h5
      simp only [Nat.add_zero] at h3 h4
      refine hk _ H' ⟨some ⟨b, off, none⟩, c, by simp, by simpa using hcap, fun _ => ⟨b, off, cs', e', rfl, h1, by omega, ?_⟩⟩ ?_ ?_
      · intro i hi
        by_cases hil : i < l.length
        · rw [h3 _ (by omega), hcs i hil, List.getElem_append_left hil]
        · have := h4 (i - l.length) (by simp at hi ⊢; omega)
          rw [show off + l.length + (i - l.length) = off + i by omega] at this
          rw [this, List.getElem_append_right (by omega)]; simp
      · intro x o hx hne
        simp only [bk, if_neg hc0] at hne
        rw [h5 x (by rintro rfl; exact hne rfl)]; exact hx
      · intro x hx
        left; exact hx
  · rw [if_neg hcap]
    refine ⟨hb, hc c (by omega), ?_⟩
    simp only [hlf, hmf]
    intro c' hc1 hc2 r hr'
    refine hk _ _ ⟨some ⟨r, 0, none⟩, c', by simp, by simpa using hc1, fun _ => ⟨r, 0, _, e, rfl, Hp.put_same _ _ _, ?_, ?_⟩⟩ ?_ ?_
    · have : (Builtin.zeroCells #[z] (c' - (l.length + m.length))).size = c' - (l.length + m.length) := by simp [Builtin.zeroCells]
      simp [this]; omega
    · intro i hi
      rw [Nat.zero_add, Array.getElem?_append_left (by simpa using hi)]
      rw [← Array.getElem?_toList]
      simp only [Array.toList_append, ← List.map_append, List.getElem?_map]
      rw [List.getElem?_eq_getElem hi]; rfl
    · intro x o hx _
      rw [Hp.put_ne _ _ (by rintro rfl; rw [hr'] at hx; exact absurd hx (by simp))]; exact hx
    · intro x hx
      right
      simp only [bk] at hx
      split at hx
      · simp at hx
      · simp only [Option.some.injEq] at hx; subst hx; exact hr'
end
end Go.Proofs.Ythmdmbbdjbhcoaa.HL
/- Values and loops over a partial heap: the rules that a proof of a function's text uses. -/
namespace Go.Proofs.Ythmdmbbdjbhcoaa.HL
theorem cnd_i {b : Bool} {A B : Prop} (h1 : b = true → A) (h2 : b = false → B) : cnd (.bool b) A B := by
  cases b
  · exact h2 rfl
  · exact h1 rfl
theorem cnd_d {p : Prop} [Decidable p] {A B : Prop} (h1 : p → A) (h2 : ¬ p → B) : cnd (.bool (decide p)) A B := by
  by_cases h : p
  · rw [decide_eq_true h]; exact h1 h
  · rw [decide_eq_false h]; exact h2 h
theorem gop_tt (F : (Value → Hp → Prop) → Prop) (H : Hp) (K : Value → Hp → Prop) : gop (.bool true) true F H K = F K := rfl
theorem gop_ft (F : (Value → Hp → Prop) → Prop) (H : Hp) (K : Value → Hp → Prop) : gop (.bool false) true F H K = K undef H := rfl
theorem vPick_t (a b : Value) : vPick (.bool true) a b = some a := rfl
theorem vPick_f (a b : Value) : vPick (.bool false) a b = some b := rfl
theorem vExt_20 (a b : Value) : vExt (.tuple #[a, b]) 0 = some a := rfl
theorem vExt_21 (a b : Value) : vExt (.tuple #[a, b]) 1 = some b := rfl
theorem vUn_not (b : Bool) : vUn .not (.bool b) = some (.bool !b) := rfl
theorem vInt_lss (k : IntKind) (a b : Int) : vInt .lss (.int k a) (.int k b) = some (.bool (decide (a < b))) := by simp [vInt]
theorem vInt_leq (k : IntKind) (a b : Int) : vInt .leq (.int k a) (.int k b) = some (.bool (decide (a ≤ b))) := by simp [vInt]
theorem vInt_gtr (k : IntKind) (a b : Int) : vInt .gtr (.int k a) (.int k b) = some (.bool (decide (b < a))) := by simp [vInt]
theorem vInt_geq (k : IntKind) (a b : Int) : vInt .geq (.int k a) (.int k b) = some (.bool (decide (b ≤ a))) := by simp [vInt]
theorem vInt_eql (k : IntKind) (a b : Int) : vInt .eql (.int k a) (.int k b) = some (.bool (decide (a = b))) := by
  simp only [vInt, if_true]; rfl
theorem vInt_neq (k : IntKind) (a b : Int) : vInt .neq (.int k a) (.int k b) = some (.bool (decide (a ≠ b))) := by
  simp only [vInt, if_true, bne, ne_eq, decide_not]; rfl
theorem wrap64 {x : Int} (h : -9223372036854775808 ≤ x) (h' : x < 9223372036854775808) : IntKind.i64.wrap x = x := by
  unfold IntKind.wrap; simp [IntKind.signed, IntKind.bits]; omega
theorem vInt_add {a b : Int} (h : -9223372036854775808 ≤ a + b) (h' : a + b < 9223372036854775808) : vInt .add (.int .i64 a) (.int .i64 b) = some (.int .i64 (a + b)) := by
  simp only [vInt, if_true, wrap64 h h']
theorem vInt_sub {a b : Int} (h : -9223372036854775808 ≤ a - b) (h' : a - b < 9223372036854775808) : vInt .sub (.int .i64 a) (.int .i64 b) = some (.int .i64 (a - b)) := by
  simp only [vInt, if_true, wrap64 h h']
theorem vInt_mul {a b : Int} (h : -9223372036854775808 ≤ a * b) (h' : a * b < 9223372036854775808) : vInt .mul (.int .i64 a) (.int .i64 b) = some (.int .i64 (a * b)) := by
  simp only [vInt, if_true, wrap64 h h']
theorem vInt_rem {a b : Int} (h : b ≠ 0) : vInt .rem (.int .i64 a) (.int .i64 b) = some (.int .i64 (a.tmod b)) := by
  simp only [vInt]; rw [if_pos ⟨trivial, h⟩]
theorem vInt_quo {a b : Int} (h : 0 < b) (h1 : -9223372036854775808 ≤ a) (h2 : a < 9223372036854775808) : vInt .quo (.int .i64 a) (.int .i64 b) = some (.int .i64 (a.tdiv b)) := by
  have e : IntKind.i64.wrap (a.tdiv b) = a.tdiv b := by
    have h3 := Int.natAbs_tdiv_le_natAbs a b
    by_cases h0 : 0 ≤ a
    · have := Int.tdiv_nonneg h0 (Int.le_of_lt h)
      exact wrap64 (by omega) (by omega)
    · have h4 := Int.tdiv_nonneg (a := -a) (by omega) (Int.le_of_lt h)
      rw [Int.neg_tdiv] at h4
      exact wrap64 (by omega) (by omega)
  simp only [vInt]; rw [if_pos ⟨trivial, by omega⟩, e]
/-- What is reckoned at once: the rules of straight code. -/
theorem EV : (∀ (a : Value) (K : Value → Prop), ob (some a) K = K a) ∧ (∀ F H K, gop (.bool true) true F H K = F K) ∧ (∀ F H K, gop (.bool false) true F H K = K undef H) ∧
    (∀ F H K, gop (.bool true) false F H K = K undef H) ∧ (∀ F H K, gop (.bool false) false F H K = F K) ∧ (∀ a b, vPick (.bool true) a b = some a) ∧ (∀ a b, vPick (.bool false) a b = some b) ∧
    (∀ b, vUn .not (.bool b) = some (.bool !b)) ∧ ((!true) = false) ∧ ((!false) = true) ∧ (∀ A B, cnd (.bool true) A B = A) ∧ (∀ A B, cnd (.bool false) A B = B) ∧
    (∀ a b, vBool .eql (.bool a) (.bool b) = some (.bool (a == b))) ∧ (∀ a b, vBool .neq (.bool a) (.bool b) = some (.bool (!(a == b)))) ∧ (∀ b : Bool, (b == b) = true) ∧
    (∀ k a b, vInt .neq (.int k a) (.int k b) = some (.bool (decide (a ≠ b)))) ∧ (∀ k a b, vInt .lss (.int k a) (.int k b) = some (.bool (decide (a < b)))) ∧ (∀ k a b, vInt .gtr (.int k a) (.int k b) = some (.bool (decide (b < a)))) ∧
    (∀ k a b, vInt .leq (.int k a) (.int k b) = some (.bool (decide (a ≤ b)))) ∧ (∀ k a b, vInt .geq (.int k a) (.int k b) = some (.bool (decide (b ≤ a)))) ∧ (∀ k a b, vInt .eql (.int k a) (.int k b) = some (.bool (decide (a = b)))) ∧
    (∀ a : Int, decide (a ≠ a) = false) ∧ (∀ a : Int, decide (a = a) = true) ∧ (decide False = false) ∧ (decide True = true) ∧
    (∀ a b, vExt (.tuple #[a, b]) 0 = some a) ∧ (∀ a b, vExt (.tuple #[a, b]) 1 = some b) ∧ (∀ a b c, vExt (.tuple #[a, b, c]) 0 = some a) ∧ (∀ a b c, vExt (.tuple #[a, b, c]) 1 = some b) ∧ (∀ a b c, vExt (.tuple #[a, b, c]) 2 = some c) ∧
    (∀ a b c d, vExt (.tuple #[a, b, c, d]) 0 = some a) ∧ (∀ a b c d, vExt (.tuple #[a, b, c, d]) 1 = some b) ∧ (∀ a b c d, vExt (.tuple #[a, b, c, d]) 2 = some c) ∧ (∀ a b c d, vExt (.tuple #[a, b, c, d]) 3 = some d) :=
  ⟨fun _ _ => rfl, fun _ _ _ => rfl, fun _ _ _ => rfl, fun _ _ _ => rfl, fun _ _ _ => rfl, fun _ _ => rfl, fun _ _ => rfl, fun _ => rfl, rfl, rfl, fun _ _ => rfl, fun _ _ => rfl,
    fun _ _ => rfl, fun _ _ => rfl, fun b => by simp, fun _ _ _ => vInt_neq _ _ _, fun _ _ _ => vInt_lss _ _ _, fun _ _ _ => vInt_gtr _ _ _, fun _ _ _ => vInt_leq _ _ _, fun _ _ _ => vInt_geq _ _ _, fun _ _ _ => vInt_eql _ _ _,
    fun a => by simp, fun a => by simp, by simp, by simp, fun _ _ => rfl, fun _ _ => rfl, fun _ _ _ => rfl, fun _ _ _ => rfl, fun _ _ _ => rfl, fun _ _ _ _ => rfl, fun _ _ _ _ => rfl, fun _ _ _ _ => rfl, fun _ _ _ _ => rfl⟩

theorem ob_i {α : Type} {x : Option α} {a : α} {K : α → Prop} (h : x = some a) (hk : K a) : ob x K := by rw [h]; exact hk
theorem cnd_t1 {A B : Prop} (h : A) : cnd (.bool true) A B := h
theorem cnd_f1 {A B : Prop} (h : B) : cnd (.bool false) A B := h
theorem gop_rt {F : (Value → Hp → Prop) → Prop} {H : Hp} {K : Value → Hp → Prop} (h : F K) : gop (.bool true) true F H K := h
theorem gop_rf {F : (Value → Hp → Prop) → Prop} {H : Hp} {K : Value → Hp → Prop} (h : F K) : gop (.bool false) false F H K := h
theorem gop_st {F : (Value → Hp → Prop) → Prop} {H : Hp} {K : Value → Hp → Prop} (h : K undef H) : gop (.bool true) false F H K := h
theorem gop_sf {F : (Value → Hp → Prop) → Prop} {H : Hp} {K : Value → Hp → Prop} (h : K undef H) : gop (.bool false) true F H K := h
theorem vBool_neq_same (b : Bool) : vBool .neq (.bool b) (.bool b) = some (.bool false) := by simp [vBool]
theorem vInt_neq_same (k : IntKind) (a : Int) : vInt .neq (.int k a) (.int k a) = some (.bool false) := by simp [vInt_neq]
theorem vInt_lss_f {k : IntKind} {a b : Int} (h : ¬ a < b) : vInt .lss (.int k a) (.int k b) = some (.bool false) := by simp only [vInt_lss, h, decide_false]
theorem Own.one {α : Type} {enc : α → Value} {H : Hp} {v : Value} {l : List α} (h : Own enc H v l) : oneCell v = true := by
  obtain ⟨a, c, rfl, _⟩ := h; rfl
theorem Own.cells {α : Type} {enc : α → Value} {H : Hp} {v : Value} {l : List α} (h : Own enc H v l) : v.cells = #[v] := by
  obtain ⟨a, c, rfl, _⟩ := h; rfl
theorem Sl.one {α : Type} {enc : α → Value} {H : Hp} {v : Value} {l : List α} (h : Sl enc H v l) : oneCell v = true := by
  obtain ⟨a, c, rfl, _⟩ := h; rfl
theorem Sl.cells {α : Type} {enc : α → Value} {H : Hp} {v : Value} {l : List α} (h : Sl enc H v l) : v.cells = #[v] := by
  obtain ⟨a, c, rfl, _⟩ := h; rfl

/-- A loop's next round. -/
theorem nxt {I : Nat → S → Hp → Prop} {Q : Exit → S → Hp → Prop} {σ : S} {H : Hp} {n : Nat} (m : Nat) (hm : m < n) (h : I m σ H) : thenQ (fun σ' H' => ∃ m, m < n ∧ I m σ' H') Q .normal σ H := ⟨m, hm, h⟩
theorem retK {K : Value → Hp → Prop} {v v' : Value} {H : Hp} (e : v = v') (h : K v' H) : K v H := e ▸ h

/-- Several ways that meet: what holds where they meet. -/
theorem jn_i {K : S → Hp → Prop} {F : (S → Hp → Prop) → Prop} (P : S → Hp → Prop) (h : ∀ σ H, P σ H → K σ H) (hf : ∀ J : S → Hp → Prop, (∀ σ H, P σ H → J σ H) → F J) : jn K F := hf K h

theorem kF {p : Prop} [Decidable p] {K : Value → Hp → Prop} {H : Hp} (hk : K (.bool (decide p)) H) (h : ¬ p) : K (.bool false) H := by rw [decide_eq_false h] at hk; exact hk
theorem kQ {p q : Prop} [Decidable p] [Decidable q] {K : Value → Hp → Prop} {H : Hp} (hk : K (.bool (decide p)) H) (h : p ↔ q) : K (.bool (decide q)) H := by rw [decide_eq_decide.mpr h] at hk; exact hk

/-! ### copies -/
theorem growBy_le (n : Nat) : ∀ (r c : Nat), Builtin.growBy n r c ≤ max c (n + (n + 768) / 4)
  | 0, c => by simp only [Builtin.growBy]; omega
  | r + 1, c => by
    simp only [Builtin.growBy]
    split
    · omega
    · have := growBy_le n r (c + (c + 768) / 4)
      omega
theorem nsc_le {n c : Nat} (h : n > c) : Builtin.nextslicecap n c ≤ 2 * n + 1024 := by
  unfold Builtin.nextslicecap
  split
  · omega
  · split
    · omega
    · have := growBy_le n 4 c; omega
theorem bS_nil {α : Type} {enc : α → Value} {z : Value} {sz : Nat} {e : TypeId} {H : Hp} {K : Value → Hp → Prop} (hk : ∀ v H', Own enc H' v [] → Nw H v → bk v = none → Le H H' → K v H') : bS sz 0 #[z] e [] H K := by
  refine ⟨by simp, ?_⟩
  rw [if_pos (by simp)]
  show match some (#[] : Array Value) with
    | some cells => ∀ r, H r = none → K (.slice (some ⟨r, 0, none⟩) 0 0) (H.put r (.cells cells e))
    | none => False
  intro r hr
  refine hk _ _ ⟨some ⟨r, 0, none⟩, 0, rfl, by simp, fun h0 => absurd h0 (by simp)⟩ ?_ rfl (Le.put _ hr)
  intro b hb
  simp [bk] at hb
theorem Own.isSl {α : Type} {enc : α → Value} {H : Hp} {v : Value} {l : List α} (h : Own enc H v l) : ∃ a n c, v = .slice a n c := by
  obtain ⟨a, c, h, _⟩ := h; exact ⟨_, _, _, h⟩
theorem Sl.isSl {α : Type} {enc : α → Value} {H : Hp} {v : Value} {l : List α} (h : Sl enc H v l) : ∃ a n c, v = .slice a n c := by
  obtain ⟨a, c, h, _⟩ := h; exact ⟨_, _, _, h⟩
/-! ### lists by index -/
theorem at_eq {α : Type} (d : α) (l : List α) {i : Nat} (h : i < l.length) : at_ d l (i : Int) = l[i] := by
  unfold at_; rw [Int.toNat_natCast, List.getD_eq_getElem?_getD, List.getElem?_eq_getElem h]; rfl
theorem take_at {α : Type} (d : α) (l : List α) {i : Nat} (h : i < l.length) : l.take (i + 1) = l.take i ++ [at_ d l (i : Int)] := by
  rw [at_eq d l h, List.take_append_getElem h]
theorem at_mem {α : Type} (d : α) (l : List α) {i : Int} (h0 : 0 ≤ i) (h : i < l.length) : at_ d l i ∈ l := by
  have hn : i.toNat < l.length := by omega
  unfold at_; rw [List.getD_eq_getElem?_getD, List.getElem?_eq_getElem hn]; exact List.getElem_mem hn
end Go.Proofs.Ythmdmbbdjbhcoaa.HL
/- Maps by texts. -/
namespace Go.Proofs.Ythmdmbbdjbhcoaa.HL
set_option maxRecDepth 100000
def keyIs (k : ByteArray) (v : Value) : Bool := match v with | .string s => k == s | _ => false
/-- What a map has at a text: where, and what. -/
def findS (k : ByteArray) : List MapEntry → Nat → Option (Nat × Value)
  | [], _ => none
  | e :: es, i => bif keyIs k e.key then some (i, e.val) else findS k es (i + 1)
def keysS (es : List MapEntry) : Prop := ∀ e ∈ es, ∃ s, e.key = .string s
theorem findNow_s (k : ByteArray) : ∀ (es : List MapEntry) (i : Nat), keysS es → Instr.findNow .string (.string k) es i = some (findS k es i)
  | [], i, _ => rfl
  | e :: es, i, h => by
    obtain ⟨s, hs⟩ := h e (by simp)
    have ih := findNow_s k es (i + 1) (fun x hx => h x (by simp [hx]))
    unfold Instr.findNow findS
    rw [hs]
    simp only [Instr.sameNow, keyIs]
    cases e1 : (k == s) with
    | true => rfl
    | false => exact ih
theorem val_checkKey (P : Program) (b : Bool) (n : Nat) (t : TypeId) (k : ByteArray) (H : Hp) (ht : P.underlying t = some .string) : val P (Instr.checkKey b (n + 1) t (.string k)) H = some () := by
  unfold Instr.checkKey
  rw [val_bind', val_underlying, ht]
  rfl
theorem val_findKey (P : Program) (t : TypeId) (k : ByteArray) (es : List MapEntry) (H : Hp) (ht : P.underlying t = some .string) (hk : keysS es) : val P (Instr.findKey t (.string k) es) H = some (findS k es 0) := by
  unfold Instr.findKey
  rw [val_bind', val_underlying, ht]
  simp only [Option.bind_some]
  rw [findNow_s k es 0 hk]
  rfl
/-- A look into a map. -/
theorem hp_lookup {P : Program} {t kt et : TypeId} {r c : Nat} {es : Array MapEntry} {k : ByteArray} {z : Value} {H : Hp} {K : Value → Hp → Prop} (ht : P.underlying t = some (.map kt et)) (hk : P.underlying kt = some .string) (hz : zeroO P et = some z)
    (hr : H r = some (.map es c)) (hs : keysS es.toList) (h : K (.tuple #[match findS k es.toList 0 with | some (_, v) => v | none => z, .bool (findS k es.toList 0).isSome]) H) : hp P (Instr.lookup t (.map (some r)) (.string k) true) H K := by
  refine hp_of_val P _ H K _ ?_ h
  unfold Instr.lookup
  rw [val_bind', val_underlying, ht]
  simp only [Option.bind_some]
  rw [val_bind']
  have e1 : val P (getObj r) H = some (.map es c) := by
    show val P (Sem.getObj r Sem.pure) H = _
    simp only [val, hr]
  simp only [val_bind', e1, Option.bind_some, val_pure, val_checkKey P _ 9999 kt k H hk, val_findKey P kt k es.toList H hk hs]
  cases findS k es.toList 0 with
  | none => simp only [val_bind', val_zeroValue, hz, Option.bind_some, val_pure]; rfl
  | some x => simp only []; rfl
/-- A new entry. -/
theorem hp_mapUpdate_new {P : Program} {t kt et : TypeId} {r c : Nat} {es : Array MapEntry} {k : ByteArray} {x : Value} {H : Hp} {K : Unit → Hp → Prop} (ht : P.underlying t = some (.map kt et)) (hk : P.underlying kt = some .string)
    (hr : H r = some (.map es c)) (hs : keysS es.toList) (hn : findS k es.toList 0 = none) (h : K () (H.put r (.map (es.push { key := .string k, val := x, born := c }) (c + 1)))) : hp P (Instr.mapUpdate t (.map (some r)) (.string k) x) H K := by
  unfold Instr.mapUpdate
  have e1 : val P (getObj r) H = some (.map es c) := by
    show val P (Sem.getObj r Sem.pure) H = _
    simp only [val, hr]
  refine hp_val_bind P _ _ H K _ (by rw [val_underlying, ht]) ?_
  refine hp_val_bind P _ _ H K _ e1 ?_
  refine hp_val_bind P _ _ H K _ (val_checkKey P _ 9999 kt k H hk) ?_
  refine hp_val_bind P _ _ H K _ (val_findKey P kt k es.toList H hk hs) ?_
  rw [hn]
  show hp P (Sem.setObj r _ (Sem.pure ())) H K
  simp only [hp, hr]
  exact h
end Go.Proofs.Ythmdmbbdjbhcoaa.HL
/- Rules for contracts that are told once. -/
namespace Go.Proofs.Ythmdmbbdjbhcoaa.HL
theorem keq {K : Value → Hp → Prop} {v v' : Value} {H : Hp} (e : v = v') (h : K v' H) : K v H := e ▸ h
theorem Own.cast {α : Type} {enc : α → Value} {H : Hp} {v : Value} {l l' : List α} (e : l = l') (h : Own enc H v l) : Own enc H v l' := e ▸ h
theorem Sl.cast {α : Type} {enc : α → Value} {H : Hp} {v : Value} {l l' : List α} (e : l = l') (h : Sl enc H v l) : Sl enc H v l' := e ▸ h
/-- A slice that reads so, and whose block is known. -/
def Ro {α : Type} (enc : α → Value) (H : Hp) (v : Value) (l : List α) : Prop := Sl enc H v l ∧ ∀ b, bk v = some b → ∃ o, H b = some o
section
variable {α : Type} {enc : α → Value} {H H' : Hp} {u v : Value} {l l' : List α}
theorem Ro.sl (h : Ro enc H v l) : Sl enc H v l := h.1
theorem Ro.known (h : Ro enc H v l) : ∀ b, bk v = some b → ∃ o, H b = some o := h.2
theorem Ro.le (h : Ro enc H v l) (hl : Le H H') : Ro enc H' v l := ⟨h.1.le hl, fun b hb => by obtain ⟨o, ho⟩ := h.2 b hb; exact ⟨o, hl b o ho⟩⟩
theorem Sl.off (h : Sl enc H u l) (ho : Off v H H') (ha : Apart u v) : Sl enc H' u l := by
  obtain ⟨a, c, rfl, hc, hr⟩ := h
  refine ⟨a, c, rfl, hc, fun i hi => ?_⟩
  obtain ⟨ad, rfl, hh⟩ := hr i hi
  refine ⟨ad, rfl, ?_⟩
  have hb : (ad.add i).block = ad.block := by unfold Addr.add; split <;> rfl
  have hne : bk v ≠ some ad.block := ha ad.block (by simp only [bk]; rw [if_neg (by omega)])
  unfold Hp.cell? at hh ⊢
  rw [hb] at hh ⊢
  cases hc' : H ad.block with
  | none => simp [hc'] at hh
  | some o => rw [ho _ _ hc' hne]; rw [hc'] at hh; exact hh
theorem Ro.off (h : Ro enc H u l) (ho : Off v H H') (ha : Apart u v) : Ro enc H' u l := ⟨h.1.off ho ha, fun b hb => by obtain ⟨o, hh⟩ := h.2 b hb; exact ⟨o, ho b o hh (ha b hb)⟩⟩
theorem Ro.apart (h : Ro enc H u l) (hn : Nw H v) : Apart u v := Apart.of_nw h.2 hn
theorem Ro.cast (e : l = l') (h : Ro enc H v l) : Ro enc H v l' := e ▸ h
theorem Ro.len (h : Ro enc H v l) : vLenSl v = some (.int .i64 l.length) := h.1.len
theorem Ro.one (h : Ro enc H v l) : oneCell v = true := h.1.one
theorem Ro.cells (h : Ro enc H v l) : v.cells = #[v] := h.1.cells
theorem Ro.isSl (h : Ro enc H v l) : ∃ a n c, v = .slice a n c := h.1.isSl
theorem Own.ro (h : Own enc H v l) : Ro enc H v l := ⟨h.sl, h.known⟩
end
theorem gop_u {b : Bool} {F : (Value → Hp → Prop) → Prop} {H : Hp} {K : Value → Hp → Prop} (h : K undef H) : gop undef b F H K := h
theorem gop_e {b c g : Bool} {F : (Value → Hp → Prop) → Prop} {H : Hp} {K : Value → Hp → Prop} (e : b = c) (h : gop (.bool c) g F H K) : gop (.bool b) g F H K := by rw [e]; exact h
theorem vPick_et {b : Bool} (e : b = true) (x y : Value) : vPick (.bool b) x y = some x := by rw [e]; rfl
theorem vPick_ef {b : Bool} (e : b = false) (x y : Value) : vPick (.bool b) x y = some y := by rw [e]; rfl
/-- A number, or 0 where something does not hold. -/
def selI (p : Prop) [Decidable p] (x : Int) : Int := if p then x else 0
/-- A list, or none where something does not hold. -/
def selL {α : Type} (p : Prop) [Decidable p] (l : List α) : List α := if p then l else []
theorem selI_t {p : Prop} [Decidable p] {x : Int} (h : p) : selI p x = x := if_pos h
theorem selI_f {p : Prop} [Decidable p] {x : Int} (h : ¬ p) : selI p x = 0 := if_neg h
theorem selL_t {α : Type} {p : Prop} [Decidable p] {l : List α} (h : p) : selL p l = l := if_pos h
theorem selL_f {α : Type} {p : Prop} [Decidable p] {l : List α} (h : ¬ p) : selL p l = [] := if_neg h
theorem selL_len {α : Type} {p : Prop} [Decidable p] {l : List α} {n : Nat} (h : p → l.length ≤ n) : (selL p l).length ≤ n := by
  unfold selL
  split
  · rename_i hp; exact h hp
  · simp
end Go.Proofs.Ythmdmbbdjbhcoaa.HL
/- Structs that lie in cells of their own: what is read, what is written. -/
namespace Go.Proofs.Ythmdmbbdjbhcoaa.HL
/-- A pointer to a block of its own, whose cells are these. -/
def Cel (H : Hp) (p : Value) (cs : List Value) : Prop := ∃ r e, p = .pointer (some ⟨r, 0, none⟩) ∧ H r = some (.cells cs.toArray e (0, 0))
/-- The pointer to a field's first cell. -/
def fp (p : Value) (k : Nat) : Value := match p with | .pointer (some a) => .pointer (some (a.add k)) | _ => undef

theorem oc0 : ∀ x ∈ ([] : List Value), oneCell x = true := fun x hx => absurd hx (by simp)
theorem oc1 {a : Value} {l : List Value} (h : oneCell a = true) (t : ∀ x ∈ l, oneCell x = true) : ∀ x ∈ a :: l, oneCell x = true := fun x hx => by
  rcases List.mem_cons.mp hx with rfl | hx
  · exact h
  · exact t x hx
section
variable {H H' : Hp} {p u v : Value} {cs : List Value}
theorem Cel.le (h : Cel H p cs) (hl : Le H H') : Cel H' p cs := by
  obtain ⟨r, e, rfl, hr⟩ := h
  exact ⟨r, e, rfl, hl _ _ hr⟩
theorem Cel.off (h : Cel H p cs) (ho : Off v H H') (ha : Apart p v) : Cel H' p cs := by
  obtain ⟨r, e, rfl, hr⟩ := h
  exact ⟨r, e, rfl, ho _ _ hr (ha r rfl)⟩
theorem Cel.known (h : Cel H p cs) : ∀ b, bk p = some b → ∃ o, H b = some o := by
  obtain ⟨r, e, rfl, hr⟩ := h
  intro b hb
  simp only [bk, Option.some.injEq] at hb
  subst hb
  exact ⟨_, hr⟩
theorem Cel.apart (h : Cel H p cs) (hn : Nw H v) : Apart p v := Apart.of_nw h.known hn
theorem nw_i {cells : Array Value} {e : TypeId} {K : Value → Hp → Prop} (hk : ∀ p H', Cel H' p cells.toList → Nw H p → Le H H' → K p H') : nw cells e H K := by
  intro r hr
  refine hk _ _ ⟨r, e, rfl, by rw [Hp.put_same]⟩ ?_ (Le.put _ hr)
  intro b hb
  simp only [bk, Option.some.injEq] at hb
  subst hb
  exact hr
theorem Cel.fa (h : Cel H p cs) (k : Nat) : vFa k p = some (fp p k) := by
  obtain ⟨r, e, rfl, hr⟩ := h; rfl
theorem Cel.nilC (h : Cel H p cs) : vNilC p = some p := by
  obtain ⟨r, e, rfl, hr⟩ := h; rfl
theorem Cel.ld (h : Cel H p cs) (k : Nat) {x : Value} (hx : cs[k]? = some x) : vLoad (fp p k) H = some x := by
  obtain ⟨r, e, rfl, hr⟩ := h
  simp only [fp, vLoad, add_none, Hp.cell?, hr, Nat.zero_add]
  simpa using hx
theorem Cel.ld0 (h : Cel H p cs) {x : Value} (hx : cs[0]? = some x) : vLoad p H = some x := by
  obtain ⟨r, e, rfl, hr⟩ := h
  simp only [vLoad, Hp.cell?, hr]
  simpa using hx
theorem Cel.ldn (h : Cel H p cs) {n : Nat} (hn : cs.length = n) : vLoadN n p H = some (.agg cs.toArray) := by
  obtain ⟨r, e, rfl, hr⟩ := h
  simp only [vLoadN]
  rw [rd_cells (enc := id) ⟨r, 0, none⟩ n 0 cs hn (fun i hi => by
    simp only [add_none, Hp.cell?, hr, Nat.zero_add]
    simp [hi])]
  simp
theorem Cel.st (h : Cel H p cs) {k : Nat} {x : Value} {K : Hp → Prop} (hk : k < cs.length) (ho : oneCell x = true) (hz : x.cells = #[x]) (hK : ∀ H', Cel H' p (cs.set k x) → Off p H H' → K H') : st 1 (fp p k) x H K := by
  obtain ⟨r, e, rfl, hr⟩ := h
  simp only [HL.st, fp, add_none, Nat.zero_add, hz, List.toList_toArray, List.size_toArray, List.length_singleton, true_and, stC, Nat.add_zero]
  refine ⟨ho, ?_, ?_, ?_⟩
  · simp only [Hp.cell?, hr]; simp [hk]
  · simp only [Hp.frozen?, hr]; simp
  · refine hK _ ⟨r, e, rfl, ?_⟩ ?_
    · simp only [Hp.setCell, hr, Hp.put_same]; simp
    · intro b o hb hv
      simp only [bk, ne_eq, Option.some.injEq] at hv
      simp only [Hp.setCell, hr]
      rw [Hp.put_ne _ _ (Ne.symm hv)]
      exact hb
theorem Cel.st0 (h : Cel H p cs) {x : Value} {K : Hp → Prop} (hk : 0 < cs.length) (ho : oneCell x = true) (hz : x.cells = #[x]) (hK : ∀ H', Cel H' p (cs.set 0 x) → Off p H H' → K H') : HL.st 1 p x H K := by
  have : p = fp p 0 := by obtain ⟨r, e, rfl, hr⟩ := h; simp [fp, add_none]
  have h2 := h.st (K := K) hk ho hz hK
  rwa [← this] at h2
theorem Cel.stn (h : Cel H p cs) {ws : List Value} {n : Nat} {K : Hp → Prop} (hn : ws.length = n) (hl : cs.length = n) (ho : ∀ x ∈ ws, oneCell x = true) (hK : ∀ H', Cel H' p ws → Off p H H' → K H') : HL.st n p (.agg ws.toArray) H K := by
  obtain ⟨r, e, rfl, hr⟩ := h
  simp only [HL.st, Value.cells, List.size_toArray, hn, true_and]
  refine stC_run (b := r) (e := e) ws _ 0 cs.toArray H rfl rfl hr (by simp; omega) ho ?_
  intro H' cs' h1 h2 h3 h4 h5
  refine hK H' ⟨r, e, rfl, ?_⟩ ?_
  · rw [h1]
    have : cs' = ws.toArray := by
      apply Array.ext_getElem?
      intro i
      by_cases hi : i < ws.length
      · have := h4 i hi
        simp only [Nat.zero_add] at this
        rw [this]; simp [hi]
      · rw [Array.getElem?_eq_none (by rw [h2]; simp; omega), Array.getElem?_eq_none (by simp; omega)]
    rw [this]
  · intro b o hb hv
    simp only [bk, ne_eq, Option.some.injEq] at hv
    rw [h5 b (Ne.symm hv)]; exact hb
end
end Go.Proofs.Ythmdmbbdjbhcoaa.HL
/- Slices whose elements have some cells each: what is read, what is owned. -/
namespace Go.Proofs.Ythmdmbbdjbhcoaa.HL
theorem add_add (a : Addr) (x y : Nat) : (a.add x).add y = a.add (x + y) := by
  unfold Addr.add
  by_cases hx : x = 0
  · subst hx; simp
  · by_cases hy : y = 0
    · subst hy; simp
    · rw [if_neg hx, if_neg hy, if_neg (by omega)]; simp [Nat.add_assoc]
theorem add_block (a : Addr) (x : Nat) : (a.add x).block = a.block := by unfold Addr.add; split <;> rfl
section
variable {α : Type} {enc : α → List Value} {n : Nat} {H H' : Hp} {u v : Value} {l m : List α}
theorem flat_len (hn : ∀ x, (enc x).length = n) : ∀ l : List α, (l.flatMap enc).length = l.length * n
  | [] => by simp
  | x :: r => by rw [List.flatMap_cons, List.length_append, hn, flat_len hn r, List.length_cons, Nat.add_mul, Nat.one_mul]; omega
theorem flat_get (hn : ∀ x, (enc x).length = n) : ∀ (l : List α) (i j : Nat) (h : i < l.length), j < n → (l.flatMap enc)[i * n + j]? = (enc l[i])[j]?
  | x :: r, 0, j, h, hj => by rw [List.flatMap_cons, Nat.zero_mul, Nat.zero_add, List.getElem?_append_left (by rw [hn]; exact hj)]; rfl
  | x :: r, i + 1, j, h, hj => by
    rw [List.flatMap_cons, List.getElem?_append_right (by rw [hn, Nat.add_mul]; omega), hn, show (i + 1) * n + j - n = i * n + j by rw [Nat.add_mul]; omega, flat_get hn r i j (by simpa using h) hj]
    rfl
theorem flat_ix {i j N : Nat} (h : i < N) (hj : j < n) : i * n + j < N * n := by
  have := Nat.mul_le_mul_right n (show i + 1 ≤ N by omega)
  rw [Nat.add_mul] at this; omega
/-- A slice of elements of n cells that reads so. -/
def SlE (n : Nat) (enc : α → List Value) (H : Hp) (v : Value) (l : List α) : Prop :=
  ∃ a c, v = .slice a l.length c ∧ l.length ≤ c ∧ ∀ t (h : t < (l.flatMap enc).length), ∃ ad, a = some ad ∧ H.cell? (ad.add t) = some (l.flatMap enc)[t]
/-- One whose block is known whole, and may be written. -/
def OwnE (n : Nat) (enc : α → List Value) (H : Hp) (v : Value) (l : List α) : Prop :=
  ∃ a c, v = .slice a l.length c ∧ l.length ≤ c ∧ (0 < c → ∃ b off cs e, a = some ⟨b, off, none⟩ ∧ H b = some (.cells cs e (0, 0)) ∧ off + c * n ≤ cs.size ∧ ∀ t (h : t < (l.flatMap enc).length), cs[off + t]? = some (l.flatMap enc)[t])
/-- The pointer to an element. -/
def ptrE (n : Nat) (v : Value) (i : Int) : Value := match v with | .slice (some a) _ _ => .pointer (some (a.add (i.toNat * n))) | _ => undef
theorem SlE.le (h : SlE n enc H v l) (hl : Le H H') : SlE n enc H' v l := by
  obtain ⟨a, c, rfl, hc, hr⟩ := h
  exact ⟨a, c, rfl, hc, fun i hi => by obtain ⟨ad, e, hh⟩ := hr i hi; exact ⟨ad, e, hl.cell hh⟩⟩
theorem SlE.len (h : SlE n enc H v l) : vLenSl v = some (.int .i64 l.length) := by
  obtain ⟨a, c, rfl, hc, hr⟩ := h; rfl
theorem SlE.base (h : SlE n enc H v l) (hn : ∀ x, (enc x).length = n) (n0 : 0 < n) {i : Nat} (hi : i < l.length) : ∃ a c, v = .slice (some a) l.length c ∧ ∀ j (hj : j < n), H.cell? (a.add (i * n + j)) = (enc l[i])[j]? := by
  obtain ⟨a, c, rfl, hc, hr⟩ := h
  have hb := flat_ix (n := n) hi n0
  obtain ⟨ad, rfl, _⟩ := hr (i * n + 0) (by rw [flat_len hn]; exact hb)
  refine ⟨ad, c, rfl, fun j hj => ?_⟩
  have hk := flat_ix (n := n) hi hj
  obtain ⟨ad', e, hh⟩ := hr (i * n + j) (by rw [flat_len hn]; exact hk)
  cases e
  rw [hh, ← flat_get hn l i j hi hj, List.getElem?_eq_getElem]
theorem SlE.ix (h : SlE n enc H v l) (hn : ∀ x, (enc x).length = n) (n0 : 0 < n) {k : IntKind} {i : Int} (h0 : 0 ≤ i) (h1 : i < l.length) : vIx n v (.int k i) = some (ptrE n v i) := by
  obtain ⟨a, c, rfl, _⟩ := h.base hn n0 (i := i.toNat) (by omega)
  simp only [vIx, ptrE]
  rw [if_pos ⟨h0, by simpa using h1⟩]
theorem SlE.ldn (h : SlE n enc H v l) (hn : ∀ x, (enc x).length = n) (n0 : 0 < n) (d : α) {i : Int} (h0 : 0 ≤ i) (h1 : i < l.length) : vLoadN n (ptrE n v i) H = some (.agg (enc (at_ d l i)).toArray) := by
  have hi : i.toNat < l.length := by omega
  obtain ⟨a, c, rfl, hr⟩ := h.base hn n0 hi
  have e : at_ d l i = l[i.toNat] := by unfold at_; rw [List.getD_eq_getElem?_getD, List.getElem?_eq_getElem hi]; rfl
  simp only [vLoadN, ptrE]
  rw [rd_cells (enc := id) _ n 0 (enc l[i.toNat]) (hn _) (fun j hj => by
    rw [add_add, Nat.zero_add, hr j (by rw [hn] at hj; exact hj), List.getElem?_eq_getElem hj]; rfl), e]
  simp
theorem SlE.fa (h : SlE n enc H v l) (hn : ∀ x, (enc x).length = n) (n0 : 0 < n) {i : Int} (h0 : 0 ≤ i) (h1 : i < l.length) (k : Nat) : vFa k (ptrE n v i) = some (fp (ptrE n v i) k) := by
  obtain ⟨a, c, rfl, _⟩ := h.base hn n0 (i := i.toNat) (by omega)
  rfl
theorem SlE.nilC (h : SlE n enc H v l) (hn : ∀ x, (enc x).length = n) (n0 : 0 < n) {i : Int} (h0 : 0 ≤ i) (h1 : i < l.length) : vNilC (ptrE n v i) = some (ptrE n v i) := by
  obtain ⟨a, c, rfl, _⟩ := h.base hn n0 (i := i.toNat) (by omega)
  rfl
theorem SlE.ld (h : SlE n enc H v l) (hn : ∀ x, (enc x).length = n) (n0 : 0 < n) (d : α) {i : Int} (h0 : 0 ≤ i) (h1 : i < l.length) {k : Nat} (hk : k < n) {x : Value} (hx : (enc (at_ d l i))[k]? = some x) : vLoad (fp (ptrE n v i) k) H = some x := by
  have hi : i.toNat < l.length := by omega
  obtain ⟨a, c, rfl, hr⟩ := h.base hn n0 hi
  have e : at_ d l i = l[i.toNat] := by unfold at_; rw [List.getD_eq_getElem?_getD, List.getElem?_eq_getElem hi]; rfl
  simp only [vLoad, fp, ptrE, add_add]
  rw [hr k hk, ← e, hx]
theorem SlE.firstC (h : SlE n enc H v l) (hn : ∀ x, (enc x).length = n) : firstC H n l.length v = some (l.flatMap enc) := by
  obtain ⟨a, c, rfl, hc, hr⟩ := h
  by_cases h0 : (l.flatMap enc).length = 0
  · have e : l.flatMap enc = [] := List.length_eq_zero_iff.mp h0
    have e2 : l.length * n = 0 := by rw [← flat_len hn]; exact h0
    cases a with
    | none => rw [e]; rfl
    | some ad => simp only [HL.firstC, e2, e]; rfl
  · obtain ⟨ad, rfl, _⟩ := hr 0 (by omega)
    simp only [HL.firstC]
    have := rd_cells (H := H) (enc := id) ad (l.length * n) 0 (l.flatMap enc) (flat_len hn l) (fun i hi => by obtain ⟨ad', e, hh⟩ := hr i hi; cases e; simpa using hh)
    rw [this]; simp
theorem SlE.lenO (h : SlE n enc H v l) : lenO v = some l.length := by
  obtain ⟨a, c, rfl, hc, hr⟩ := h; rfl
theorem OwnE.len (h : OwnE n enc H v l) : vLenSl v = some (.int .i64 l.length) := by
  obtain ⟨a, c, rfl, hc, hr⟩ := h; rfl
theorem OwnE.sl (h : OwnE n enc H v l) (hn : ∀ x, (enc x).length = n) : SlE n enc H v l := by
  obtain ⟨a, c, rfl, hc, hr⟩ := h
  refine ⟨a, c, rfl, hc, fun i hi => ?_⟩
  have h1 := flat_len hn l
  have hc0 : 0 < c := by
    rcases Nat.eq_zero_or_pos c with h | h
    · have : l.length = 0 := by omega
      rw [this, Nat.zero_mul] at h1; omega
    · exact h
  obtain ⟨b, off, cs, e, rfl, hb, hs, hcs⟩ := hr hc0
  exact ⟨_, rfl, by simp only [Hp.cell?, add_none, hb, hcs i hi]; rfl⟩
theorem OwnE.off (h : OwnE n enc H u l) (ho : Off v H H') (ha : Apart u v) : OwnE n enc H' u l := by
  obtain ⟨a, c, rfl, hc, hr⟩ := h
  refine ⟨a, c, rfl, hc, fun h0 => ?_⟩
  obtain ⟨b, off, cs, e, rfl, hb, hs, hcs⟩ := hr h0
  refine ⟨b, off, cs, e, rfl, ho b _ hb (ha b ?_), hs, hcs⟩
  simp only [bk]
  rw [if_neg (by omega)]
theorem OwnE.le (h : OwnE n enc H u l) (hl : Le H H') : OwnE n enc H' u l := by
  obtain ⟨a, c, rfl, hc, hr⟩ := h
  refine ⟨a, c, rfl, hc, fun h0 => ?_⟩
  obtain ⟨b, off, cs, e, rfl, hb, hs, hcs⟩ := hr h0
  exact ⟨b, off, cs, e, rfl, hl b _ hb, hs, hcs⟩
theorem OwnE.known (h : OwnE n enc H u l) : ∀ b, bk u = some b → ∃ o, H b = some o := by
  obtain ⟨a, c, rfl, hc, hr⟩ := h
  intro b hb
  cases a with
  | none => simp [bk] at hb
  | some ad =>
    simp only [bk] at hb
    by_cases h0 : c = 0
    · rw [if_pos h0] at hb; simp at hb
    · rw [if_neg h0] at hb
      obtain ⟨b', off, cs, e, he, hbb, _⟩ := hr (by omega)
      simp only [Option.some.injEq] at hb he
      subst he
      simp only at hb
      subst hb
      exact ⟨_, hbb⟩
theorem OwnE.apart (h : OwnE n enc H u l) (hn : Nw H v) : Apart u v := Apart.of_nw h.known hn
theorem OwnE.one (h : OwnE n enc H v l) : oneCell v = true := by
  obtain ⟨a, c, rfl, _⟩ := h; rfl
theorem OwnE.cells (h : OwnE n enc H v l) : v.cells = #[v] := by
  obtain ⟨a, c, rfl, _⟩ := h; rfl
theorem OwnE.isSl (h : OwnE n enc H v l) : ∃ a n c, v = .slice a n c := by
  obtain ⟨a, c, h, _⟩ := h; exact ⟨_, _, _, h⟩
theorem OwnE.cast {l' : List α} (e : l = l') (h : OwnE n enc H v l) : OwnE n enc H v l' := e ▸ h
theorem OwnE.nil_of (a : Option Addr) : OwnE n enc H (.slice a 0 0) ([] : List α) := ⟨a, 0, rfl, by simp, fun h0 => absurd h0 (by simp)⟩
theorem SlE.nil (c : Nat) (a : Option Addr) : SlE n enc H (.slice a 0 c) ([] : List α) := ⟨a, c, rfl, by simp, fun i hi => absurd hi (by simp)⟩
theorem SlE.one (h : SlE n enc H v l) : oneCell v = true := by
  obtain ⟨a, c, rfl, _⟩ := h; rfl
theorem SlE.cells (h : SlE n enc H v l) : v.cells = #[v] := by
  obtain ⟨a, c, rfl, _⟩ := h; rfl
theorem SlE.cast {l' : List α} (e : l = l') (h : SlE n enc H v l) : SlE n enc H v l' := e ▸ h
/-- A new row of elements of n cells: one element. -/
theorem bSE_one {z : Array Value} {e : TypeId} {x : α} {k : Nat} {cs : List Value} {K : Value → Hp → Prop} (hx : enc x = cs) (hl : cs.length = n) (n0 : 0 < n) (n1 : n ≤ 1000) (hz : z.size = n)
    (hk : ∀ v H', OwnE n enc H' v [x] → Nw H v → Le H H' → K v H') (hk1 : k = 1) : bS n k z e [(0, .agg cs.toArray)] H K := by
  subst hk1
  refine ⟨by omega, ?_⟩
  have hs : (zrow z (1 * n)).size = n := by simp [zrow]
  have hf : Instr.fill (fun i => some (i * n, n)) (if 1 * n = 0 then #[] else zrow z (1 * n)) [(0, .agg cs.toArray)] = some cs.toArray := by
    rw [if_neg (by omega)]
    simp only [Instr.fill, Value.cells, Nat.zero_mul, Nat.zero_add]
    rw [if_neg (by rw [hs]; simp [hl])]
    congr 1
    apply Array.ext_getElem?
    intro i
    have key : ∀ (r : List Value) (s : Nat) (a : Array Value), s + r.length ≤ a.size → ((r.toArray.zipIdx s).foldl (fun cs x => cs.setIfInBounds x.2 x.1) a)[i]? = if s ≤ i ∧ i < s + r.length then r[i - s]? else a[i]? := by
      intro r
      induction r with
      | nil => intro s a _; rw [if_neg (by simp only [List.length_nil]; omega), ← Array.foldl_toList, Array.toList_zipIdx]; rfl
      | cons y r ih =>
        intro s a ha
        simp only [List.length_cons] at ha ⊢
        rw [← Array.foldl_toList]
        simp only [Array.toList_zipIdx, List.zipIdx_cons, List.foldl_cons]
        have := ih (s + 1) (a.setIfInBounds s y) (by simp; omega)
        rw [← Array.foldl_toList] at this
        simp only [Array.toList_zipIdx] at this
        rw [this]
        by_cases h1 : s = i
        · subst h1
          rw [if_neg (by omega), if_pos (by omega), Array.getElem?_setIfInBounds_self_of_lt (by omega)]; simp
        · by_cases h2 : s + 1 ≤ i ∧ i < s + 1 + r.length
          · rw [if_pos h2, if_pos (by omega), show i - s = (i - (s + 1)) + 1 by omega]; simp
          · rw [if_neg h2, if_neg (by omega), Array.getElem?_setIfInBounds_ne h1]
    have := key cs 0 (zrow z (1 * n)) (by rw [hs]; omega)
    simp only [Nat.zero_add, Nat.zero_le, true_and, Nat.sub_zero] at this
    rw [this]
    split
    · simp
    · rw [Array.getElem?_eq_none (by rw [hs]; omega), Array.getElem?_eq_none (by simp; omega)]
  rw [hf]
  intro r hr
  refine hk _ _ ⟨some ⟨r, 0, none⟩, 1, rfl, Nat.le_refl _, fun _ => ⟨r, 0, _, e, rfl, Hp.put_same _ _ _, by simp [hl], fun t ht => ?_⟩⟩ ?_ (Le.put _ hr)
  · simp only [List.flatMap_cons, List.flatMap_nil, List.append_nil, hx] at ht ⊢
    simp [ht]
  · intro b hb
    simp only [bk] at hb
    split at hb
    · simp at hb
    · simp only [Option.some.injEq] at hb; subst hb; exact hr
/-- An append. -/
theorem OwnE.apd {bytes : Nat} {z : Array Value} {e : TypeId} {w : Value} {K : Value → Hp → Prop} (h : OwnE n enc H v l) (hn : ∀ x, (enc x).length = n) (hz : z.size = n) (hm : SlE n enc H w m) (ho : ∀ x ∈ m, ∀ y ∈ enc x, oneCell y = true)
    (hb : bytes ≤ 64) (hlm : l.length + m.length ≤ 68719476736)
    (hk : ∀ v' H', OwnE n enc H' v' (l ++ m) → Off v H H' → (∀ b, bk v' = some b → bk v = some b ∨ H b = none) → K v' H') : apd n bytes z e v w H K := by
  have hmf := hm.firstC hn
  have hml := hm.lenO
  have hlf := (h.sl hn).firstC hn
  have fl := flat_len hn l
  have fm := flat_len hn m
  have hap : (l ++ m).flatMap enc = l.flatMap enc ++ m.flatMap enc := List.flatMap_append
  obtain ⟨a, c, rfl, hlc, hr⟩ := h
  simp only [HL.apd, hml]
  by_cases hcap : l.length + m.length ≤ c
  · rw [if_pos hcap]
    simp only [hmf]
    by_cases hc0 : c = 0
    · have hl : l = [] := List.length_eq_zero_iff.mp (by omega)
      have hm' : m = [] := List.length_eq_zero_iff.mp (by omega)
      subst hl hm' hc0
      have : K (.slice a (([] : List α).length + ([] : List α).length) 0) H := hk _ H ⟨a, 0, rfl, by simp, fun h0 => absurd h0 (by simp)⟩ (fun b o hb _ => hb) (fun b hb => by cases a <;> simp [bk] at hb)
      cases a with
      | none => exact this
      | some ad => exact this
    · obtain ⟨b, off, cs, e', rfl, hbb, hs, hcs⟩ := hr (by omega)
      have hmul : (l.length + m.length) * n ≤ c * n := Nat.mul_le_mul_right n hcap
      rw [Nat.add_mul] at hmul
      simp only [add_none]
      refine stC_run (b := b) (e := e') (m.flatMap enc) _ 0 cs H rfl rfl hbb (by simp only [Nat.add_zero]; omega) (fun x hx => by
        obtain ⟨y, hy, hxy⟩ := List.mem_flatMap.mp hx; exact ho y hy x hxy) ?_
      intro H' cs' h1 h2 h3 h4 h5
      simp only [Nat.add_zero] at h3 h4
      refine hk _ H' ⟨some ⟨b, off, none⟩, c, by simp, by simpa using hcap, fun _ => ⟨b, off, cs', e', rfl, h1, by omega, ?_⟩⟩ ?_ ?_
      · simp only [hap]
        intro t ht
        rw [List.length_append] at ht
        by_cases htl : t < (l.flatMap enc).length
        · rw [h3 _ (by omega), hcs t htl, List.getElem_append_left htl]
        · have := h4 (t - (l.flatMap enc).length) (by omega)
          rw [show off + l.length * n + (t - (l.flatMap enc).length) = off + t by omega] at this
          rw [this, List.getElem_append_right (by omega)]
      · intro x o hx hne
        simp only [bk, if_neg hc0] at hne
        rw [h5 x (by rintro rfl; exact hne rfl)]; exact hx
      · intro x hx
        left; exact hx
  · rw [if_neg hcap]
    refine ⟨by omega, ?_, ?_⟩
    · have := nsc_le (n := l.length + m.length) (c := c) (by omega)
      exact Nat.le_trans (Nat.mul_le_mul this hb) (by omega)
    simp only [hlf, hmf]
    intro c' hc1 hc2 r hr'
    have hmul : (l.length + m.length) * n ≤ c' * n := Nat.mul_le_mul_right n hc1
    have hsub : (c' - (l.length + m.length)) * n = c' * n - (l.length + m.length) * n := Nat.sub_mul _ _ _
    rw [Nat.add_mul] at hmul hsub
    refine hk _ _ ⟨some ⟨r, 0, none⟩, c', by simp, by simpa using hc1, fun _ => ⟨r, 0, _, e, rfl, Hp.put_same _ _ _, ?_, ?_⟩⟩ ?_ ?_
    · have : (Builtin.zeroCells z (c' - (l.length + m.length))).size = (c' - (l.length + m.length)) * n := by simp [Builtin.zeroCells, hz]
      simp only [Nat.zero_add, Array.size_append, List.size_toArray, this, fl, fm]; omega
    · simp only [hap]
      intro t ht
      rw [Nat.zero_add, Array.getElem?_append_left (by simpa using ht)]
      rw [← Array.getElem?_toList]
      simp only [Array.toList_append]
      rw [List.getElem?_eq_getElem ht]
    · intro x o hx _
      rw [Hp.put_ne _ _ (by rintro rfl; rw [hr'] at hx; exact absurd hx (by simp))]; exact hx
    · intro x hx
      right
      simp only [bk] at hx
      split at hx
      · simp at hx
      · simp only [Option.some.injEq] at hx; subst hx; exact hr'
end
end Go.Proofs.Ythmdmbbdjbhcoaa.HL
/- Functions' texts over a partial heap. -/
namespace Go.Proofs.Ythmdmbbdjbhcoaa
open HL
set_option linter.unusedVariables false
set_option maxRecDepth 100000
set_option maxHeartbeats 4000000
/-! loop.example/g01381/spec.l00In: function 59 -/
def F.spec_l00In (a0 a1 a2 : Value) (H : Hp) (K : Value → Hp → Prop) : Prop :=
  ob (vInt .geq a0 a1) fun v9x1 =>
  gop v9x1 true (fun K2 => K2 a0 H) H fun v11x3 H4 =>
  gop v9x1 true (fun K5 => K5 a2 H4) H4 fun v12x6 H7 =>
  gop v9x1 true (fun K8 => ob (vInt .leq v11x3 v12x6) fun u => K8 u H7) H7 fun v13x9 H10 =>
  ob (vPick v9x1 v13x9 (.bool false)) fun v14x11 =>
  K v14x11 H10
def O.spec_l00In : Nat → Nat × List Nat := fun i => (0, [])
theorem R.spec_l00In {a0 a1 a2 : Value} {H : Hp} {K : Value → Hp → Prop} (h : F.spec_l00In a0 a1 a2 H K) : HT prg I.spec_l00In [a0, a1, a2].toArray H K :=
  HT_of_fev O.spec_l00In mixed Try.func59 (by kernel_rfl) (Eq.mpr (by kernel_rfl : fev prg O.spec_l00In Try.f59 [a0, a1, a2] H K = F.spec_l00In a0 a1 a2 H K) h)

/-! loop.example/g01381/laws.toInt64S: function 39 -/
def F.laws_toInt64S (a0 : Value) (H : Hp) (K : Value → Hp → Prop) : Prop :=
  ob (vLenSl a0) fun v6x1 =>
  mkS 1 8 #[(.int .i64 0)] 2 v6x1 v6x1 H fun v7x2 H3 =>
  jn (fun σ4 H4 =>
    K (σ4 3) H4) fun J4 =>
  lpE (fun Q5 σ5 H5 =>
    ob (vLenSl (σ5 0)) fun v10x6 =>
    ob (vInt .lss (σ5 4) v10x6) fun v11x7 =>
    cnd v11x7
      (ob (vIx 1 (σ5 0) (σ5 4)) fun v18x8 =>
    ob (vLoad v18x8 H5) fun v19x9 =>
    ob (vIx 1 (σ5 3) (σ5 4)) fun v20x10 =>
    st 1 v20x10 v19x9 H5 fun H11 =>
    ob (vInt .add (σ5 4) (.int .i64 1)) fun v13x12 =>
    Q5 .normal (up (up (up (up (up (up (up (up (up (up (up (up (up (up σ5 8 (σ5 4)) 9 (σ5 0)) 10 v10x6) 11 v11x7) 14 (σ5 3)) 15 (σ5 4)) 16 (σ5 0)) 17 (σ5 4)) 18 v18x8) 19 v19x9) 20 v20x10) 12 (σ5 4)) 13 v13x12) 4 v13x12) H11)
      (Q5 (.exit 0) (up (up (up (up σ5 8 (σ5 4)) 9 (σ5 0)) 10 v10x6) 11 v11x7) H5)) (blkQ 0 (thenQ J4 (retQ prg [(.tmp 2)] K))) (up (up (up (up (up (up (S0 [a0]) 2 (.slice none 0 0)) 5 a0) 6 v6x1) 7 v7x2) 3 v7x2) 4 (.int .i64 0)) H3
def O.laws_toInt64S : Nat → Nat × List Nat := fun i => (0, [])
theorem R.laws_toInt64S {a0 : Value} {H : Hp} {K : Value → Hp → Prop} (h : F.laws_toInt64S a0 H K) : HT prg I.laws_toInt64S [a0].toArray H K :=
  HT_of_fev O.laws_toInt64S mixed Try.func39 (by kernel_rfl) (Eq.mpr (by kernel_rfl : fev prg O.laws_toInt64S Try.f39 [a0] H K = F.laws_toInt64S a0 H K) h)

/-! loop.example/g01381/impl.within: function 80 -/
def F.impl_within (a0 a1 a2 : Value) (H : Hp) (K : Value → Hp → Prop) : Prop :=
  ob (vInt .geq a0 a1) fun v9x1 =>
  gop v9x1 true (fun K2 => K2 a0 H) H fun v11x3 H4 =>
  gop v9x1 true (fun K5 => K5 a2 H4) H4 fun v12x6 H7 =>
  gop v9x1 true (fun K8 => ob (vInt .leq v11x3 v12x6) fun u => K8 u H7) H7 fun v13x9 H10 =>
  ob (vPick v9x1 v13x9 (.bool false)) fun v14x11 =>
  K v14x11 H10
def O.impl_within : Nat → Nat × List Nat := fun i => (0, [])
theorem R.impl_within {a0 a1 a2 : Value} {H : Hp} {K : Value → Hp → Prop} (h : F.impl_within a0 a1 a2 H K) : HT prg I.impl_within [a0, a1, a2].toArray H K :=
  HT_of_fev O.impl_within mixed Try.func80 (by kernel_rfl) (Eq.mpr (by kernel_rfl : fev prg O.impl_within Try.f80 [a0, a1, a2] H K = F.impl_within a0 a1 a2 H K) h)

/-! loop.example/g01381/impl.areWithin: function 138 -/
def F.impl_areWithin (a0 a1 a2 : Value) (H : Hp) (K : Value → Hp → Prop) : Prop :=
  jn (fun σ1 H1 =>
    K (.bool true) H1) fun J1 =>
  ob (vLenSl a0) fun v10x2 =>
  lpE (fun Q3 σ3 H3 =>
    ob (vInt .lss (σ3 11) (σ3 10)) fun v12x4 =>
    cnd v12x4
      (ob (vIx 1 (σ3 9) (σ3 11)) fun v13x5 =>
    ob (vLoad v13x5 H3) fun v14x6 =>
    HT prg I.impl_within [v14x6, (σ3 1), (σ3 2)].toArray H3 fun v18x7 H8 =>
    ob (vUn .not v18x7) fun v19x9 =>
    cnd v19x9
      (Q3 .ret (up (up (up (up (up (up (up (up (up (up σ3 12 v12x4) 13 v13x5) 14 v14x6) 8 v14x6) 15 v14x6) 16 (σ3 1)) 17 (σ3 2)) 18 v18x7) 19 v19x9) 6 (.bool false)) H8)
      (ob (vInt .add (σ3 11) (.int .i64 1)) fun v20x10 =>
    Q3 .normal (up (up (up (up (up (up (up (up (up (up (up σ3 12 v12x4) 13 v13x5) 14 v14x6) 8 v14x6) 15 v14x6) 16 (σ3 1)) 17 (σ3 2)) 18 v18x7) 19 v19x9) 20 v20x10) 11 v20x10) H8))
      (Q3 (.exit 0) (up σ3 12 v12x4) H3)) (blkQ 0 (thenQ J1 (retQ prg [(.tmp 6)] K))) (up (up (up (up (S0 [a0, a1, a2]) 6 (.bool false)) 9 a0) 10 v10x2) 11 (.int .i64 0)) H
def O.impl_areWithin : Nat → Nat × List Nat := fun i => (0, [])
theorem R.impl_areWithin {a0 a1 a2 : Value} {H : Hp} {K : Value → Hp → Prop} (h : F.impl_areWithin a0 a1 a2 H K) : HT prg I.impl_areWithin [a0, a1, a2].toArray H K :=
  HT_of_fev O.impl_areWithin mixed Try.func138 (by kernel_rfl) (Eq.mpr (by kernel_rfl : fev prg O.impl_areWithin Try.f138 [a0, a1, a2] H K = F.impl_areWithin a0 a1 a2 H K) h)

/-! loop.example/g01381/impl.areMany: function 123 -/
def F.impl_areMany (a0 a1 a2 a3 a4 : Value) (H : Hp) (K : Value → Hp → Prop) : Prop :=
  ob (vLenSl a0) fun v12x1 =>
  HT prg I.impl_within [v12x1, a1, a2].toArray H fun v15x2 H3 =>
  gop v15x2 true (fun K4 => K4 a0 H3) H3 fun v17x5 H6 =>
  gop v15x2 true (fun K7 => K7 a3 H6) H6 fun v18x8 H9 =>
  gop v15x2 true (fun K10 => K10 a4 H9) H9 fun v19x11 H12 =>
  gop v15x2 true (fun K13 => HT prg I.impl_areWithin [v17x5, v18x8, v19x11].toArray H12 K13) H12 fun v20x14 H15 =>
  ob (vPick v15x2 v20x14 (.bool false)) fun v21x16 =>
  K v21x16 H15
def O.impl_areMany : Nat → Nat × List Nat := fun i => (0, [])
theorem R.impl_areMany {a0 a1 a2 a3 a4 : Value} {H : Hp} {K : Value → Hp → Prop} (h : F.impl_areMany a0 a1 a2 a3 a4 H K) : HT prg I.impl_areMany [a0, a1, a2, a3, a4].toArray H K :=
  HT_of_fev O.impl_areMany mixed Try.func123 (by kernel_rfl) (Eq.mpr (by kernel_rfl : fev prg O.impl_areMany Try.f123 [a0, a1, a2, a3, a4] H K = F.impl_areMany a0 a1 a2 a3 a4 H K) h)

/-! loop.example/g01381/laws.eqInt64S: function 15 -/
def F.laws_eqInt64S (a0 a1 : Value) (H : Hp) (K : Value → Hp → Prop) : Prop :=
  ob (vLenSl a0) fun v7x1 =>
  ob (vLenSl a1) fun v9x2 =>
  ob (vInt .neq v7x1 v9x2) fun v10x3 =>
  cnd v10x3
    (K (.bool false) H)
    (jn (fun σ4 H4 =>
    K (.bool true) H4) fun J4 =>
  lpE (fun Q5 σ5 H5 =>
    ob (vLenSl (σ5 0)) fun v13x6 =>
    ob (vInt .lss (σ5 5) v13x6) fun v14x7 =>
    cnd v14x7
      (ob (vIx 1 (σ5 0) (σ5 5)) fun v19x8 =>
    ob (vLoad v19x8 H5) fun v20x9 =>
    ob (vIx 1 (σ5 1) (σ5 5)) fun v23x10 =>
    ob (vLoad v23x10 H5) fun v24x11 =>
    ob (vInt .neq v20x9 v24x11) fun v25x12 =>
    cnd v25x12
      (Q5 .ret (up (up (up (up (up (up (up (up (up (up (up (up (up (up σ5 11 (σ5 5)) 12 (σ5 0)) 13 v13x6) 14 v14x7) 17 (σ5 0)) 18 (σ5 5)) 19 v19x8) 20 v20x9) 21 (σ5 1)) 22 (σ5 5)) 23 v23x10) 24 v24x11) 25 v25x12) 4 (.bool false)) H5)
      (ob (vInt .add (σ5 5) (.int .i64 1)) fun v16x13 =>
    Q5 .normal (up (up (up (up (up (up (up (up (up (up (up (up (up (up (up (up σ5 11 (σ5 5)) 12 (σ5 0)) 13 v13x6) 14 v14x7) 17 (σ5 0)) 18 (σ5 5)) 19 v19x8) 20 v20x9) 21 (σ5 1)) 22 (σ5 5)) 23 v23x10) 24 v24x11) 25 v25x12) 15 (σ5 5)) 16 v16x13) 5 v16x13) H5))
      (Q5 (.exit 0) (up (up (up (up σ5 11 (σ5 5)) 12 (σ5 0)) 13 v13x6) 14 v14x7) H5)) (blkQ 0 (thenQ J4 (retQ prg [(.tmp 4)] K))) (up (up (up (up (up (up (up (S0 [a0, a1]) 4 (.bool false)) 6 a0) 7 v7x1) 8 a1) 9 v9x2) 10 v10x3) 5 (.int .i64 0)) H)
def O.laws_eqInt64S : Nat → Nat × List Nat := fun i => bif Nat.beq i 6 then (0, [0, 1, 2, 3, 4, 5, 6, 7, 8]) else (0, [])
theorem R.laws_eqInt64S {a0 a1 : Value} {H : Hp} {K : Value → Hp → Prop} (h : F.laws_eqInt64S a0 a1 H K) : HT prg I.laws_eqInt64S [a0, a1].toArray H K :=
  HT_of_fev O.laws_eqInt64S mixed Try.func15 (by kernel_rfl) (Eq.mpr (by kernel_rfl : fev prg O.laws_eqInt64S Try.f15 [a0, a1] H K = F.laws_eqInt64S a0 a1 H K) h)

end Go.Proofs.Ythmdmbbdjbhcoaa
/- Functions' texts over a partial heap. -/
namespace Go.Proofs.Ythmdmbbdjbhcoaa
open HL
set_option linter.unusedVariables false
set_option maxRecDepth 100000
set_option maxHeartbeats 4000000
/-! loop.example/g01381/laws.markInt64S: function 17 -/
def F.laws_markInt64S (a0 a1 : Value) (H : Hp) (K : Value → Hp → Prop) : Prop :=
  jn (fun σ1 H1 =>
    K (σ1 1) H1) fun J1 =>
  lpE (fun Q2 σ2 H2 =>
    ob (vLenSl (σ2 0)) fun v8x3 =>
    ob (vInt .lss (σ2 5) v8x3) fun v9x4 =>
    cnd v9x4
      (ob (vIx 1 (σ2 0) (σ2 5)) fun v15x5 =>
    st 1 v15x5 (σ2 1) H2 fun H6 =>
    ob (vInt .add (σ2 1) (.int .i64 1)) fun v17x7 =>
    ob (vInt .add (σ2 5) (.int .i64 1)) fun v11x8 =>
    Q2 .normal (up (up (up (up (up (up (up (up (up (up (up (up (up (up σ2 6 (σ2 5)) 7 (σ2 0)) 8 v8x3) 9 v9x4) 12 (σ2 0)) 13 (σ2 5)) 14 (σ2 1)) 15 v15x5) 16 (σ2 1)) 17 v17x7) 1 v17x7) 10 (σ2 5)) 11 v11x8) 5 v11x8) H6)
      (Q2 (.exit 0) (up (up (up (up σ2 6 (σ2 5)) 7 (σ2 0)) 8 v8x3) 9 v9x4) H2)) (blkQ 0 (thenQ J1 (retQ prg [(.tmp 4)] K))) (up (up (S0 [a0, a1]) 4 (.int .i64 0)) 5 (.int .i64 0)) H
def O.laws_markInt64S : Nat → Nat × List Nat := fun i => (0, [])
theorem R.laws_markInt64S {a0 a1 : Value} {H : Hp} {K : Value → Hp → Prop} (h : F.laws_markInt64S a0 a1 H K) : HT prg I.laws_markInt64S [a0, a1].toArray H K :=
  HT_of_fev O.laws_markInt64S mixed Try.func17 (by kernel_rfl) (Eq.mpr (by kernel_rfl : fev prg O.laws_markInt64S Try.f17 [a0, a1] H K = F.laws_markInt64S a0 a1 H K) h)

/-! loop.example/g01381/laws.heldInt64S: function 18 -/
def F.laws_heldInt64S (a0 a1 : Value) (H : Hp) (K : Value → Hp → Prop) : Prop :=
  jn (fun σ1 H1 =>
    K (σ1 1) H1) fun J1 =>
  lpE (fun Q2 σ2 H2 =>
    ob (vLenSl (σ2 0)) fun v8x3 =>
    ob (vInt .lss (σ2 5) v8x3) fun v9x4 =>
    cnd v9x4
      (ob (vIx 1 (σ2 0) (σ2 5)) fun v14x5 =>
    ob (vLoad v14x5 H2) fun v15x6 =>
    ob (vInt .neq v15x6 (σ2 1)) fun v17x7 =>
    cnd v17x7
      (Q2 .ret (up (up (up (up (up (up (up (up (up (up (up σ2 6 (σ2 5)) 7 (σ2 0)) 8 v8x3) 9 v9x4) 12 (σ2 0)) 13 (σ2 5)) 14 v14x5) 15 v15x6) 16 (σ2 1)) 17 v17x7) 4 (.int .i64 (-1))) H2)
      (ob (vInt .add (σ2 1) (.int .i64 1)) fun v19x8 =>
    ob (vInt .add (σ2 5) (.int .i64 1)) fun v11x9 =>
    Q2 .normal (up (up (up (up (up (up (up (up (up (up (up (up (up (up (up (up σ2 6 (σ2 5)) 7 (σ2 0)) 8 v8x3) 9 v9x4) 12 (σ2 0)) 13 (σ2 5)) 14 v14x5) 15 v15x6) 16 (σ2 1)) 17 v17x7) 18 (σ2 1)) 19 v19x8) 1 v19x8) 10 (σ2 5)) 11 v11x9) 5 v11x9) H2))
      (Q2 (.exit 0) (up (up (up (up σ2 6 (σ2 5)) 7 (σ2 0)) 8 v8x3) 9 v9x4) H2)) (blkQ 0 (thenQ J1 (retQ prg [(.tmp 4)] K))) (up (up (S0 [a0, a1]) 4 (.int .i64 0)) 5 (.int .i64 0)) H
def O.laws_heldInt64S : Nat → Nat × List Nat := fun i => (0, [])
theorem R.laws_heldInt64S {a0 a1 : Value} {H : Hp} {K : Value → Hp → Prop} (h : F.laws_heldInt64S a0 a1 H K) : HT prg I.laws_heldInt64S [a0, a1].toArray H K :=
  HT_of_fev O.laws_heldInt64S mixed Try.func18 (by kernel_rfl) (Eq.mpr (by kernel_rfl : fev prg O.laws_heldInt64S Try.f18 [a0, a1] H K = F.laws_heldInt64S a0 a1 H K) h)

/-! loop.example/g01381/impl.isSide: function 152 -/
def F.impl_isSide (a0 : Value) (H : Hp) (K : Value → Hp → Prop) : Prop :=
  HT prg I.impl_within [a0, (.int .i64 1), (.int .i64 24)].toArray H fun v4x1 H2 =>
  K v4x1 H2
def O.impl_isSide : Nat → Nat × List Nat := fun i => (0, [])
theorem R.impl_isSide {a0 : Value} {H : Hp} {K : Value → Hp → Prop} (h : F.impl_isSide a0 H K) : HT prg I.impl_isSide [a0].toArray H K :=
  HT_of_fev O.impl_isSide mixed Try.func152 (by kernel_rfl) (Eq.mpr (by kernel_rfl : fev prg O.impl_isSide Try.f152 [a0] H K = F.impl_isSide a0 H K) h)

/-! loop.example/g01381/impl.ValidField: function 139 -/
def F.impl_ValidField (a0 : Value) (H : Hp) (K : Value → Hp → Prop) : Prop :=
  nw (a0 : Value).cells 49 H fun v1x1 H2 =>
  ob (vFa 0 v1x1) fun v4x3 =>
  ob (vLoad v4x3 H2) fun v5x4 =>
  ob (vFa 1 v1x1) fun v6x5 =>
  ob (vLoad v6x5 H2) fun v7x6 =>
  ob (vInt .mul v5x4 v7x6) fun v8x7 =>
  ob (vFa 0 v1x1) fun v9x8 =>
  ob (vLoad v9x8 H2) fun v10x9 =>
  HT prg I.impl_isSide [v10x9].toArray H2 fun v11x10 H11 =>
  gop v11x10 true (fun K12 => ob (vFa 1 v1x1) fun u => K12 u H11) H11 fun v13x13 H14 =>
  gop v11x10 true (fun K15 => ob (vLoad v13x13 H14) fun u => K15 u H14) H14 fun v14x16 H17 =>
  gop v11x10 true (fun K18 => HT prg I.impl_isSide [v14x16].toArray H17 K18) H17 fun v15x19 H20 =>
  ob (vPick v11x10 v15x19 (.bool false)) fun v16x21 =>
  gop v16x21 true (fun K22 => ob (vFa 2 v1x1) fun u => K22 u H20) H20 fun v18x23 H24 =>
  gop v16x21 true (fun K25 => ob (vLoad v18x23 H24) fun u => K25 u H24) H24 fun v19x26 H27 =>
  gop v16x21 true (fun K28 => K28 v8x7 H27) H27 fun v20x29 H30 =>
  gop v16x21 true (fun K31 => K31 v8x7 H30) H30 fun v21x32 H33 =>
  gop v16x21 true (fun K34 => HT prg I.impl_areMany [v19x26, v20x29, v21x32, (.int .i64 0), (.int .i64 9)].toArray H33 K34) H33 fun v22x35 H36 =>
  ob (vPick v16x21 v22x35 (.bool false)) fun v23x37 =>
  K v23x37 H36
def O.impl_ValidField : Nat → Nat × List Nat := fun i => (0, [])
theorem R.impl_ValidField {a0 : Value} {H : Hp} {K : Value → Hp → Prop} (h : F.impl_ValidField a0 H K) : HT prg I.impl_ValidField [a0].toArray H K :=
  HT_of_fev O.impl_ValidField mixed Try.func139 (by kernel_rfl) (Eq.mpr (by kernel_rfl : fev prg O.impl_ValidField Try.f139 [a0] H K = F.impl_ValidField a0 H K) h)

/-! loop.example/g01381/impl.isPlain: function 108 -/
def F.impl_isPlain (a0 : Value) (H : Hp) (K : Value → Hp → Prop) : Prop :=
  nw (a0 : Value).cells 49 H fun v1x1 H2 =>
  ob (vLoadN 3 v1x1 H2) fun v3x3 =>
  HT prg I.impl_ValidField [v3x3].toArray H2 fun v4x4 H5 =>
  gop v4x4 true (fun K6 => ob (vFa 2 v1x1) fun u => K6 u H5) H5 fun v6x7 H8 =>
  gop v4x4 true (fun K9 => ob (vLoad v6x7 H8) fun u => K9 u H8) H8 fun v7x10 H11 =>
  gop v4x4 true (fun K12 => HT prg I.impl_areWithin [v7x10, (.int .i64 0), (.int .i64 1)].toArray H11 K12) H11 fun v8x13 H14 =>
  ob (vPick v4x4 v8x13 (.bool false)) fun v9x15 =>
  K v9x15 H14
def O.impl_isPlain : Nat → Nat × List Nat := fun i => (0, [])
theorem R.impl_isPlain {a0 : Value} {H : Hp} {K : Value → Hp → Prop} (h : F.impl_isPlain a0 H K) : HT prg I.impl_isPlain [a0].toArray H K :=
  HT_of_fev O.impl_isPlain mixed Try.func108 (by kernel_rfl) (Eq.mpr (by kernel_rfl : fev prg O.impl_isPlain Try.f108 [a0] H K = F.impl_isPlain a0 H K) h)

/-! loop.example/g01381/impl.isSquare: function 66 -/
def F.impl_isSquare (a0 : Value) (H : Hp) (K : Value → Hp → Prop) : Prop :=
  nw (a0 : Value).cells 49 H fun v1x1 H2 =>
  ob (vLoadN 3 v1x1 H2) fun v3x3 =>
  HT prg I.impl_isPlain [v3x3].toArray H2 fun v4x4 H5 =>
  gop v4x4 true (fun K6 => ob (vFa 0 v1x1) fun u => K6 u H5) H5 fun v6x7 H8 =>
  gop v4x4 true (fun K9 => ob (vLoad v6x7 H8) fun u => K9 u H8) H8 fun v7x10 H11 =>
  gop v4x4 true (fun K12 => ob (vFa 1 v1x1) fun u => K12 u H11) H11 fun v8x13 H14 =>
  gop v4x4 true (fun K15 => ob (vLoad v8x13 H14) fun u => K15 u H14) H14 fun v9x16 H17 =>
  gop v4x4 true (fun K18 => ob (vInt .eql v7x10 v9x16) fun u => K18 u H17) H17 fun v10x19 H20 =>
  ob (vPick v4x4 v10x19 (.bool false)) fun v11x21 =>
  gop v11x21 true (fun K22 => ob (vFa 0 v1x1) fun u => K22 u H20) H20 fun v13x23 H24 =>
  gop v11x21 true (fun K25 => ob (vLoad v13x23 H24) fun u => K25 u H24) H24 fun v14x26 H27 =>
  gop v11x21 true (fun K28 => ob (vInt .eql v14x26 (.int .i64 4)) fun u => K28 u H27) H27 fun v15x29 H30 =>
  gop v11x21 true (fun K31 => K31 v15x29 H30) H30 fun v16x32 H33 =>
  gop v16x32 false (fun K34 => ob (vFa 0 v1x1) fun u => K34 u H33) H33 fun v17x35 H36 =>
  gop v16x32 false (fun K37 => ob (vLoad v17x35 H36) fun u => K37 u H36) H36 fun v18x38 H39 =>
  gop v16x32 false (fun K40 => ob (vInt .eql v18x38 (.int .i64 8)) fun u => K40 u H39) H39 fun v19x41 H42 =>
  gop v11x21 true (fun K43 => ob (vPick v16x32 (.bool true) v19x41) fun u => K43 u H42) H42 fun v20x44 H45 =>
  gop v11x21 true (fun K46 => K46 v20x44 H45) H45 fun v21x47 H48 =>
  gop v21x47 false (fun K49 => ob (vFa 0 v1x1) fun u => K49 u H48) H48 fun v22x50 H51 =>
  gop v21x47 false (fun K52 => ob (vLoad v22x50 H51) fun u => K52 u H51) H51 fun v23x53 H54 =>
  gop v21x47 false (fun K55 => ob (vInt .eql v23x53 (.int .i64 16)) fun u => K55 u H54) H54 fun v24x56 H57 =>
  gop v11x21 true (fun K58 => ob (vPick v21x47 (.bool true) v24x56) fun u => K58 u H57) H57 fun v25x59 H60 =>
  ob (vPick v11x21 v25x59 (.bool false)) fun v26x61 =>
  K v26x61 H60
def O.impl_isSquare : Nat → Nat × List Nat := fun i => (0, [])
theorem R.impl_isSquare {a0 : Value} {H : Hp} {K : Value → Hp → Prop} (h : F.impl_isSquare a0 H K) : HT prg I.impl_isSquare [a0].toArray H K :=
  HT_of_fev O.impl_isSquare mixed Try.func66 (by kernel_rfl) (Eq.mpr (by kernel_rfl : fev prg O.impl_isSquare Try.f66 [a0] H K = F.impl_isSquare a0 H K) h)

/-! (loop.example/g01381/impl.Field).at: function 83 -/
def F.impl_Field_at (a0 a1 a2 : Value) (H : Hp) (K : Value → Hp → Prop) : Prop :=
  nw (a0 : Value).cells 49 H fun v3x1 H2 =>
  ob (vFa 2 v3x1) fun v7x3 =>
  ob (vLoad v7x3 H2) fun v8x4 =>
  ob (vFa 1 v3x1) fun v10x5 =>
  ob (vLoad v10x5 H2) fun v11x6 =>
  ob (vInt .mul a1 v11x6) fun v12x7 =>
  ob (vInt .add v12x7 a2) fun v14x8 =>
  ob (vIx 1 v8x4 v14x8) fun v15x9 =>
  ob (vLoad v15x9 H2) fun v16x10 =>
  K v16x10 H2
def O.impl_Field_at : Nat → Nat × List Nat := fun i => (0, [])
theorem R.impl_Field_at {a0 a1 a2 : Value} {H : Hp} {K : Value → Hp → Prop} (h : F.impl_Field_at a0 a1 a2 H K) : HT prg I.impl_Field_at [a0, a1, a2].toArray H K :=
  HT_of_fev O.impl_Field_at mixed Try.func83 (by kernel_rfl) (Eq.mpr (by kernel_rfl : fev prg O.impl_Field_at Try.f83 [a0, a1, a2] H K = F.impl_Field_at a0 a1 a2 H K) h)

/-! (loop.example/g01381/impl.Field).tree$1: function 116 -/
def F.impl_Field_tree_1 (a0 a1 a2 a3 a4 a5 a6 : Value) (H : Hp) (K : Value → Hp → Prop) : Prop :=
  ob (vInt .eql a2 (.int .i64 1)) fun v17x1 =>
  cnd v17x1
    (ob (vLoadN 3 a3 H) fun v18x2 =>
    HT prg I.impl_Field_at [v18x2, a0, a1].toArray H fun v21x3 H4 =>
    K v21x3 H4)
    (ob (vInt .quo a2 (.int .i64 2)) fun v23x5 =>
  hp prg (Instr.build 133 [].toArray) H fun v24x6 H7 =>
  nw #[(.int .i64 0), (.int .i64 0), (.int .i64 0), (.int .i64 0)] 133 H7 fun v12x8 H9 =>
  st 4 v12x8 v24x6 H9 fun H10 =>
  jn (fun σ11 H11 =>
    ob (vLoad (σ11 5) H11) fun v47x12 =>
    ob (vLoadN 4 (σ11 12) H11) fun v48x13 =>
    hp prg (Instr.lookup 131 v47x12 v48x13 true) H11 fun v49x14 H15 =>
    ob (vExt v49x14 0) fun v50x16 =>
    ob (vExt v49x14 1) fun v51x17 =>
    ob (vUn .not v51x17) fun v53x18 =>
    cnd v53x18
      (ob (vLoad (σ11 5) H15) fun v54x19 =>
      ob (val prg (Builtin.len_ #[131] 3 [v54x19].toArray) H15) fun v55x20 =>
      ob (vLoad (σ11 5) H15) fun v56x21 =>
      ob (vLoadN 4 (σ11 12) H15) fun v57x22 =>
      hp prg (Instr.mapUpdate 131 v56x21 v57x22 v55x20) H15 fun _ H23 =>
      ob (vLoad (σ11 6) H23) fun v59x24 =>
      ob (vSlA 4 1 (σ11 12) none none) fun v60x25 =>
      apd 1 8 #[(.int .i64 0)] 2 v59x24 v60x25 H23 fun v61x26 H27 =>
      st 1 (σ11 6) v61x26 H27 fun H28 =>
      ob (vInt .add v55x20 (.int .i64 2)) fun v63x29 =>
    K v63x29 H28)
      (ob (vInt .add v50x16 (.int .i64 2)) fun v63x30 =>
    K v63x30 H15)) fun J11 =>
  lpE (fun Q31 σ31 H31 =>
    ob (vInt .lss (σ31 25) (.int .i64 4)) fun v26x32 =>
    cnd v26x32
      (ob (vLoad (σ31 4) H31) fun v29x33 =>
    ob (vInt .quo (σ31 25) (.int .i64 2)) fun v32x34 =>
    ob (vInt .mul v32x34 (σ31 11)) fun v34x35 =>
    ob (vInt .add (σ31 0) v34x35) fun v35x36 =>
    ob (vInt .rem (σ31 25) (.int .i64 2)) fun v38x37 =>
    ob (vInt .mul v38x37 (σ31 11)) fun v40x38 =>
    ob (vInt .add (σ31 1) v40x38) fun v41x39 =>
    callV prg v29x33 [v35x36, v41x39, (σ31 11)] H31 fun v43x40 H41 =>
    ob (vIxArr 4 1 (σ31 12) (σ31 25)) fun v44x42 =>
    st 1 v44x42 v43x40 H41 fun H43 =>
    ob (vInt .add (σ31 25) (.int .i64 1)) fun v45x44 =>
    Q31 .normal (up (up (up (up (up (up (up (up (up (up (up (up (up (up (up (up (up (up (up (up (up (up σ31 26 v26x32) 27 (σ31 25)) 13 (σ31 25)) 28 (σ31 25)) 29 v29x33) 30 (σ31 0)) 31 (σ31 25)) 32 v32x34) 33 (σ31 11)) 34 v34x35) 35 v35x36) 36 (σ31 1)) 37 (σ31 25)) 38 v38x37) 39 (σ31 11)) 40 v40x38) 41 v41x39) 42 (σ31 11)) 43 v43x40) 44 v44x42) 45 v45x44) 25 v45x44) H43)
      (Q31 (.exit 0) (up σ31 26 v26x32) H31)) (blkQ 0 (thenQ J11 (retQ prg [(.tmp 10)] K))) (up (up (up (up (up (up (up (up (up (S0 [a0, a1, a2, a3, a4, a5, a6]) 10 (.int .i64 0)) 16 a2) 17 v17x1) 22 a2) 23 v23x5) 11 v23x5) 24 v24x6) 12 v12x8) 25 (.int .i64 0)) H10)
def O.impl_Field_tree_1 : Nat → Nat × List Nat := fun i => bif Nat.beq i 14 then (0, [0, 1, 2, 3]) else (0, [])
theorem R.impl_Field_tree_1 {a0 a1 a2 a3 a4 a5 a6 : Value} {H : Hp} {K : Value → Hp → Prop} (h : F.impl_Field_tree_1 a0 a1 a2 a3 a4 a5 a6 H K) : HT prg I.impl_Field_tree_1 [a0, a1, a2, a3, a4, a5, a6].toArray H K :=
  HT_of_fev O.impl_Field_tree_1 mixed Try.func116 (by kernel_rfl) (Eq.mpr (by kernel_rfl : fev prg O.impl_Field_tree_1 Try.f116 [a0, a1, a2, a3, a4, a5, a6] H K = F.impl_Field_tree_1 a0 a1 a2 a3 a4 a5 a6 H K) h)

/-! (loop.example/g01381/impl.Field).tree: function 74 -/
def F.impl_Field_tree (a0 : Value) (H : Hp) (K : Value → Hp → Prop) : Prop :=
  nw (a0 : Value).cells 49 H fun v1x1 H2 =>
  bS 1 0 #[(.int .i64 0)] 2 [] H2 fun v6x3 H4 =>
  nw #[(.slice none 0 0)] 22 H4 fun v3x5 H6 =>
  st 1 v3x5 v6x3 H6 fun H7 =>
  opEv.nwM H7 fun v7x8 H9 =>
  nw #[(.map none)] 131 H9 fun v4x10 H11 =>
  st 1 v4x10 v7x8 H11 fun H12 =>
  nw #[.nilFunc] 132 H12 fun v5x13 H14 =>
  st 1 v5x13 (.func (.func I.impl_Field_tree_1) #[] #[v1x1, v5x13, v4x10, v3x5]) H14 fun H15 =>
  ob (vLoad v5x13 H15) fun v9x16 =>
  ob (vFa 0 v1x1) fun v10x17 =>
  ob (vLoad v10x17 H15) fun v11x18 =>
  callV prg v9x16 [(.int .i64 0), (.int .i64 0), v11x18] H15 fun v12x19 H20 =>
  ob (vLoad v3x5 H20) fun v13x21 =>
  K v13x21 H20
def O.impl_Field_tree : Nat → Nat × List Nat := fun i => (0, [])
theorem R.impl_Field_tree {a0 : Value} {H : Hp} {K : Value → Hp → Prop} (h : F.impl_Field_tree a0 H K) : HT prg I.impl_Field_tree [a0].toArray H K :=
  HT_of_fev O.impl_Field_tree mixed Try.func74 (by kernel_rfl) (Eq.mpr (by kernel_rfl : fev prg O.impl_Field_tree Try.f74 [a0] H K = F.impl_Field_tree a0 H K) h)

/-! slices.Chunk[[]int64,int64]$1: function 119 -/
def F.slices_Chunk_int64Zint64Z1 (a0 a1 a2 : Value) (H : Hp) (K : Value → Hp → Prop) : Prop :=
  lpE (fun Q1 σ1 H1 =>
    ob (vLoad (σ1 1) H1) fun v7x2 =>
    ob (vLenSl v7x2) fun v8x3 =>
    ob (vInt .lss (σ1 4) v8x3) fun v9x4 =>
    cnd v9x4
      (ob (vLoad (σ1 2) H1) fun v13x5 =>
    ob (vLoad (σ1 1) H1) fun v14x6 =>
    ob (vSl3 1 v14x6 (some (σ1 4)) none none) fun v16x7 =>
    ob (vLenSl v16x7) fun v17x8 =>
    ob (vMx false v13x5 [v17x8]) fun v18x9 =>
    ob (vLoad (σ1 1) H1) fun v20x10 =>
    ob (vInt .add (σ1 4) v18x9) fun v24x11 =>
    ob (vInt .add (σ1 4) v18x9) fun v27x12 =>
    ob (vSl3 1 v20x10 (some (σ1 4)) (some v24x11) (some v27x12)) fun v28x13 =>
    callV prg (σ1 0) [v28x13] H1 fun v29x14 H15 =>
    ob (vUn .not v29x14) fun v30x16 =>
    cnd v30x16
      (Q1 .ret (up (up (up (up (up (up (up (up (up (up (up (up (up (up (up (up (up (up (up (up (up (up (up σ1 6 (σ1 4)) 7 v7x2) 8 v8x3) 9 v9x4) 13 v13x5) 14 v14x6) 15 (σ1 4)) 16 v16x7) 17 v17x8) 18 v18x9) 5 v18x9) 19 (σ1 0)) 20 v20x10) 21 (σ1 4)) 22 (σ1 4)) 23 v18x9) 24 v24x11) 25 (σ1 4)) 26 v18x9) 27 v27x12) 28 v28x13) 29 v29x14) 30 v30x16) H15)
      (ob (vLoad (σ1 2) H15) fun v11x17 =>
    ob (vInt .add (σ1 4) v11x17) fun v12x18 =>
    Q1 .normal (up (up (up (up (up (up (up (up (up (up (up (up (up (up (up (up (up (up (up (up (up (up (up (up (up (up (up σ1 6 (σ1 4)) 7 v7x2) 8 v8x3) 9 v9x4) 13 v13x5) 14 v14x6) 15 (σ1 4)) 16 v16x7) 17 v17x8) 18 v18x9) 5 v18x9) 19 (σ1 0)) 20 v20x10) 21 (σ1 4)) 22 (σ1 4)) 23 v18x9) 24 v24x11) 25 (σ1 4)) 26 v18x9) 27 v27x12) 28 v28x13) 29 v29x14) 30 v30x16) 10 (σ1 4)) 11 v11x17) 12 v12x18) 4 v12x18) H15))
      (Q1 (.exit 0) (up (up (up (up σ1 6 (σ1 4)) 7 v7x2) 8 v8x3) 9 v9x4) H1)) (blkQ 0 (retQ prg [] K)) (up (S0 [a0, a1, a2]) 4 (.int .i64 0)) H
def O.slices_Chunk_int64Zint64Z1 : Nat → Nat × List Nat := fun i => bif Nat.beq i 3 then (0, [0, 1, 2, 3, 4, 5, 6]) else (0, [])
theorem R.slices_Chunk_int64Zint64Z1 {a0 a1 a2 : Value} {H : Hp} {K : Value → Hp → Prop} (h : F.slices_Chunk_int64Zint64Z1 a0 a1 a2 H K) : HT prg I.slices_Chunk_int64Zint64Z1 [a0, a1, a2].toArray H K :=
  HT_of_fev O.slices_Chunk_int64Zint64Z1 mixed Try.func119 (by kernel_rfl) (Eq.mpr (by kernel_rfl : fev prg O.slices_Chunk_int64Zint64Z1 Try.f119 [a0, a1, a2] H K = F.slices_Chunk_int64Zint64Z1 a0 a1 a2 H K) h)

/-! slices.Chunk[[]int64,int64]: function 79 -/
def F.slices_Chunk_int64Zint64 (a0 a1 : Value) (H : Hp) (K : Value → Hp → Prop) : Prop :=
  nw (a0 : Value).cells 22 H fun v2x1 H2 =>
  nw (a1 : Value).cells 3 H2 fun v3x3 H4 =>
  ob (vLoad v3x3 H4) fun v5x5 =>
  ob (vInt .lss v5x5 (.int .i64 1)) fun v6x6 =>
  cnd v6x6
    (ob (val prg (Instr.makeInterface 9 (.string ⟨#[99, 97, 110, 110, 111, 116, 32, 98, 101, 32, 108, 101, 115, 115, 32, 116, 104, 97, 110, 32, 49]⟩)) H4) fun v7x7 =>
    hp prg (do pure (Next.value (← Instr.panic v7x7))) H4 (nextH prg (fun _ H8 =>
    K (.func (.func I.slices_Chunk_int64Zint64Z1) #[] #[v2x1, v3x3]) H8)))
    (K (.func (.func I.slices_Chunk_int64Zint64Z1) #[] #[v2x1, v3x3]) H4)
def O.slices_Chunk_int64Zint64 : Nat → Nat × List Nat := fun i => (0, [])
theorem R.slices_Chunk_int64Zint64 {a0 a1 : Value} {H : Hp} {K : Value → Hp → Prop} (h : F.slices_Chunk_int64Zint64 a0 a1 H K) : HT prg I.slices_Chunk_int64Zint64 [a0, a1].toArray H K :=
  HT_of_fev O.slices_Chunk_int64Zint64 mixed Try.func79 (by kernel_rfl) (Eq.mpr (by kernel_rfl : fev prg O.slices_Chunk_int64Zint64 Try.f79 [a0, a1] H K = F.slices_Chunk_int64Zint64 a0 a1 H K) h)

/-! loop.example/g01381/impl.madeField: function 81 -/
def F.impl_madeField (a0 a1 a2 : Value) (H : Hp) (K : Value → Hp → Prop) : Prop :=
  nw #[(.int .i64 0), (.int .i64 0), (.slice none 0 0)] 49 H fun v6x1 H2 =>
  ob (vBuild [(0, 1), (1, 1), (2, 1)] (.agg #[(.int .i64 0), (.int .i64 0), (.slice none 0 0)]) [(0, a0), (1, a1)]) fun v12x3 =>
  nw #[(.int .i64 0), (.int .i64 0), (.slice none 0 0)] 49 H2 fun v7x4 H5 =>
  st 3 v7x4 v12x3 H5 fun H6 =>
  jn (fun σ7 H7 =>
    ob (vLoadN 3 (σ7 7) H7) fun v32x8 =>
    st 3 (σ7 6) v32x8 H7 fun H9 =>
    ob (vLoadN 3 (σ7 6) H9) fun u10 => K u10 H9) fun J7 =>
  lpE (fun Q11 σ11 H11 =>
    ob (vInt .lss (σ11 14) (σ11 13)) fun v15x12 =>
    cnd v15x12
      (jn (fun σ13 H13 =>
      ob (vInt .add (σ13 14) (.int .i64 1)) fun v31x14 =>
      Q11 .normal (up (up σ13 31 v31x14) 14 v31x14) H13) fun J13 =>
    lpE (fun Q15 σ15 H15 =>
      ob (vInt .lss (σ15 18) (σ15 17)) fun v19x16 =>
      cnd v19x16
        (ob (vFa 2 (σ15 7)) fun v21x17 =>
      ob (vLoad v21x17 H15) fun v22x18 =>
      callV prg (σ15 2) [(σ15 8), (σ15 18)] H15 fun v26x19 H20 =>
      Le H15 H20 ∧ (bS 1 1 #[(.int .i64 0)] 2 [(0, v26x19)] H20 fun v27x21 H22 =>
      apd 1 8 #[(.int .i64 0)] 2 v22x18 v27x21 H22 fun v28x23 H24 =>
      ob (vFa 2 (σ15 7)) fun v29x25 =>
      st 1 v29x25 v28x23 H24 fun H26 =>
      ob (vInt .add (σ15 18) (.int .i64 1)) fun v30x27 =>
      Q15 .normal (up (up (up (up (up (up (up (up (up (up (up (up (up (up σ15 19 v19x16) 20 (σ15 18)) 9 (σ15 18)) 21 v21x17) 22 v22x18) 23 (σ15 2)) 24 (σ15 8)) 25 (σ15 18)) 26 v26x19) 27 v27x21) 28 v28x23) 29 v29x25) 30 v30x27) 18 v30x27) H26))
        (Q15 (.exit 2) (up σ15 19 v19x16) H15)) (blkQ 2 (blkQ 1 (thenQ J13 Q11))) (up (up (up (up (up σ11 15 v15x12) 16 (σ11 14)) 8 (σ11 14)) 17 (σ11 1)) 18 (.int .i64 0)) H11)
      (Q11 (.exit 0) (up σ11 15 v15x12) H11)) (blkQ 0 (thenQ J7 (retQ prg [(.cell 6 49)] K))) (up (up (up (up (up (up (up (S0 [a0, a1, a2]) 6 v6x1) 10 a0) 11 a1) 12 v12x3) 7 v7x4) 13 a0) 14 (.int .i64 0)) H6
def O.impl_madeField : Nat → Nat × List Nat := fun i => bif Nat.beq i 8 then (0, [0, 1, 2, 3, 4, 5, 6, 7, 8, 9]) else (0, [])
theorem R.impl_madeField {a0 a1 a2 : Value} {H : Hp} {K : Value → Hp → Prop} (h : F.impl_madeField a0 a1 a2 H K) : HT prg I.impl_madeField [a0, a1, a2].toArray H K :=
  HT_of_fev O.impl_madeField mixed Try.func81 (by kernel_rfl) (Eq.mpr (by kernel_rfl : fev prg O.impl_madeField Try.f81 [a0, a1, a2] H K = F.impl_madeField a0 a1 a2 H K) h)

/-! loop.example/g01381/impl.FieldOfTree$1: function 82 -/
def F.impl_FieldOfTree_1 (a0 a1 a2 a3 a4 : Value) (H : Hp) (K : Value → Hp → Prop) : Prop :=
  ob (vLoad a2 H) fun v8x1 =>
  ob (vLoad a3 H) fun v9x2 =>
  ob (vLoad a4 H) fun v11x3 =>
  ob (vInt .quo a0 v11x3) fun v12x4 =>
  ob (vInt .mul v12x4 (.int .i64 2)) fun v13x5 =>
  ob (vLoad a4 H) fun v15x6 =>
  ob (vInt .quo a1 v15x6) fun v16x7 =>
  ob (vInt .add v13x5 v16x7) fun v17x8 =>
  ob (vIx 1 v9x2 v17x8) fun v18x9 =>
  ob (vLoad v18x9 H) fun v19x10 =>
  ob (vIx 3 v8x1 v19x10) fun v20x11 =>
  ob (vLoadN 3 v20x11 H) fun v21x12 =>
  ob (vLoad a4 H) fun v23x13 =>
  ob (vInt .rem a0 v23x13) fun v24x14 =>
  ob (vLoad a4 H) fun v26x15 =>
  ob (vInt .rem a1 v26x15) fun v27x16 =>
  HT prg I.impl_Field_at [v21x12, v24x14, v27x16].toArray H fun v28x17 H18 =>
  Le H H18 ∧ (K v28x17 H18)
def O.impl_FieldOfTree_1 : Nat → Nat × List Nat := fun i => bif Nat.beq i 1 then (0, [0, 1, 2, 3, 4, 5, 6, 7, 8, 9, 10, 11, 12, 13, 14, 15, 16, 17, 18, 19, 20, 21]) else (0, [])
theorem R.impl_FieldOfTree_1 {a0 a1 a2 a3 a4 : Value} {H : Hp} {K : Value → Hp → Prop} (h : F.impl_FieldOfTree_1 a0 a1 a2 a3 a4 H K) : HT prg I.impl_FieldOfTree_1 [a0, a1, a2, a3, a4].toArray H K :=
  HT_of_fev O.impl_FieldOfTree_1 mixed Try.func82 (by kernel_rfl) (Eq.mpr (by kernel_rfl : fev prg O.impl_FieldOfTree_1 Try.f82 [a0, a1, a2, a3, a4] H K = F.impl_FieldOfTree_1 a0 a1 a2 a3 a4 H K) h)

/-! slices.Equal[[]int64,int64]: function 84 -/
def F.slices_Equal_int64Zint64 (a0 a1 : Value) (H : Hp) (K : Value → Hp → Prop) : Prop :=
  ob (vLenSl a0) fun v7x1 =>
  ob (vLenSl a1) fun v9x2 =>
  ob (vInt .neq v7x1 v9x2) fun v10x3 =>
  cnd v10x3
    (K (.bool false) H)
    (jn (fun σ4 H4 =>
    K (.bool true) H4) fun J4 =>
  ob (vLenSl a0) fun v12x5 =>
  lpE (fun Q6 σ6 H6 =>
    ob (vInt .lss (σ6 13) (σ6 12)) fun v14x7 =>
    cnd v14x7
      (ob (vIx 1 (σ6 0) (σ6 13)) fun v18x8 =>
    ob (vLoad v18x8 H6) fun v19x9 =>
    ob (vIx 1 (σ6 1) (σ6 13)) fun v22x10 =>
    ob (vLoad v22x10 H6) fun v23x11 =>
    ob (vInt .neq v19x9 v23x11) fun v24x12 =>
    cnd v24x12
      (Q6 .ret (up (up (up (up (up (up (up (up (up (up (up (up (up σ6 14 v14x7) 15 (σ6 13)) 5 (σ6 13)) 16 (σ6 0)) 17 (σ6 13)) 18 v18x8) 19 v19x9) 20 (σ6 1)) 21 (σ6 13)) 22 v22x10) 23 v23x11) 24 v24x12) 4 (.bool false)) H6)
      (ob (vInt .add (σ6 13) (.int .i64 1)) fun v25x13 =>
    Q6 .normal (up (up (up (up (up (up (up (up (up (up (up (up (up (up σ6 14 v14x7) 15 (σ6 13)) 5 (σ6 13)) 16 (σ6 0)) 17 (σ6 13)) 18 v18x8) 19 v19x9) 20 (σ6 1)) 21 (σ6 13)) 22 v22x10) 23 v23x11) 24 v24x12) 25 v25x13) 13 v25x13) H6))
      (Q6 (.exit 0) (up σ6 14 v14x7) H6)) (blkQ 0 (thenQ J4 (retQ prg [(.tmp 4)] K))) (up (up (up (up (up (up (up (up (up (S0 [a0, a1]) 4 (.bool false)) 6 a0) 7 v7x1) 8 a1) 9 v9x2) 10 v10x3) 11 a0) 12 v12x5) 13 (.int .i64 0)) H)
def O.slices_Equal_int64Zint64 : Nat → Nat × List Nat := fun i => bif Nat.beq i 6 then (0, [0, 1, 2, 3, 4, 5, 6, 7, 8]) else (0, [])
theorem R.slices_Equal_int64Zint64 {a0 a1 : Value} {H : Hp} {K : Value → Hp → Prop} (h : F.slices_Equal_int64Zint64 a0 a1 H K) : HT prg I.slices_Equal_int64Zint64 [a0, a1].toArray H K :=
  HT_of_fev O.slices_Equal_int64Zint64 mixed Try.func84 (by kernel_rfl) (Eq.mpr (by kernel_rfl : fev prg O.slices_Equal_int64Zint64 Try.f84 [a0, a1] H K = F.slices_Equal_int64Zint64 a0 a1 H K) h)

end Go.Proofs.Ythmdmbbdjbhcoaa
/- Functions' texts over a partial heap. -/
namespace Go.Proofs.Ythmdmbbdjbhcoaa
open HL
set_option linter.unusedVariables false
set_option maxRecDepth 100000
set_option maxHeartbeats 4000000
/-! loop.example/g01381/impl.FieldOfTree: function 37 -/
def F.impl_FieldOfTree (a0 : Value) (H : Hp) (K : Value → Hp → Prop) : Prop :=
  nw #[(.int .i64 0), (.int .i64 0), (.slice none 0 0)] 49 H fun v2x1 H2 =>
  nw #[(.bool false)] 4 H2 fun v3x3 H4 =>
  ob (vLenSl a0) fun v11x5 =>
  ob (vInt .eql v11x5 (.int .i64 0)) fun v12x6 =>
  gop v12x6 false (fun K7 => K7 a0 H4) H4 fun v14x8 H9 =>
  gop v12x6 false (fun K10 => ob (vLenSl v14x8) fun u => K10 u H9) H9 fun v15x11 H12 =>
  gop v12x6 false (fun K13 => ob (vInt .gtr v15x11 (.int .i64 1024)) fun u => K13 u H12) H12 fun v16x14 H15 =>
  ob (vPick v12x6 (.bool true) v16x14) fun v17x16 =>
  gop v17x16 false (fun K17 => K17 a0 H15) H15 fun v19x18 H19 =>
  gop v17x16 false (fun K20 => ob (vLenSl v19x18) fun u => K20 u H19) H19 fun v20x21 H22 =>
  gop v17x16 false (fun K23 => ob (vInt .rem v20x21 (.int .i64 4)) fun u => K23 u H22) H22 fun v21x24 H25 =>
  gop v17x16 false (fun K26 => ob (vInt .neq v21x24 (.int .i64 0)) fun u => K26 u H25) H25 fun v22x27 H28 =>
  ob (vPick v17x16 (.bool true) v22x27) fun v23x29 =>
  cnd v23x29
    (ob (vBuild [(0, 1), (1, 1), (2, 1)] (.agg #[(.int .i64 0), (.int .i64 0), (.slice none 0 0)]) []) fun v24x30 =>
    st 3 v2x1 v24x30 H28 fun H31 =>
    st 1 v3x3 (.bool false) H31 fun H32 =>
    ob (vLoadN 3 v2x1 H32) fun u33 => ob (vLoad v3x3 H32) fun u34 => K (.tuple #[u33, u34]) H32)
    (bS 1 1 #[(.int .i64 0)] 2 [(0, (.int .i64 0))] H28 fun v25x35 H36 =>
  ob (vBuild [(0, 1), (1, 1), (2, 1)] (.agg #[(.int .i64 0), (.int .i64 0), (.slice none 0 0)]) [(0, (.int .i64 1)), (1, (.int .i64 1)), (2, v25x35)]) fun v26x37 =>
  bS 1 1 #[(.int .i64 0)] 2 [(0, (.int .i64 1))] H36 fun v27x38 H39 =>
  ob (vBuild [(0, 1), (1, 1), (2, 1)] (.agg #[(.int .i64 0), (.int .i64 0), (.slice none 0 0)]) [(0, (.int .i64 1)), (1, (.int .i64 1)), (2, v27x38)]) fun v28x40 =>
  bS 3 2 #[(.int .i64 0), (.int .i64 0), (.slice none 0 0)] 49 [(0, v26x37), (1, v28x40)] H39 fun v29x41 H42 =>
  nw #[(.slice none 0 0)] 102 H42 fun v4x43 H44 =>
  st 1 v4x43 v29x41 H44 fun H45 =>
  jn (fun σ46 H46 =>
    ob (vLoad (σ46 4) H46) fun v86x47 =>
    ob (vLoad (σ46 4) H46) fun v87x48 =>
    ob (vLenSl v87x48) fun v88x49 =>
    ob (vInt .sub v88x49 (.int .i64 1)) fun v89x50 =>
    ob (vIx 3 v86x47 v89x50) fun v90x51 =>
    ob (vLoadN 3 v90x51 H46) fun v91x52 =>
    nw #[(.int .i64 0), (.int .i64 0), (.slice none 0 0)] 49 H46 fun v9x53 H54 =>
    st 3 v9x53 v91x52 H54 fun H55 =>
    ob (vLoadN 3 v9x53 H55) fun v92x56 =>
    HT prg I.impl_isSquare [v92x56].toArray H55 fun v93x57 H58 =>
    ob (vUn .not v93x57) fun v94x59 =>
    gop v94x59 false (fun K60 => ob (vLoadN 3 v9x53 H58) fun u => K60 u H58) H58 fun v96x61 H62 =>
    gop v94x59 false (fun K63 => HT prg I.impl_Field_tree [v96x61].toArray H62 K63) H62 fun v97x64 H65 =>
    gop v94x59 false (fun K66 => K66 (σ46 0) H65) H65 fun v98x67 H68 =>
    gop v94x59 false (fun K69 => HT prg I.slices_Equal_int64Zint64 [v97x64, v98x67].toArray H68 K69) H68 fun v99x70 H71 =>
    gop v94x59 false (fun K72 => ob (vUn .not v99x70) fun u => K72 u H71) H71 fun v100x73 H74 =>
    ob (vPick v94x59 (.bool true) v100x73) fun v101x75 =>
    cnd v101x75
      (ob (vBuild [(0, 1), (1, 1), (2, 1)] (.agg #[(.int .i64 0), (.int .i64 0), (.slice none 0 0)]) []) fun v102x76 =>
      st 3 (σ46 2) v102x76 H74 fun H77 =>
      st 1 (σ46 3) (.bool false) H77 fun H78 =>
      ob (vLoadN 3 (σ46 2) H78) fun u79 => ob (vLoad (σ46 3) H78) fun u80 => K (.tuple #[u79, u80]) H78)
      (ob (vLoadN 3 v9x53 H74) fun v103x81 =>
    st 3 (σ46 2) v103x81 H74 fun H82 =>
    st 1 (σ46 3) (.bool true) H82 fun H83 =>
    ob (vLoadN 3 (σ46 2) H83) fun u84 => ob (vLoad (σ46 3) H83) fun u85 => K (.tuple #[u84, u85]) H83)) fun J46 =>
  HT prg I.slices_Chunk_int64Zint64 [a0, (.int .i64 4)].toArray H45 fun v31x86 H87 =>
  rgE prg v31x86 [32] (fun Q88 σ88 H88 =>
    nw #[(.slice none 0 0)] 22 H88 fun v5x89 H90 =>
    st 1 v5x89 (σ88 32) H90 fun H91 =>
    jn (fun σ92 H92 =>
      ob (vLoad (σ92 4) H92) fun v70x93 =>
      ob (vLoad (σ92 5) H92) fun v71x94 =>
      ob (vIx 1 v71x94 (.int .i64 0)) fun v72x95 =>
      ob (vLoad v72x95 H92) fun v73x96 =>
      ob (vIx 3 v70x93 v73x96) fun v74x97 =>
      ob (vFa 0 v74x97) fun v75x98 =>
      ob (vLoad v75x98 H92) fun v76x99 =>
      nw #[(.int .i64 0)] 2 H92 fun v8x100 H101 =>
      st 1 v8x100 v76x99 H101 fun H102 =>
      ob (vLoad (σ92 4) H102) fun v77x103 =>
      ob (vLoad v8x100 H102) fun v78x104 =>
      ob (vInt .mul (.int .i64 2) v78x104) fun v79x105 =>
      ob (vLoad v8x100 H102) fun v80x106 =>
      ob (vInt .mul (.int .i64 2) v80x106) fun v81x107 =>
      HT prg I.impl_madeField [v79x105, v81x107, (.func (.func I.impl_FieldOfTree_1) #[] #[(σ92 4), (σ92 5), v8x100])].toArray H102 fun v83x108 H109 =>
      Le H102 H109 ∧ (bS 3 1 #[(.int .i64 0), (.int .i64 0), (.slice none 0 0)] 49 [(0, v83x108)] H109 fun v84x110 H111 =>
      apd 3 40 #[(.int .i64 0), (.int .i64 0), (.slice none 0 0)] 49 v77x103 v84x110 H111 fun v85x112 H113 =>
      st 1 (σ92 4) v85x112 H113 fun H114 =>
      Q88 .normal (up (up (up (up (up (up (up (up (up (up (up (up (up (up (up (up (up σ92 70 v70x93) 71 v71x94) 72 v72x95) 73 v73x96) 74 v74x97) 75 v75x98) 76 v76x99) 8 v8x100) 77 v77x103) 78 v78x104) 79 v79x105) 80 v80x106) 81 v81x107) 82 (.func (.func I.impl_FieldOfTree_1) #[] #[(σ92 4), (σ92 5), v8x100])) 83 v83x108) 84 v84x110) 85 v85x112) H114)) fun J92 =>
    ob (vLoad v5x89 H91) fun v33x115 =>
    ob (vLenSl v33x115) fun v34x116 =>
    lpE (fun Q117 σ117 H117 =>
      ob (vInt .lss (σ117 35) (σ117 34)) fun v36x118 =>
      cnd v36x118
        (ob (vIx 1 (σ117 33) (σ117 35)) fun v37x119 =>
      ob (vLoad v37x119 H117) fun v38x120 =>
      ob (vLoad (σ117 4) H117) fun v40x121 =>
      ob (vLenSl v40x121) fun v41x122 =>
      ob (vInt .sub v41x122 (.int .i64 1)) fun v42x123 =>
      HT prg I.impl_within [v38x120, (.int .i64 0), v42x123].toArray H117 fun v43x124 H125 =>
      Le H117 H125 ∧ (ob (vUn .not v43x124) fun v44x126 =>
      gop v44x126 false (fun K127 => ob (vLoad (σ117 4) H125) fun u => K127 u H125) H125 fun v46x128 H129 =>
      gop v44x126 false (fun K130 => K130 v38x120 H129) H129 fun v47x131 H132 =>
      gop v44x126 false (fun K133 => ob (vIx 3 v46x128 v47x131) fun u => K133 u H132) H132 fun v48x134 H135 =>
      gop v44x126 false (fun K136 => ob (vFa 0 v48x134) fun u => K136 u H135) H135 fun v49x137 H138 =>
      gop v44x126 false (fun K139 => ob (vLoad v49x137 H138) fun u => K139 u H138) H138 fun v50x140 H141 =>
      gop v44x126 false (fun K142 => ob (vLoad (σ117 4) H141) fun u => K142 u H141) H141 fun v51x143 H144 =>
      gop v44x126 false (fun K145 => ob (vLoad (σ117 5) H144) fun u => K145 u H144) H144 fun v52x146 H147 =>
      gop v44x126 false (fun K148 => ob (vIx 1 v52x146 (.int .i64 0)) fun u => K148 u H147) H147 fun v53x149 H150 =>
      gop v44x126 false (fun K151 => ob (vLoad v53x149 H150) fun u => K151 u H150) H150 fun v54x152 H153 =>
      gop v44x126 false (fun K154 => ob (vIx 3 v51x143 v54x152) fun u => K154 u H153) H153 fun v55x155 H156 =>
      gop v44x126 false (fun K157 => ob (vFa 0 v55x155) fun u => K157 u H156) H156 fun v56x158 H159 =>
      gop v44x126 false (fun K160 => ob (vLoad v56x158 H159) fun u => K160 u H159) H159 fun v57x161 H162 =>
      gop v44x126 false (fun K163 => ob (vInt .neq v50x140 v57x161) fun u => K163 u H162) H162 fun v58x164 H165 =>
      ob (vPick v44x126 (.bool true) v58x164) fun v59x166 =>
      gop v59x166 false (fun K167 => ob (vLoad (σ117 4) H165) fun u => K167 u H165) H165 fun v61x168 H169 =>
      gop v59x166 false (fun K170 => K170 v38x120 H169) H169 fun v62x171 H172 =>
      gop v59x166 false (fun K173 => ob (vIx 3 v61x168 v62x171) fun u => K173 u H172) H172 fun v63x174 H175 =>
      gop v59x166 false (fun K176 => ob (vFa 0 v63x174) fun u => K176 u H175) H175 fun v64x177 H178 =>
      gop v59x166 false (fun K179 => ob (vLoad v64x177 H178) fun u => K179 u H178) H178 fun v65x180 H181 =>
      gop v59x166 false (fun K182 => ob (vInt .gtr v65x180 (.int .i64 8)) fun u => K182 u H181) H181 fun v66x183 H184 =>
      ob (vPick v59x166 (.bool true) v66x183) fun v67x185 =>
      cnd v67x185
        (ob (vBuild [(0, 1), (1, 1), (2, 1)] (.agg #[(.int .i64 0), (.int .i64 0), (.slice none 0 0)]) []) fun v68x186 =>
        st 3 (σ117 2) v68x186 H184 fun H187 =>
        st 1 (σ117 3) (.bool false) H187 fun H188 =>
        Q117 .ret (up (up (up (up (up (up (up (up (up (up (up (up (up (up (up (up (up (up (up (up (up (up (up (up (up (up (up (up (up (up (up (up (up (up σ117 36 v36x118) 37 v37x119) 38 v38x120) 7 v38x120) 39 v38x120) 40 v40x121) 41 v41x122) 42 v42x123) 43 v43x124) 44 v44x126) 45 v44x126) 46 v46x128) 47 v47x131) 48 v48x134) 49 v49x137) 50 v50x140) 51 v51x143) 52 v52x146) 53 v53x149) 54 v54x152) 55 v55x155) 56 v56x158) 57 v57x161) 58 v58x164) 59 v59x166) 60 v59x166) 61 v61x168) 62 v62x171) 63 v63x174) 64 v64x177) 65 v65x180) 66 v66x183) 67 v67x185) 68 v68x186) H188)
        (ob (vInt .add (σ117 35) (.int .i64 1)) fun v69x189 =>
      Q117 .normal (up (up (up (up (up (up (up (up (up (up (up (up (up (up (up (up (up (up (up (up (up (up (up (up (up (up (up (up (up (up (up (up (up (up (up σ117 36 v36x118) 37 v37x119) 38 v38x120) 7 v38x120) 39 v38x120) 40 v40x121) 41 v41x122) 42 v42x123) 43 v43x124) 44 v44x126) 45 v44x126) 46 v46x128) 47 v47x131) 48 v48x134) 49 v49x137) 50 v50x140) 51 v51x143) 52 v52x146) 53 v53x149) 54 v54x152) 55 v55x155) 56 v56x158) 57 v57x161) 58 v58x164) 59 v59x166) 60 v59x166) 61 v61x168) 62 v62x171) 63 v63x174) 64 v64x177) 65 v65x180) 66 v66x183) 67 v67x185) 69 v69x189) 35 v69x189) H184)))
        (Q117 (.exit 2) (up σ117 36 v36x118) H117)) (blkQ 2 (thenQ J92 (blkQ 1 Q88))) (up (up (up (up σ88 5 v5x89) 33 v33x115) 34 v34x116) 35 (.int .i64 0)) H91) (blkQ 0 (thenQ J46 (retQ prg [(.cell 2 49), (.cell 3 4)] K))) (up (up (up (up (up (up (up (up (up (up (up (up (up (up (up (up (up (up (up (up (up (up (up (up (S0 [a0]) 2 v2x1) 3 v3x3) 10 a0) 11 v11x5) 12 v12x6) 13 v12x6) 14 v14x8) 15 v15x11) 16 v16x14) 17 v17x16) 18 v17x16) 19 v19x18) 20 v20x21) 21 v21x24) 22 v22x27) 23 v23x29) 25 v25x35) 26 v26x37) 27 v27x38) 28 v28x40) 29 v29x41) 4 v4x43) 30 a0) 31 v31x86) H87)
def O.impl_FieldOfTree : Nat → Nat × List Nat := fun i => bif Nat.beq i 12 then (0, [0, 1, 2, 3, 4, 5, 6, 7, 8]) else bif Nat.beq i 13 then (0, [0, 1, 2, 3, 4, 5, 6, 7, 8, 9]) else bif Nat.beq i 9 then (0, [0, 1, 2, 3, 4, 5, 6, 7, 8, 9, 10, 11, 12, 13, 14, 15, 16, 17, 18, 19, 20, 21, 22, 23, 24, 25, 26, 27, 28]) else (0, [])
theorem R.impl_FieldOfTree {a0 : Value} {H : Hp} {K : Value → Hp → Prop} (h : F.impl_FieldOfTree a0 H K) : HT prg I.impl_FieldOfTree [a0].toArray H K :=
  HT_of_fev O.impl_FieldOfTree mixed Try.func37 (by kernel_rfl) (Eq.mpr (by kernel_rfl : fev prg O.impl_FieldOfTree Try.f37 [a0] H K = F.impl_FieldOfTree a0 H K) h)

/-! loop.example/g01381/spec.l04New: function 72 -/
def F.spec_l04New (a0 a1 : Value) (H : Hp) (K : Value → Hp → Prop) : Prop :=
  nw #[(.int .i64 0), (.int .i64 0), (.slice none 0 0)] 49 H fun v4x1 H2 =>
  ob (vInt .mul a0 a1) fun v9x3 =>
  mkS 1 8 #[(.int .i64 0)] 2 v9x3 v9x3 H2 fun v10x4 H5 =>
  ob (vBuild [(0, 1), (1, 1), (2, 1)] (.agg #[(.int .i64 0), (.int .i64 0), (.slice none 0 0)]) [(0, a0), (1, a1), (2, v10x4)]) fun v11x6 =>
  st 3 v4x1 v11x6 H5 fun H7 =>
  ob (vLoadN 3 v4x1 H7) fun u8 => K u8 H7
def O.spec_l04New : Nat → Nat × List Nat := fun i => (0, [])
theorem R.spec_l04New {a0 a1 : Value} {H : Hp} {K : Value → Hp → Prop} (h : F.spec_l04New a0 a1 H K) : HT prg I.spec_l04New [a0, a1].toArray H K :=
  HT_of_fev O.spec_l04New mixed Try.func72 (by kernel_rfl) (Eq.mpr (by kernel_rfl : fev prg O.spec_l04New Try.f72 [a0, a1] H K = F.spec_l04New a0 a1 H K) h)

/-! loop.example/g01381/spec.l00Same: function 87 -/
def F.spec_l00Same (a0 a1 : Value) (H : Hp) (K : Value → Hp → Prop) : Prop :=
  ob (vLenSl a0) fun v7x1 =>
  ob (vLenSl a1) fun v9x2 =>
  ob (vInt .neq v7x1 v9x2) fun v10x3 =>
  cnd v10x3
    (K (.bool false) H)
    (jn (fun σ4 H4 =>
    K (.bool true) H4) fun J4 =>
  lpE (fun Q5 σ5 H5 =>
    ob (vLenSl (σ5 0)) fun v13x6 =>
    ob (vInt .lss (σ5 5) v13x6) fun v14x7 =>
    cnd v14x7
      (ob (vIx 1 (σ5 0) (σ5 5)) fun v19x8 =>
    ob (vLoad v19x8 H5) fun v20x9 =>
    ob (vIx 1 (σ5 1) (σ5 5)) fun v23x10 =>
    ob (vLoad v23x10 H5) fun v24x11 =>
    ob (vInt .neq v20x9 v24x11) fun v25x12 =>
    cnd v25x12
      (Q5 .ret (up (up (up (up (up (up (up (up (up (up (up (up (up (up σ5 11 (σ5 5)) 12 (σ5 0)) 13 v13x6) 14 v14x7) 17 (σ5 0)) 18 (σ5 5)) 19 v19x8) 20 v20x9) 21 (σ5 1)) 22 (σ5 5)) 23 v23x10) 24 v24x11) 25 v25x12) 4 (.bool false)) H5)
      (ob (vInt .add (σ5 5) (.int .i64 1)) fun v16x13 =>
    Q5 .normal (up (up (up (up (up (up (up (up (up (up (up (up (up (up (up (up σ5 11 (σ5 5)) 12 (σ5 0)) 13 v13x6) 14 v14x7) 17 (σ5 0)) 18 (σ5 5)) 19 v19x8) 20 v20x9) 21 (σ5 1)) 22 (σ5 5)) 23 v23x10) 24 v24x11) 25 v25x12) 15 (σ5 5)) 16 v16x13) 5 v16x13) H5))
      (Q5 (.exit 0) (up (up (up (up σ5 11 (σ5 5)) 12 (σ5 0)) 13 v13x6) 14 v14x7) H5)) (blkQ 0 (thenQ J4 (retQ prg [(.tmp 4)] K))) (up (up (up (up (up (up (up (S0 [a0, a1]) 4 (.bool false)) 6 a0) 7 v7x1) 8 a1) 9 v9x2) 10 v10x3) 5 (.int .i64 0)) H)
def O.spec_l00Same : Nat → Nat × List Nat := fun i => bif Nat.beq i 6 then (0, [0, 1, 2, 3, 4, 5, 6, 7, 8]) else (0, [])
theorem R.spec_l00Same {a0 a1 : Value} {H : Hp} {K : Value → Hp → Prop} (h : F.spec_l00Same a0 a1 H K) : HT prg I.spec_l00Same [a0, a1].toArray H K :=
  HT_of_fev O.spec_l00Same mixed Try.func87 (by kernel_rfl) (Eq.mpr (by kernel_rfl : fev prg O.spec_l00Same Try.f87 [a0, a1] H K = F.spec_l00Same a0 a1 H K) h)

/-! loop.example/g01381/spec.l05Tell: function 117 -/
def F.spec_l05Tell (a0 a1 a2 a3 a4 : Value) (H : Hp) (K : Value → Hp → Prop) : Prop :=
  ob (vInt .eql a3 (.int .i64 1)) fun v19x1 =>
  cnd v19x1
    (ob (vNilC a0) fun v21x2 =>
    ob (vFa 2 v21x2) fun v22x3 =>
    ob (vLoad v22x3 H) fun v23x4 =>
    ob (vNilC a0) fun v26x5 =>
    ob (vFa 1 v26x5) fun v27x6 =>
    ob (vLoad v27x6 H) fun v28x7 =>
    ob (vInt .mul a1 v28x7) fun v29x8 =>
    ob (vInt .add v29x8 a2) fun v31x9 =>
    ob (vIx 1 v23x4 v31x9) fun v32x10 =>
    ob (vLoad v32x10 H) fun v33x11 =>
    K (.tuple #[v33x11, a4]) H)
    (ob (vInt .quo a3 (.int .i64 2)) fun v36x12 =>
  bS 1 0 #[(.int .i64 0)] 2 [] H fun v37x13 H14 =>
  jn (fun σ15 H15 =>
    jn (fun σ16 H16 =>
      ob (vLenSl (σ16 4)) fun v84x17 =>
      ob (vInt .quo v84x17 (.int .i64 4)) fun v85x18 =>
      ob (vInt .add v85x18 (.int .i64 2)) fun v86x19 =>
      apd 1 8 #[(.int .i64 0)] 2 (σ16 4) (σ16 13) H16 fun v89x20 H21 =>
      K (.tuple #[v86x19, v89x20]) H21) fun J16 =>
    lpE (fun Q22 σ22 H22 =>
      ob (vLenSl (σ22 4)) fun v68x23 =>
      ob (vInt .lss (σ22 17) v68x23) fun v69x24 =>
      cnd v69x24
        (ob (vInt .add (σ22 17) (.int .i64 4)) fun v75x25 =>
      ob (vSl3 1 (σ22 4) (some (σ22 17)) (some v75x25) none) fun v76x26 =>
      HT prg I.spec_l00Same [v76x26, (σ22 13)].toArray H22 fun v78x27 H28 =>
      cnd v78x27
        (ob (vInt .quo (σ22 17) (.int .i64 4)) fun v80x29 =>
        ob (vInt .add v80x29 (.int .i64 2)) fun v81x30 =>
        Q22 .ret (up (up (up (up (up (up (up (up (up (up (up (up (up (up (up (up (up σ22 66 (σ22 17)) 67 (σ22 4)) 68 v68x23) 69 v69x24) 72 (σ22 4)) 73 (σ22 17)) 74 (σ22 17)) 75 v75x25) 76 v76x26) 77 (σ22 13)) 78 v78x27) 79 (σ22 17)) 80 v80x29) 81 v81x30) 82 (σ22 4)) 10 v81x30) 11 (σ22 4)) H28)
        (ob (vInt .add (σ22 17) (.int .i64 4)) fun v71x31 =>
      Q22 .normal (up (up (up (up (up (up (up (up (up (up (up (up (up (up σ22 66 (σ22 17)) 67 (σ22 4)) 68 v68x23) 69 v69x24) 72 (σ22 4)) 73 (σ22 17)) 74 (σ22 17)) 75 v75x25) 76 v76x26) 77 (σ22 13)) 78 v78x27) 70 (σ22 17)) 71 v71x31) 17 v71x31) H28))
        (Q22 (.exit 2) (up (up (up (up σ22 66 (σ22 17)) 67 (σ22 4)) 68 v68x23) 69 v69x24) H22)) (blkQ 2 (thenQ J16 (retQ prg [(.tmp 10), (.tmp 11)] K))) (up σ15 17 (.int .i64 0)) H15) fun J15 =>
  lpE (fun Q32 σ32 H32 =>
    ob (vInt .lss (σ32 14) (.int .i64 4)) fun v39x33 =>
    cnd v39x33
      (ob (vInt .quo (σ32 14) (.int .i64 2)) fun v46x34 =>
    ob (vInt .mul v46x34 (σ32 12)) fun v48x35 =>
    ob (vInt .add (σ32 1) v48x35) fun v49x36 =>
    ob (vInt .rem (σ32 14) (.int .i64 2)) fun v52x37 =>
    ob (vInt .mul v52x37 (σ32 12)) fun v54x38 =>
    ob (vInt .add (σ32 2) v54x38) fun v55x39 =>
    HT prg I.spec_l05Tell [(σ32 0), v49x36, v55x39, (σ32 12), (σ32 4)].toArray H32 fun v58x40 H41 =>
    ob (vExt v58x40 0) fun v59x42 =>
    ob (vExt v58x40 1) fun v60x43 =>
    bS 1 1 #[(.int .i64 0)] 2 [(0, v59x42)] H41 fun v64x44 H45 =>
    apd 1 8 #[(.int .i64 0)] 2 (σ32 13) v64x44 H45 fun v65x46 H47 =>
    ob (vInt .add (σ32 14) (.int .i64 1)) fun v41x48 =>
    Q32 .normal (up (up (up (up (up (up (up (up (up (up (up (up (up (up (up (up (up (up (up (up (up (up (up (up (up (up (up (up (up (up (up (up (up σ32 38 (σ32 14)) 39 v39x33) 43 (σ32 0)) 44 (σ32 1)) 45 (σ32 14)) 46 v46x34) 47 (σ32 12)) 48 v48x35) 49 v49x36) 50 (σ32 2)) 51 (σ32 14)) 52 v52x37) 53 (σ32 12)) 54 v54x38) 55 v55x39) 56 (σ32 12)) 57 (σ32 4)) 58 v58x40) 42 v58x40) 59 v59x42) 60 v60x43) 15 v59x42) 16 v60x43) 61 v60x43) 4 v60x43) 62 (σ32 13)) 63 v59x42) 64 v64x44) 65 v65x46) 13 v65x46) 40 (σ32 14)) 41 v41x48) 14 v41x48) H47)
      (Q32 (.exit 0) (up (up σ32 38 (σ32 14)) 39 v39x33) H32)) (blkQ 0 (thenQ J15 (retQ prg [(.tmp 10), (.tmp 11)] K))) (up (up (up (up (up (up (up (up (up (up (S0 [a0, a1, a2, a3, a4]) 10 (.int .i64 0)) 11 (.slice none 0 0)) 18 a3) 19 v19x1) 35 a3) 36 v36x12) 12 v36x12) 37 v37x13) 13 v37x13) 14 (.int .i64 0)) H14)
def O.spec_l05Tell : Nat → Nat × List Nat := fun i => bif Nat.beq i 2 then (0, [0, 1, 2, 3, 4, 5, 6, 7, 8, 9, 10, 11, 12, 13, 14, 15, 16]) else (0, [])
theorem R.spec_l05Tell {a0 a1 a2 a3 a4 : Value} {H : Hp} {K : Value → Hp → Prop} (h : F.spec_l05Tell a0 a1 a2 a3 a4 H K) : HT prg I.spec_l05Tell [a0, a1, a2, a3, a4].toArray H K :=
  HT_of_fev O.spec_l05Tell mixed Try.func117 (by kernel_rfl) (Eq.mpr (by kernel_rfl : fev prg O.spec_l05Tell Try.f117 [a0, a1, a2, a3, a4] H K = F.spec_l05Tell a0 a1 a2 a3 a4 H K) h)

/-! loop.example/g01381/spec.l05Tree: function 76 -/
def F.spec_l05Tree (a0 : Value) (H : Hp) (K : Value → Hp → Prop) : Prop :=
  ob (vNilC a0) fun v8x1 =>
  ob (vFa 0 v8x1) fun v9x2 =>
  ob (vLoad v9x2 H) fun v10x3 =>
  bS 1 0 #[(.int .i64 0)] 2 [] H fun v11x4 H5 =>
  HT prg I.spec_l05Tell [a0, (.int .i64 0), (.int .i64 0), v10x3, v11x4].toArray H5 fun v12x6 H7 =>
  ob (vExt v12x6 0) fun v13x8 =>
  ob (vExt v12x6 1) fun v14x9 =>
  K v14x9 H7
def O.spec_l05Tree : Nat → Nat × List Nat := fun i => (0, [])
theorem R.spec_l05Tree {a0 : Value} {H : Hp} {K : Value → Hp → Prop} (h : F.spec_l05Tree a0 H K) : HT prg I.spec_l05Tree [a0].toArray H K :=
  HT_of_fev O.spec_l05Tree mixed Try.func76 (by kernel_rfl) (Eq.mpr (by kernel_rfl : fev prg O.spec_l05Tree Try.f76 [a0] H K = F.spec_l05Tree a0 H K) h)

/-! loop.example/g01381/spec.l05Size: function 85 -/
def F.spec_l05Size (a0 a1 : Value) (H : Hp) (K : Value → Hp → Prop) : Prop :=
  jn (fun σ1 H1 =>
    K (σ1 5) H1) fun J1 =>
  lpE (fun Q2 σ2 H2 =>
    ob (vInt .gtr (σ2 1) (.int .i64 1)) fun v7x3 =>
    cnd v7x3
      (ob (vInt .sub (σ2 1) (.int .i64 2)) fun v10x4 =>
    ob (vInt .mul (.int .i64 4) v10x4) fun v11x5 =>
    ob (vIx 1 (σ2 0) v11x5) fun v12x6 =>
    ob (vLoad v12x6 H2) fun v13x7 =>
    ob (vInt .mul (σ2 5) (.int .i64 2)) fun v15x8 =>
    Q2 .normal (up (up (up (up (up (up (up (up (up (up (up (up σ2 6 (σ2 1)) 7 v7x3) 8 (σ2 0)) 9 (σ2 1)) 10 v10x4) 11 v11x5) 12 v12x6) 13 v13x7) 1 v13x7) 14 (σ2 5)) 15 v15x8) 5 v15x8) H2)
      (Q2 (.exit 0) (up (up σ2 6 (σ2 1)) 7 v7x3) H2)) (blkQ 0 (thenQ J1 (retQ prg [(.tmp 4)] K))) (up (up (S0 [a0, a1]) 4 (.int .i64 0)) 5 (.int .i64 1)) H
def O.spec_l05Size : Nat → Nat × List Nat := fun i => (0, [])
theorem R.spec_l05Size {a0 a1 : Value} {H : Hp} {K : Value → Hp → Prop} (h : F.spec_l05Size a0 a1 H K) : HT prg I.spec_l05Size [a0, a1].toArray H K :=
  HT_of_fev O.spec_l05Size mixed Try.func85 (by kernel_rfl) (Eq.mpr (by kernel_rfl : fev prg O.spec_l05Size Try.f85 [a0, a1] H K = F.spec_l05Size a0 a1 H K) h)

/-! loop.example/g01381/spec.l05Fill: function 86 -/
def F.spec_l05Fill (a0 a1 a2 a3 a4 a5 : Value) (H : Hp) (K : Value → Hp → Prop) : Prop :=
  ob (vInt .eql a5 (.int .i64 1)) fun v16x1 =>
  cnd v16x1
    (ob (vInt .gtr a2 (.int .i64 1)) fun v18x2 =>
    cnd v18x2
      (K (.bool false) H)
      (ob (vNilC a0) fun v20x3 =>
    ob (vFa 2 v20x3) fun v21x4 =>
    ob (vLoad v21x4 H) fun v22x5 =>
    ob (vNilC a0) fun v25x6 =>
    ob (vFa 1 v25x6) fun v26x7 =>
    ob (vLoad v26x7 H) fun v27x8 =>
    ob (vInt .mul a3 v27x8) fun v28x9 =>
    ob (vInt .add v28x9 a4) fun v30x10 =>
    ob (vIx 1 v22x5 v30x10) fun v32x11 =>
    st 1 v32x11 a2 H fun H12 =>
    K (.bool true) H12))
    (ob (vInt .lss a2 (.int .i64 2)) fun v34x13 =>
  cnd v34x13
    (K (.bool false) H)
    (ob (vInt .quo a5 (.int .i64 2)) fun v36x14 =>
  jn (fun σ15 H15 =>
    K (.bool true) H15) fun J15 =>
  lpE (fun Q16 σ16 H16 =>
    ob (vInt .lss (σ16 14) (.int .i64 4)) fun v38x17 =>
    cnd v38x17
      (ob (vInt .sub (σ16 2) (.int .i64 2)) fun v45x18 =>
    ob (vInt .mul (.int .i64 4) v45x18) fun v46x19 =>
    ob (vInt .add v46x19 (σ16 14)) fun v48x20 =>
    ob (vIx 1 (σ16 1) v48x20) fun v49x21 =>
    ob (vLoad v49x21 H16) fun v50x22 =>
    ob (vInt .quo (σ16 14) (.int .i64 2)) fun v53x23 =>
    ob (vInt .mul v53x23 (σ16 13)) fun v55x24 =>
    ob (vInt .add (σ16 3) v55x24) fun v56x25 =>
    ob (vInt .rem (σ16 14) (.int .i64 2)) fun v59x26 =>
    ob (vInt .mul v59x26 (σ16 13)) fun v61x27 =>
    ob (vInt .add (σ16 4) v61x27) fun v62x28 =>
    HT prg I.spec_l05Fill [(σ16 0), (σ16 1), v50x22, v56x25, v62x28, (σ16 13)].toArray H16 fun v64x29 H30 =>
    ob (vUn .not v64x29) fun v65x31 =>
    cnd v65x31
      (Q16 .ret (up (up (up (up (up (up (up (up (up (up (up (up (up (up (up (up (up (up (up (up (up (up (up (up (up (up (up (up σ16 37 (σ16 14)) 38 v38x17) 41 (σ16 0)) 42 (σ16 1)) 43 (σ16 1)) 44 (σ16 2)) 45 v45x18) 46 v46x19) 47 (σ16 14)) 48 v48x20) 49 v49x21) 50 v50x22) 51 (σ16 3)) 52 (σ16 14)) 53 v53x23) 54 (σ16 13)) 55 v55x24) 56 v56x25) 57 (σ16 4)) 58 (σ16 14)) 59 v59x26) 60 (σ16 13)) 61 v61x27) 62 v62x28) 63 (σ16 13)) 64 v64x29) 65 v65x31) 12 (.bool false)) H30)
      (ob (vInt .add (σ16 14) (.int .i64 1)) fun v40x32 =>
    Q16 .normal (up (up (up (up (up (up (up (up (up (up (up (up (up (up (up (up (up (up (up (up (up (up (up (up (up (up (up (up (up (up σ16 37 (σ16 14)) 38 v38x17) 41 (σ16 0)) 42 (σ16 1)) 43 (σ16 1)) 44 (σ16 2)) 45 v45x18) 46 v46x19) 47 (σ16 14)) 48 v48x20) 49 v49x21) 50 v50x22) 51 (σ16 3)) 52 (σ16 14)) 53 v53x23) 54 (σ16 13)) 55 v55x24) 56 v56x25) 57 (σ16 4)) 58 (σ16 14)) 59 v59x26) 60 (σ16 13)) 61 v61x27) 62 v62x28) 63 (σ16 13)) 64 v64x29) 65 v65x31) 39 (σ16 14)) 40 v40x32) 14 v40x32) H30))
      (Q16 (.exit 0) (up (up σ16 37 (σ16 14)) 38 v38x17) H16)) (blkQ 0 (thenQ J15 (retQ prg [(.tmp 12)] K))) (up (up (up (up (up (up (up (up (up (S0 [a0, a1, a2, a3, a4, a5]) 12 (.bool false)) 15 a5) 16 v16x1) 33 a2) 34 v34x13) 35 a5) 36 v36x14) 13 v36x14) 14 (.int .i64 0)) H))
def O.spec_l05Fill : Nat → Nat × List Nat := fun i => bif Nat.beq i 4 then (0, [0, 1, 2, 3, 4, 5, 6, 7, 8, 9, 10, 11, 12, 13, 14]) else (0, [])
theorem R.spec_l05Fill {a0 a1 a2 a3 a4 a5 : Value} {H : Hp} {K : Value → Hp → Prop} (h : F.spec_l05Fill a0 a1 a2 a3 a4 a5 H K) : HT prg I.spec_l05Fill [a0, a1, a2, a3, a4, a5].toArray H K :=
  HT_of_fev O.spec_l05Fill mixed Try.func86 (by kernel_rfl) (Eq.mpr (by kernel_rfl : fev prg O.spec_l05Fill Try.f86 [a0, a1, a2, a3, a4, a5] H K = F.spec_l05Fill a0 a1 a2 a3 a4 a5 H K) h)

/-! loop.example/g01381/spec.FieldOfTree: function 38 -/
def F.spec_FieldOfTree (a0 : Value) (H : Hp) (K : Value → Hp → Prop) : Prop :=
  nw #[(.int .i64 0), (.int .i64 0), (.slice none 0 0)] 49 H fun v2x1 H2 =>
  ob (vLenSl a0) fun v10x3 =>
  ob (vInt .lss v10x3 (.int .i64 4)) fun v12x4 =>
  gop v12x4 false (fun K5 => K5 v10x3 H2) H2 fun v14x6 H7 =>
  gop v12x4 false (fun K8 => ob (vInt .gtr v14x6 (.int .i64 1024)) fun u => K8 u H7) H7 fun v15x9 H10 =>
  ob (vPick v12x4 (.bool true) v15x9) fun v16x11 =>
  gop v16x11 false (fun K12 => K12 v10x3 H10) H10 fun v18x13 H14 =>
  gop v16x11 false (fun K15 => ob (vInt .rem v18x13 (.int .i64 4)) fun u => K15 u H14) H14 fun v19x16 H17 =>
  gop v16x11 false (fun K18 => ob (vInt .neq v19x16 (.int .i64 0)) fun u => K18 u H17) H17 fun v20x19 H20 =>
  ob (vPick v16x11 (.bool true) v20x19) fun v21x21 =>
  cnd v21x21
    (ob (vBuild [(0, 1), (1, 1), (2, 1)] (.agg #[(.int .i64 0), (.int .i64 0), (.slice none 0 0)]) []) fun v22x22 =>
    st 3 v2x1 v22x22 H20 fun H23 =>
    ob (vLoadN 3 v2x1 H23) fun u24 => K (.tuple #[u24, (.bool false)]) H23)
    (jn (fun σ25 H25 =>
    ob (vInt .quo (σ25 4) (.int .i64 4)) fun v40x26 =>
    ob (vInt .add v40x26 (.int .i64 1)) fun v41x27 =>
    HT prg I.spec_l05Size [(σ25 0), v41x27].toArray H25 fun v44x28 H29 =>
    ob (vInt .neq v44x28 (.int .i64 4)) fun v46x30 =>
    gop v46x30 true (fun K31 => K31 v44x28 H29) H29 fun v48x32 H33 =>
    gop v46x30 true (fun K34 => ob (vInt .neq v48x32 (.int .i64 8)) fun u => K34 u H33) H33 fun v49x35 H36 =>
    ob (vPick v46x30 v49x35 (.bool false)) fun v50x37 =>
    gop v50x37 true (fun K38 => K38 v44x28 H36) H36 fun v52x39 H40 =>
    gop v50x37 true (fun K41 => ob (vInt .neq v52x39 (.int .i64 16)) fun u => K41 u H40) H40 fun v53x42 H43 =>
    ob (vPick v50x37 v53x42 (.bool false)) fun v54x44 =>
    cnd v54x44
      (ob (vBuild [(0, 1), (1, 1), (2, 1)] (.agg #[(.int .i64 0), (.int .i64 0), (.slice none 0 0)]) []) fun v55x45 =>
      st 3 (σ25 2) v55x45 H43 fun H46 =>
      ob (vLoadN 3 (σ25 2) H46) fun u47 => K (.tuple #[u47, (.bool false)]) H46)
      (HT prg I.spec_l04New [v44x28, v44x28].toArray H43 fun v58x48 H49 =>
    nw #[(.int .i64 0), (.int .i64 0), (.slice none 0 0)] 49 H49 fun v8x50 H51 =>
    st 3 v8x50 v58x48 H51 fun H52 =>
    HT prg I.spec_l05Fill [v8x50, (σ25 0), v41x27, (.int .i64 0), (.int .i64 0), v44x28].toArray H52 fun v62x53 H54 =>
    ob (vUn .not v62x53) fun v63x55 =>
    gop v63x55 false (fun K56 => HT prg I.spec_l05Tree [v8x50].toArray H54 K56) H54 fun v65x57 H58 =>
    gop v63x55 false (fun K59 => K59 (σ25 0) H58) H58 fun v66x60 H61 =>
    gop v63x55 false (fun K62 => HT prg I.spec_l00Same [v65x57, v66x60].toArray H61 K62) H61 fun v67x63 H64 =>
    gop v63x55 false (fun K65 => ob (vUn .not v67x63) fun u => K65 u H64) H64 fun v68x66 H67 =>
    ob (vPick v63x55 (.bool true) v68x66) fun v69x68 =>
    cnd v69x68
      (ob (vBuild [(0, 1), (1, 1), (2, 1)] (.agg #[(.int .i64 0), (.int .i64 0), (.slice none 0 0)]) []) fun v70x69 =>
      st 3 (σ25 2) v70x69 H67 fun H70 =>
      ob (vLoadN 3 (σ25 2) H70) fun u71 => K (.tuple #[u71, (.bool false)]) H70)
      (ob (vLoadN 3 v8x50 H67) fun v71x72 =>
    st 3 (σ25 2) v71x72 H67 fun H73 =>
    ob (vLoadN 3 (σ25 2) H73) fun u74 => K (.tuple #[u74, (.bool true)]) H73))) fun J25 =>
  ob (vLenSl a0) fun v24x75 =>
  lpE (fun Q76 σ76 H76 =>
    ob (vInt .lss (σ76 25) (σ76 24)) fun v26x77 =>
    cnd v26x77
      (ob (vIx 1 (σ76 0) (σ76 25)) fun v30x78 =>
    ob (vLoad v30x78 H76) fun v31x79 =>
    ob (vInt .quo (σ76 25) (.int .i64 4)) fun v33x80 =>
    ob (vInt .add v33x80 (.int .i64 1)) fun v34x81 =>
    HT prg I.spec_l00In [v31x79, (.int .i64 0), v34x81].toArray H76 fun v35x82 H83 =>
    ob (vUn .not v35x82) fun v36x84 =>
    cnd v36x84
      (ob (vBuild [(0, 1), (1, 1), (2, 1)] (.agg #[(.int .i64 0), (.int .i64 0), (.slice none 0 0)]) []) fun v37x85 =>
      st 3 (σ76 2) v37x85 H83 fun H86 =>
      Q76 .ret (up (up (up (up (up (up (up (up (up (up (up (up (up (up σ76 26 v26x77) 27 (σ76 25)) 5 (σ76 25)) 28 (σ76 0)) 29 (σ76 25)) 30 v30x78) 31 v31x79) 32 (σ76 25)) 33 v33x80) 34 v34x81) 35 v35x82) 36 v36x84) 37 v37x85) 3 (.bool false)) H86)
      (ob (vInt .add (σ76 25) (.int .i64 1)) fun v38x87 =>
    Q76 .normal (up (up (up (up (up (up (up (up (up (up (up (up (up (up σ76 26 v26x77) 27 (σ76 25)) 5 (σ76 25)) 28 (σ76 0)) 29 (σ76 25)) 30 v30x78) 31 v31x79) 32 (σ76 25)) 33 v33x80) 34 v34x81) 35 v35x82) 36 v36x84) 38 v38x87) 25 v38x87) H83))
      (Q76 (.exit 0) (up σ76 26 v26x77) H76)) (blkQ 0 (thenQ J25 (retQ prg [(.cell 2 49), (.tmp 3)] K))) (up (up (up (up (up (up (up (up (up (up (up (up (up (up (up (up (up (up (up (S0 [a0]) 2 v2x1) 3 (.bool false)) 9 a0) 10 v10x3) 4 v10x3) 11 v10x3) 12 v12x4) 13 v12x4) 14 v14x6) 15 v15x9) 16 v16x11) 17 v16x11) 18 v18x13) 19 v19x16) 20 v20x19) 21 v21x21) 23 a0) 24 v24x75) 25 (.int .i64 0)) H20)
def O.spec_FieldOfTree : Nat → Nat × List Nat := fun i => (0, [])
theorem R.spec_FieldOfTree {a0 : Value} {H : Hp} {K : Value → Hp → Prop} (h : F.spec_FieldOfTree a0 H K) : HT prg I.spec_FieldOfTree [a0].toArray H K :=
  HT_of_fev O.spec_FieldOfTree mixed Try.func38 (by kernel_rfl) (Eq.mpr (by kernel_rfl : fev prg O.spec_FieldOfTree Try.f38 [a0] H K = F.spec_FieldOfTree a0 H K) h)

/-! loop.example/g01381/laws.eqField: function 40 -/
def F.laws_eqField (a0 a1 : Value) (H : Hp) (K : Value → Hp → Prop) : Prop :=
  nw (a0 : Value).cells 49 H fun v2x1 H2 =>
  nw (a1 : Value).cells 49 H2 fun v3x3 H4 =>
  ob (vFa 0 v2x1) fun v5x5 =>
  ob (vLoad v5x5 H4) fun v6x6 =>
  ob (vFa 0 v3x3) fun v7x7 =>
  ob (vLoad v7x7 H4) fun v8x8 =>
  ob (vInt .neq v6x6 v8x8) fun v9x9 =>
  cnd v9x9
    (K (.bool false) H4)
    (ob (vFa 1 v2x1) fun v10x10 =>
  ob (vLoad v10x10 H4) fun v11x11 =>
  ob (vFa 1 v3x3) fun v12x12 =>
  ob (vLoad v12x12 H4) fun v13x13 =>
  ob (vInt .neq v11x11 v13x13) fun v14x14 =>
  cnd v14x14
    (K (.bool false) H4)
    (ob (vFa 2 v2x1) fun v15x15 =>
  ob (vLoad v15x15 H4) fun v16x16 =>
  ob (vFa 2 v3x3) fun v17x17 =>
  ob (vLoad v17x17 H4) fun v18x18 =>
  HT prg I.laws_eqInt64S [v16x16, v18x18].toArray H4 fun v19x19 H20 =>
  ob (vUn .not v19x19) fun v20x21 =>
  cnd v20x21
    (K (.bool false) H20)
    (K (.bool true) H20)))
def O.laws_eqField : Nat → Nat × List Nat := fun i => (0, [])
theorem R.laws_eqField {a0 a1 : Value} {H : Hp} {K : Value → Hp → Prop} (h : F.laws_eqField a0 a1 H K) : HT prg I.laws_eqField [a0, a1].toArray H K :=
  HT_of_fev O.laws_eqField mixed Try.func40 (by kernel_rfl) (Eq.mpr (by kernel_rfl : fev prg O.laws_eqField Try.f40 [a0, a1] H K = F.laws_eqField a0 a1 H K) h)

/-! loop.example/g01381/laws.markField: function 41 -/
def F.laws_markField (a0 a1 : Value) (H : Hp) (K : Value → Hp → Prop) : Prop :=
  nw (a0 : Value).cells 49 H fun v2x1 H2 =>
  ob (vFa 2 v2x1) fun v5x3 =>
  ob (vLoad v5x3 H2) fun v6x4 =>
  HT prg I.laws_markInt64S [v6x4, a1].toArray H2 fun v8x5 H6 =>
  K v8x5 H6
def O.laws_markField : Nat → Nat × List Nat := fun i => (0, [])
theorem R.laws_markField {a0 a1 : Value} {H : Hp} {K : Value → Hp → Prop} (h : F.laws_markField a0 a1 H K) : HT prg I.laws_markField [a0, a1].toArray H K :=
  HT_of_fev O.laws_markField mixed Try.func41 (by kernel_rfl) (Eq.mpr (by kernel_rfl : fev prg O.laws_markField Try.f41 [a0, a1] H K = F.laws_markField a0 a1 H K) h)

/-! loop.example/g01381/laws.heldField: function 42 -/
def F.laws_heldField (a0 a1 : Value) (H : Hp) (K : Value → Hp → Prop) : Prop :=
  nw (a0 : Value).cells 49 H fun v2x1 H2 =>
  ob (vFa 2 v2x1) fun v5x3 =>
  ob (vLoad v5x3 H2) fun v6x4 =>
  HT prg I.laws_heldInt64S [v6x4, a1].toArray H2 fun v8x5 H6 =>
  ob (vInt .lss v8x5 (.int .i64 0)) fun v10x7 =>
  cnd v10x7
    (K (.int .i64 (-1)) H6)
    (K v8x5 H6)
def O.laws_heldField : Nat → Nat × List Nat := fun i => (0, [])
theorem R.laws_heldField {a0 a1 : Value} {H : Hp} {K : Value → Hp → Prop} (h : F.laws_heldField a0 a1 H K) : HT prg I.laws_heldField [a0, a1].toArray H K :=
  HT_of_fev O.laws_heldField mixed Try.func42 (by kernel_rfl) (Eq.mpr (by kernel_rfl : fev prg O.laws_heldField Try.f42 [a0, a1] H K = F.laws_heldField a0 a1 H K) h)

/-! loop.example/g01381/laws.FnExactFieldOfTree: function 7 -/
def F.laws_FnExactFieldOfTree (a0 : Value) (H : Hp) (K : Value → Hp → Prop) : Prop :=
  ob (vLenSl a0) fun v14x1 =>
  ob (vInt .gtr v14x1 (.int .i64 1048576)) fun v15x2 =>
  cnd v15x2
    (K (.bool true) H)
    (HT prg I.laws_toInt64S [a0].toArray H fun v18x3 H4 =>
  HT prg I.spec_FieldOfTree [v18x3].toArray H4 fun v19x5 H6 =>
  ob (vExt v19x5 0) fun v20x7 =>
  ob (vExt v19x5 1) fun v21x8 =>
  nw #[(.int .i64 0), (.int .i64 0), (.slice none 0 0)] 49 H6 fun v3x9 H10 =>
  st 3 v3x9 v20x7 H10 fun H11 =>
  HT prg I.laws_toInt64S [a0].toArray H11 fun v23x12 H13 =>
  HT prg I.impl_FieldOfTree [v23x12].toArray H13 fun v26x14 H15 =>
  ob (vExt v26x14 0) fun v27x16 =>
  ob (vExt v26x14 1) fun v28x17 =>
  nw #[(.int .i64 0), (.int .i64 0), (.slice none 0 0)] 49 H15 fun v6x18 H19 =>
  st 3 v6x18 v27x16 H19 fun H20 =>
  ob (vLoadN 3 v6x18 H20) fun v29x21 =>
  ob (vLoadN 3 v3x9 H20) fun v30x22 =>
  HT prg I.laws_eqField [v29x21, v30x22].toArray H20 fun v31x23 H24 =>
  ob (vUn .not v31x23) fun v32x25 =>
  gop v32x25 false (fun K26 => K26 v28x17 H24) H24 fun v34x27 H28 =>
  gop v32x25 false (fun K29 => K29 v21x8 H28) H28 fun v35x30 H31 =>
  gop v32x25 false (fun K32 => ob (vBool .neq v34x27 v35x30) fun u => K32 u H31) H31 fun v36x33 H34 =>
  ob (vPick v32x25 (.bool true) v36x33) fun v37x35 =>
  cnd v37x35
    (K (.bool false) H34)
    (HT prg I.laws_toInt64S [a0].toArray H34 fun v40x36 H37 =>
  HT prg I.laws_eqInt64S [v23x12, v40x36].toArray H37 fun v41x38 H39 =>
  ob (vUn .not v41x38) fun v42x40 =>
  cnd v42x40
    (K (.bool false) H39)
    (HT prg I.laws_markInt64S [v23x12, (.int .i64 1)].toArray H39 fun v45x41 H42 =>
  ob (vInt .lss v45x41 (.int .i64 0)) fun v47x43 =>
  gop v47x43 false (fun K44 => ob (vLoadN 3 v6x18 H42) fun u => K44 u H42) H42 fun v49x45 H46 =>
  gop v47x43 false (fun K47 => ob (vLoadN 3 v3x9 H46) fun u => K47 u H46) H46 fun v50x48 H49 =>
  gop v47x43 false (fun K50 => HT prg I.laws_eqField [v49x45, v50x48].toArray H49 K50) H49 fun v51x51 H52 =>
  gop v47x43 false (fun K53 => ob (vUn .not v51x51) fun u => K53 u H52) H52 fun v52x54 H55 =>
  ob (vPick v47x43 (.bool true) v52x54) fun v53x56 =>
  gop v53x56 false (fun K57 => K57 v28x17 H55) H55 fun v55x58 H59 =>
  gop v53x56 false (fun K60 => K60 v21x8 H59) H59 fun v56x61 H62 =>
  gop v53x56 false (fun K63 => ob (vBool .neq v55x58 v56x61) fun u => K63 u H62) H62 fun v57x64 H65 =>
  ob (vPick v53x56 (.bool true) v57x64) fun v58x66 =>
  cnd v58x66
    (K (.bool false) H65)
    (ob (vLoadN 3 v6x18 H65) fun v59x67 =>
  HT prg I.laws_markField [v59x67, (.int .i64 1)].toArray H65 fun v61x68 H69 =>
  ob (vLoadN 3 v6x18 H69) fun v62x70 =>
  HT prg I.laws_heldField [v62x70, (.int .i64 1)].toArray H69 fun v64x71 H72 =>
  ob (vInt .lss v64x71 (.int .i64 0)) fun v66x73 =>
  cnd v66x73
    (K (.bool false) H72)
    (ob (vInt .neq v64x71 v61x68) fun v69x74 =>
  cnd v69x74
    (K (.bool false) H72)
    (HT prg I.laws_toInt64S [a0].toArray H72 fun v72x75 H76 =>
  HT prg I.impl_FieldOfTree [v72x75].toArray H76 fun v73x77 H78 =>
  ob (vExt v73x77 0) fun v74x79 =>
  ob (vExt v73x77 1) fun v75x80 =>
  nw #[(.int .i64 0), (.int .i64 0), (.slice none 0 0)] 49 H78 fun v11x81 H82 =>
  st 3 v11x81 v74x79 H82 fun H83 =>
  ob (vLoadN 3 v11x81 H83) fun v76x84 =>
  ob (vLoadN 3 v3x9 H83) fun v77x85 =>
  HT prg I.laws_eqField [v76x84, v77x85].toArray H83 fun v78x86 H87 =>
  ob (vUn .not v78x86) fun v79x88 =>
  gop v79x88 false (fun K89 => K89 v75x80 H87) H87 fun v81x90 H91 =>
  gop v79x88 false (fun K92 => K92 v21x8 H91) H91 fun v82x93 H94 =>
  gop v79x88 false (fun K95 => ob (vBool .neq v81x90 v82x93) fun u => K95 u H94) H94 fun v83x96 H97 =>
  ob (vPick v79x88 (.bool true) v83x96) fun v84x98 =>
  cnd v84x98
    (K (.bool false) H97)
    (ob (vLoadN 3 v6x18 H97) fun v85x99 =>
  HT prg I.laws_heldField [v85x99, (.int .i64 1)].toArray H97 fun v87x100 H101 =>
  ob (vInt .lss v87x100 (.int .i64 0)) fun v89x102 =>
  cnd v89x102
    (K (.bool false) H101)
    (ob (vInt .neq v87x100 v61x68) fun v92x103 =>
  cnd v92x103
    (K (.bool false) H101)
    (K (.bool true) H101)))))))))
def O.laws_FnExactFieldOfTree : Nat → Nat × List Nat := fun i => (0, [])
theorem R.laws_FnExactFieldOfTree {a0 : Value} {H : Hp} {K : Value → Hp → Prop} (h : F.laws_FnExactFieldOfTree a0 H K) : HT prg I.laws_FnExactFieldOfTree [a0].toArray H K :=
  HT_of_fev O.laws_FnExactFieldOfTree mixed Try.func7 (by kernel_rfl) (Eq.mpr (by kernel_rfl : fev prg O.laws_FnExactFieldOfTree Try.f7 [a0] H K = F.laws_FnExactFieldOfTree a0 H K) h)

end Go.Proofs.Ythmdmbbdjbhcoaa
/- Functions' texts over a partial heap. -/
namespace Go.Proofs.Ythmdmbbdjbhcoaa
open HL
set_option linter.unusedVariables false
set_option maxRecDepth 100000
set_option maxHeartbeats 4000000
end Go.Proofs.Ythmdmbbdjbhcoaa
/- All functions' texts. -/
/- What the small functions of lanes come to. -/
namespace Go.Proofs.Ythmdmbbdjbhcoaa
open HL
theorem C.spec_l00In {x lo hi : Int} {H : Hp} {K : Value → Hp → Prop} (hk : K (.bool (decide (lo ≤ x ∧ x ≤ hi))) H) : HT prg I.spec_l00In [.int .i64 x, .int .i64 lo, .int .i64 hi].toArray H K := by
 refine R.spec_l00In ?_
 unfold F.spec_l00In
 by_cases h : lo ≤ x
 ·simp only [vInt_geq, vInt_leq, ob_some, h, decide_true, gop_tt, vPick_t, true_and] at hk ⊢; exact hk
 ·simp only [vInt_geq, ob_some, h, decide_false, gop_ft, vPick_f, false_and] at hk ⊢; exact hk
theorem C.impl_within {x lo hi : Int} {H : Hp} {K : Value → Hp → Prop} (hk : K (.bool (decide (lo ≤ x ∧ x ≤ hi))) H) : HT prg I.impl_within [.int .i64 x, .int .i64 lo, .int .i64 hi].toArray H K := by
 refine R.impl_within ?_
 unfold F.impl_within
 by_cases h : lo ≤ x
 ·simp only [vInt_geq, vInt_leq, ob_some, h, decide_true, gop_tt, vPick_t, true_and] at hk ⊢; exact hk
 ·simp only [vInt_geq, ob_some, h, decide_false, gop_ft, vPick_f, false_and] at hk ⊢; exact hk
theorem C.impl_areWithin {a : Value} {l : List Int} {lo hi : Int} {H : Hp} {K : Value → Hp → Prop} (ha : Sl eI H a l) (hl : l.length ≤ 9223372036854775807) (hk : K (.bool (decide (∀ x ∈ l, lo ≤ x ∧ x ≤ hi))) H) :
    HT prg I.impl_areWithin [a, .int .i64 lo, .int .i64 hi].toArray H K := by
 refine R.impl_areWithin ?_
 unfold F.impl_areWithin jn; dsimp only
 rw [ha.len, ob_some]
 refine ⟨fun n σ H1 => ∃ i : Nat, n = l.length - i ∧ i ≤ l.length ∧ H1 = H ∧ σ 1 = .int .i64 lo ∧ σ 2 = .int .i64 hi ∧ σ 9 = a ∧ σ 10 = .int .i64 l.length ∧ σ 11 = .int .i64 i ∧ ∀ x ∈ l.take i, lo ≤ x ∧ x ≤ hi,
  ⟨_, 0, rfl, by omega, rfl, rfl, rfl, rfl, rfl, rfl, by simp⟩, ?_⟩
 rintro n σ H1 ⟨i, rfl, hi', rfl, h1, h2, h9, h10, h11, hall⟩
 simp only [h1, h2, h9, h10, h11, vInt_lss, ob_some]
 refine cnd_d (fun hlt => ?_) (fun hge => ?_)
 ·have hlt' : i < l.length := by omega
  rw [ha.ix (by omega) hlt, ob_some, ha.ld 0 (by omega) hlt, ob_some]
  refine C.impl_within ?_
  rw [vUn_not, ob_some]
  refine cnd_i (fun hb => ?_) (fun hb => ?_)
  ·refine retK (K := K) (v' := .bool false) rfl ?_
   rw [decide_eq_false] at hk
   ·exact hk
   ·intro hh
    have := hh _ (at_mem 0 l (i := i) (by omega) hlt)
    simp [this] at hb
  ·rw [vInt_add (by omega) (by omega), ob_some]
   refine nxt (l.length - (i + 1)) (by omega) ⟨i + 1, rfl, by omega, rfl, h1, h2, h9, h10, rfl, ?_⟩
   rw [take_at 0 l hlt']
   intro x hx
   rcases List.mem_append.mp hx with hx | hx
   ·exact hall x hx
   ·simp only [List.mem_singleton] at hx; subst hx; simpa using hb
 ·refine retK (K := K) (v' := .bool true) rfl ?_
  rw [decide_eq_true] at hk
  ·exact hk
  ·intro x hx
   rw [List.take_of_length_le (by omega)] at hall
   exact hall x hx
theorem C.impl_areMany {a : Value} {l : List Int} {n m lo hi : Int} {H : Hp} {K : Value → Hp → Prop} (ha : Sl eI H a l) (hl : l.length ≤ 9223372036854775807)
    (hk : K (.bool (decide ((n ≤ l.length ∧ l.length ≤ m) ∧ ∀ x ∈ l, lo ≤ x ∧ x ≤ hi))) H) :
    HT prg I.impl_areMany [a, .int .i64 n, .int .i64 m, .int .i64 lo, .int .i64 hi].toArray H K := by
 refine R.impl_areMany ?_
 unfold F.impl_areMany
 rw [ha.len, ob_some]
 refine C.impl_within ?_
 by_cases h : n ≤ l.length ∧ l.length ≤ m
 ·simp only [h, and_self, decide_true, gop_tt, true_and] at hk ⊢
  refine C.impl_areWithin ha hl ?_
  rw [vPick_t, ob_some]
  exact hk
 ·simp only [h, decide_false, gop_ft, vPick_f, ob_some, false_and] at hk ⊢
  exact hk
def isLane (l : List Int) : Prop := (1 ≤ (l.length : Int) ∧ (l.length : Int) ≤ 64) ∧ ∀ x ∈ l, -1 ≤ x ∧ x ≤ 5
instance (l : List Int) : Decidable (isLane l) := by unfold isLane; infer_instance
theorem C.laws_toInt64S {a : Value} {l : List Int} {H : Hp} {K : Value → Hp → Prop} (ha : Sl eI H a l) (hl : l.length ≤ 17592186044416) (hk : ∀ v H', Own eI H' v l → Nw H v → Le H H' → K v H') :
    HT prg I.laws_toInt64S [a].toArray H K := by
 refine R.laws_toInt64S ?_
 unfold F.laws_toInt64S jn; dsimp only
 rw [ha.len, ob_some]
 refine Own.mk_ (by omega) (by omega) (by omega) (by omega) (fun v H0 ho hn hle => ?_)
 refine ⟨fun n σ H1 => ∃ i : Nat, n = l.length - i ∧ i ≤ l.length ∧ σ 0 = a ∧ σ 3 = v ∧ σ 4 = .int .i64 i ∧ Own eI H1 v (l.take i ++ List.replicate (l.length - i) 0) ∧ Off v H0 H1,
  ⟨_, 0, rfl, by omega, rfl, rfl, rfl, by simpa using ho, fun b o hb _ => hb⟩, ?_⟩
 rintro n σ H1 ⟨i, rfl, hi', h0, h3, h4, ho1, hoff⟩
 have hle1 : Le H H1 := hoff.le hle hn
 have ha1 := ha.le hle1
 simp only [h0, h3, h4, ha.len, vInt_lss, ob_some]
 refine cnd_d (fun hlt => ?_) (fun hge => ?_)
 ·have hlt' : i < l.length := by omega
  rw [ha1.ix (by omega) hlt, ob_some, ha1.ld 0 (by omega) hlt, ob_some, ho1.sl.ix (by omega) (by simp; omega), ob_some]
  refine ho1.st (x := at_ 0 l (i : Int)) (by omega) (by simp; omega) rfl rfl (fun H2 ho2 hoff2 => ?_)
  rw [vInt_add (by omega) (by omega), ob_some]
  refine nxt (l.length - (i + 1)) (by omega) ⟨i + 1, rfl, by omega, h0, h3, rfl, ?_, hoff.trans hoff2⟩
  have e : (l.take i ++ List.replicate (l.length - i) 0).set (i : Int).toNat (at_ 0 l (i : Int)) = l.take (i + 1) ++ List.replicate (l.length - (i + 1)) 0 := by
   rw [take_at 0 l hlt', Int.toNat_natCast, List.set_append_right _ _ (by simp; omega), show l.length - i = (l.length - (i + 1)) + 1 by omega, List.replicate_succ]
   simp [Nat.min_eq_left (Nat.le_of_lt hlt')]
  rw [← e]; exact ho2
 ·refine retK (K := K) (v' := v) h3 (hk v H1 ?_ hn hle1)
  rw [List.take_of_length_le (by omega), show l.length - i = 0 by omega] at ho1
  simpa using ho1
theorem C.laws_eqInt64S {a b : Value} {l m : List Int} {H : Hp} {K : Value → Hp → Prop} (ha : Sl eI H a l) (hb : Sl eI H b m) (hl : l.length ≤ 9223372036854775807) (hk : K (.bool (decide (l = m))) H) :
    HT prg I.laws_eqInt64S [a, b].toArray H K := by
 refine R.laws_eqInt64S ?_
 unfold F.laws_eqInt64S jn; dsimp only
 rw [ha.len, hb.len, ob_some, ob_some, vInt_neq, ob_some]
 refine cnd_d (fun hne => ?_) (fun heq => ?_)
 ·rw [decide_eq_false] at hk
  ·exact hk
  ·rintro rfl; exact hne rfl
 ·have hlen : l.length = m.length := by omega
  refine ⟨fun n σ H1 => ∃ i : Nat, n = l.length - i ∧ i ≤ l.length ∧ H1 = H ∧ σ 0 = a ∧ σ 1 = b ∧ σ 5 = .int .i64 i ∧ l.take i = m.take i,
   ⟨_, 0, rfl, by omega, rfl, rfl, rfl, rfl, by simp⟩, ?_⟩
  rintro n σ H1 ⟨i, rfl, hi', rfl, h0, h1, h5, hall⟩
  simp only [h0, h1, h5, ha.len, vInt_lss, ob_some]
  refine cnd_d (fun hlt => ?_) (fun hge => ?_)
  ·have hlt' : i < l.length := by omega
   rw [ha.ix (by omega) hlt, ob_some, ha.ld 0 (by omega) hlt, ob_some, hb.ix (by omega) (by omega), ob_some, hb.ld 0 (by omega) (by omega), ob_some, vInt_neq, ob_some]
   refine cnd_d (fun hne => ?_) (fun heq => ?_)
   ·refine retK (K := K) (v' := .bool false) rfl ?_
    rw [decide_eq_false] at hk
    ·exact hk
    ·rintro rfl; exact hne rfl
   ·rw [vInt_add (by omega) (by omega), ob_some]
    refine nxt (l.length - (i + 1)) (by omega) ⟨i + 1, rfl, by omega, rfl, h0, h1, rfl, ?_⟩
    rw [take_at 0 l hlt', take_at 0 m (by omega), hall, Decidable.not_not.mp heq]
  ·refine retK (K := K) (v' := .bool true) rfl ?_
   rw [List.take_of_length_le (by omega), List.take_of_length_le (by omega)] at hall
   rw [decide_eq_true hall] at hk
   exact hk
end Go.Proofs.Ythmdmbbdjbhcoaa
/- Lists of truths: copies, and what is alike; lengths that are paid for. -/
namespace Go.Proofs.Ythmdmbbdjbhcoaa
open HL
set_option maxRecDepth 100000
end Go.Proofs.Ythmdmbbdjbhcoaa
/- Fields: which are valid, which are plain, and what lies where, round and round. -/
namespace Go.Proofs.Ythmdmbbdjbhcoaa
open HL
set_option maxRecDepth 100000
def sidesF (r c : Int) : Prop := (1 ≤ r ∧ r ≤ 24) ∧ (1 ≤ c ∧ c ≤ 24)
instance (r c : Int) : Decidable (sidesF r c) := by unfold sidesF; infer_instance
theorem sidesF_mul {r c : Int} (h : sidesF r c) : 1 ≤ r * c ∧ r * c ≤ 576 := by
  obtain ⟨⟨h1, h2⟩, h3, h4⟩ := h
  have a := Int.mul_le_mul h2 h4 (by omega) (by omega)
  have b := Int.mul_le_mul h1 h3 (by omega) (by omega)
  omega
/-- A field whose cells are from 0 to n. -/
def fieldN (n r c : Int) (l : List Int) : Prop := sidesF r c ∧ (l.length : Int) = r * c ∧ ∀ x ∈ l, 0 ≤ x ∧ x ≤ n
instance (n r c : Int) (l : List Int) : Decidable (fieldN n r c l) := by unfold fieldN; infer_instance
theorem vInt_mulF (a b : Int) : vInt .mul (.int .i64 a) (.int .i64 b) = some (.int .i64 (IntKind.i64.wrap (a * b))) := by simp only [vInt, if_true]
theorem C.impl_isSide {r : Int} {H : Hp} {K : Value → Hp → Prop} (hk : K (.bool (decide (1 ≤ r ∧ r ≤ 24))) H) : HT prg I.impl_isSide [.int .i64 r].toArray H K := R.impl_isSide (C.impl_within hk)
theorem C.impl_ValidField {vc : Value} {r c : Int} {l : List Int} {H : Hp} {K : Value → Hp → Prop} (hc : Sl eI H vc l)
    (k1 : l.length ≤ 9223372036854775807) (hk : ∀ H', Le H H' → K (.bool (decide (fieldN 9 r c l))) H') : HT prg I.impl_ValidField [.agg #[.int .i64 r, .int .i64 c, vc]].toArray H K := by
 refine R.impl_ValidField ?_
 unfold F.impl_ValidField
 refine nw_i (fun p H1 hp np le1 => ?_)
 replace hk := hk H1 le1
 replace hc := hc.le le1
 simp only [hp.fa, hp.ld 0 rfl, hp.ld 1 rfl, vInt_mulF, ob_some]
 refine C.impl_isSide ?_
 by_cases c1 : 1 ≤ r ∧ r ≤ 24
 ·simp only [decide_eq_true c1, hp.ld 1 rfl, EV]
  refine C.impl_isSide ?_
  by_cases c2 : 1 ≤ c ∧ c ≤ 24
  ·have hs : sidesF r c := ⟨c1, c2⟩
   have hm := sidesF_mul hs
   simp only [decide_eq_true c2, hp.ld 2 rfl, wrap64 (show -9223372036854775808 ≤ r * c by omega) (show r * c < 9223372036854775808 by omega), EV]
   refine C.impl_areMany hc k1 ?_
   exact kQ (K := K) hk ⟨fun h => ⟨⟨by have := h.2.1; omega, by have := h.2.1; omega⟩, h.2.2⟩, fun h => ⟨hs, by omega, h.2⟩⟩
  ·simp only [decide_eq_false c2, EV]; exact kF (K := K) hk (fun h => c2 h.1.2)
 ·simp only [decide_eq_false c1, EV]; exact kF (K := K) hk (fun h => c1 h.1.1)
theorem C.impl_isPlain {vc : Value} {r c : Int} {l : List Int} {H : Hp} {K : Value → Hp → Prop} (hc : Sl eI H vc l)
    (k1 : l.length ≤ 9223372036854775807) (hk : ∀ H', Le H H' → K (.bool (decide (fieldN 1 r c l))) H') : HT prg I.impl_isPlain [.agg #[.int .i64 r, .int .i64 c, vc]].toArray H K := by
 refine R.impl_isPlain ?_
 unfold F.impl_isPlain
 refine nw_i (fun p H1 hp np le1 => ?_)
 refine ob_i (hp.ldn rfl) ?_
 refine C.impl_ValidField (hc.le le1) k1 (fun H2 le2 => ?_)
 replace hk := hk H2 (le1.trans le2)
 replace hc := hc.le (le1.trans le2)
 replace hp := hp.le le2
 by_cases c1 : fieldN 9 r c l
 ·simp only [decide_eq_true c1, hp.fa, hp.ld 2 rfl, EV]
  refine C.impl_areWithin hc k1 ?_
  exact kQ (K := K) hk ⟨fun h => h.2.2, fun h => ⟨c1.1, c1.2.1, h⟩⟩
 ·simp only [decide_eq_false c1, EV]; exact kF (K := K) hk (fun h => c1 ⟨h.1, h.2.1, fun x hx => by have := h.2.2 x hx; omega⟩)
/-- A place, round and round. -/
def roundF (r c i k : Int) : Int := i % r * c + k % c
theorem C.impl_Field_at {vc : Value} {r c i k : Int} {l : List Int} {H : Hp} {K : Value → Hp → Prop} (hc : Sl eI H vc l) (h0 : 0 ≤ i * c) (h1 : i * c ≤ 1000000) (h2 : 0 ≤ i * c + k) (h3 : i * c + k < l.length) (h4 : l.length ≤ 1000000)
    (hk : ∀ H', Le H H' → K (.int .i64 (at_ 0 l (i * c + k))) H') : HT prg I.impl_Field_at [.agg #[.int .i64 r, .int .i64 c, vc], .int .i64 i, .int .i64 k].toArray H K := by
 refine R.impl_Field_at ?_
 unfold F.impl_Field_at
 refine nw_i (fun p H1 hp np le1 => ?_)
 simp only [hp.fa, hp.ld 1 rfl, hp.ld 2 rfl, ob_some]
 rw [vInt_mul (by omega) (by omega), ob_some, vInt_add (by omega) (by omega), ob_some, (hc.le le1).ix h2 h3, ob_some, (hc.le le1).ld 0 h2 h3, ob_some]
 exact hk _ le1
end Go.Proofs.Ythmdmbbdjbhcoaa
/- Rules for the walks that a program writes. -/
namespace Go.Proofs.Ythmdmbbdjbhcoaa.HL
theorem ob_nd {p : Prop} [Decidable p] {K : Value → Prop} (h1 : p → K (.bool false)) (h2 : ¬ p → K (.bool true)) : ob (vUn .not (.bool (decide p))) K := by
  rw [vUn_not, ob_some]
  by_cases c : p
  · rw [decide_eq_true c]; exact h1 c
  · rw [decide_eq_false c]; exact h2 c
theorem vInt_quoN {a b : Int} (ha : 0 ≤ a) (ha' : a < 9223372036854775808) (hb : 0 < b) : vInt .quo (.int .i64 a) (.int .i64 b) = some (.int .i64 (a / b)) := by
  rw [vInt_quo hb (by omega) ha', Int.tdiv_eq_ediv_of_nonneg ha]
theorem vInt_remN {a b : Int} (ha : 0 ≤ a) (hb : 0 < b) : vInt .rem (.int .i64 a) (.int .i64 b) = some (.int .i64 (a % b)) := by
  rw [vInt_rem (by omega), Int.tmod_eq_emod_of_nonneg ha]
theorem Apart.ap2 {H : Hp} {x u u' : Value} (hx : ∀ b, bk x = some b → ∃ o, H b = some o) (ha : Apart x u) (hb : ∀ b, bk u' = some b → bk u = some b ∨ H b = none) : Apart x u' := fun b h1 h2 => by
  rcases hb b h2 with h | h
  · exact ha b h1 h
  · obtain ⟨o, ho⟩ := hx b h1; rw [h] at ho; simp at ho
theorem Nw.ap2 {H0 H : Hp} {u u' : Value} (hn : Nw H0 u) (hl : Le H0 H) (hb : ∀ b, bk u' = some b → bk u = some b ∨ H b = none) : Nw H0 u' := fun b h => by
  rcases hb b h with h1 | h1
  · exact hn b h1
  · cases ho : H0 b with
    | none => rfl
    | some o => rw [hl b o ho] at h1; simp at h1
theorem apd_any {α : Type} {enc : α → Value} {z : Value} {b : Nat} {e : TypeId} {u t : Value} {l m : List α} {H : Hp} {K : Value → Hp → Prop} (o : Own enc H u l) (ot : Sl enc H t m) (ho : ∀ x, oneCell (enc x) = true) (hb : b ≤ 64) (hl : l.length + m.length ≤ 68719476736)
    (hk : ∀ u' H', Own enc H' u' (l ++ m) → Off u H H' → (∀ b, bk u' = some b → bk u = some b ∨ H b = none) → K u' H') : apd 1 b #[z] e u t H K := by
  refine o.apd ot ho (by omega) (fun c hc => ?_) hk
  have := nsc_le hc
  exact Nat.le_trans (Nat.mul_le_mul this hb) (by omega)
end Go.Proofs.Ythmdmbbdjbhcoaa.HL
/- Fields in slices: one of them. -/
namespace Go.Proofs.Ythmdmbbdjbhcoaa
open HL
/-- A field as it lies in cells. -/
structure Fv where
  r : Int
  c : Int
  v : Value
def fv0 : Fv := ⟨0, 0, .slice none 0 0⟩
def encFv (x : Fv) : List Value := [.int .i64 x.r, .int .i64 x.c, x.v]
theorem encFv_n (x : Fv) : (encFv x).length = 3 := rfl
end Go.Proofs.Ythmdmbbdjbhcoaa
/- Slices of fields whose cells are owned. -/
namespace Go.Proofs.Ythmdmbbdjbhcoaa
open HL
set_option maxRecDepth 100000
namespace HL
/-- What has blocks: a slice or a pointer, or a set of blocks. -/
class Bks (α : Type) where inb : α → Nat → Prop
instance instBV : Bks Value := ⟨fun v b => bk v = some b⟩
def Rg : Type := Nat → Prop
instance instBR : Bks Rg := ⟨fun S b => S b⟩
def Apt {α β : Type} [Bks α] [Bks β] (u : α) (v : β) : Prop := ∀ b, Bks.inb u b → ¬ Bks.inb v b
def Kn {α : Type} [Bks α] (H : Hp) (u : α) : Prop := ∀ b, Bks.inb u b → ∃ o, H b = some o
def Nws (H : Hp) (S : Rg) : Prop := ∀ b, S b → H b = none
def OffS (S : Rg) (H H' : Hp) : Prop := ∀ b o, H b = some o → ¬ S b → H' b = some o
section
variable {α β : Type} [Bks α] [Bks β] {u : α} {v : β} {H H' : Hp} {S : Rg}
theorem Apt.symm (h : Apt u v) : Apt v u := fun b h1 h2 => h b h2 h1
theorem Apt.of_nws (hu : Kn H u) (hn : Nws H S) : Apt u S := fun b h1 h2 => by
  obtain ⟨o, ho⟩ := hu b h1
  rw [hn b h2] at ho; exact absurd ho (by simp)
theorem Apt.of_nw {w : Value} (hu : Kn H u) (hn : Nw H w) : Apt u w := fun b h1 h2 => by
  obtain ⟨o, ho⟩ := hu b h1
  rw [hn b h2] at ho; exact absurd ho (by simp)
theorem Nws.le (h : Nws H' S) (hl : Le H H') : Nws H S := fun b hb => by
  cases ho : H b with
  | none => rfl
  | some o => have := hl b o ho; rw [h b hb] at this; exact absurd this (by simp)
theorem OffS.le {H0 : Hp} (h : OffS S H H') (hl : Le H0 H) (hn : Nws H0 S) : Le H0 H' := fun b o hb =>
  h b o (hl b o hb) (fun e => by rw [hn b e] at hb; exact absurd hb (by simp))
theorem OffS.trans {A B C : Hp} (h : OffS S A B) (h' : OffS S B C) : OffS S A C := fun b o hb hv => h' b o (h b o hb hv) hv
/-- What has no block of a set stays. -/
theorem OffS.off {w x : Value} (h : OffS S H H') (ha : Apt w S) : ∀ b o, bk w = some b → H b = some o → H' b = some o := fun b o hb ho => h b o ho (ha b hb)
end
theorem Own.offS {α : Type} {enc : α → Value} {H H' : Hp} {u : Value} {l : List α} {S : Rg} (h : Own enc H u l) (ho : OffS S H H') (ha : Apt u S) : Own enc H' u l := by
  obtain ⟨a, c, rfl, hc, hr⟩ := h
  refine ⟨a, c, rfl, hc, fun h0 => ?_⟩
  obtain ⟨b, off, cs, e, rfl, hb, hs, hcs⟩ := hr h0
  refine ⟨b, off, cs, e, rfl, ho b _ hb (ha b ?_), hs, hcs⟩
  show bk _ = some b
  simp only [bk]
  rw [if_neg (by omega)]
theorem Cel.offS {H H' : Hp} {p : Value} {cs : List Value} {S : Rg} (h : Cel H p cs) (ho : OffS S H H') (ha : Apt p S) : Cel H' p cs := by
  obtain ⟨r, e, rfl, hr⟩ := h
  exact ⟨r, e, rfl, ho r _ hr (ha r rfl)⟩
theorem Ro.offS {α : Type} {enc : α → Value} {H H' : Hp} {u : Value} {l : List α} {S : Rg} (h : Ro enc H u l) (ho : OffS S H H') (ha : Apt u S) : Ro enc H' u l := by
  obtain ⟨⟨a, c, rfl, hc, hr⟩, hk⟩ := h
  have key : ∀ b, bk (.slice a l.length c) = some b → H' b = H b := fun b hb => by
    obtain ⟨o, hbo⟩ := hk b hb
    rw [ho b o hbo (ha b hb), hbo]
  refine ⟨⟨a, c, rfl, hc, fun i hi => ?_⟩, fun b hb => by rw [key b hb]; exact hk b hb⟩
  obtain ⟨ad, rfl, hh⟩ := hr i hi
  refine ⟨ad, rfl, ?_⟩
  have e : H' (ad.add i).block = H (ad.add i).block := by
    rw [add_block]
    exact key _ (by simp only [bk]; rw [if_neg (by omega)])
  unfold Hp.cell? at hh ⊢
  rw [e]; exact hh
/-- A field. -/
structure FdL where
  r : Int
  c : Int
  l : List Int
  deriving DecidableEq
def fd0 : FdL := ⟨0, 0, []⟩
def RelF (P : Value → List Int → Prop) : List Fv → List FdL → Prop
  | [], [] => True
  | x :: L, f :: fs => (x.r = f.r ∧ x.c = f.c ∧ P x.v f.l) ∧ RelF P L fs
  | _, _ => False
section
variable {P Q : Value → List Int → Prop}
theorem RelF.len : ∀ {L : List Fv} {fs : List FdL}, RelF P L fs → L.length = fs.length
  | [], [], _ => rfl
  | x :: L, f :: fs, h => congrArg (· + 1) (RelF.len h.2)
  | [], _ :: _, h => h.elim
  | _ :: _, [], h => h.elim
theorem RelF.imp : ∀ {L : List Fv} {fs : List FdL}, RelF P L fs → (∀ x ∈ L, ∀ l, P x.v l → Q x.v l) → RelF Q L fs
  | [], [], _, _ => trivial
  | x :: L, f :: fs, h, g => ⟨⟨h.1.1, h.1.2.1, g x (by simp) _ h.1.2.2⟩, RelF.imp h.2 (fun y hy => g y (by simp [hy]))⟩
  | [], _ :: _, h, _ => h.elim
  | _ :: _, [], h, _ => h.elim
theorem RelF.app : ∀ {L M : List Fv} {fs gs : List FdL}, RelF P L fs → RelF P M gs → RelF P (L ++ M) (fs ++ gs)
  | [], M, [], gs, _, h => h
  | x :: L, M, f :: fs, gs, h1, h2 => ⟨h1.1, RelF.app h1.2 h2⟩
  | [], _, _ :: _, _, h, _ => h.elim
  | _ :: _, _, [], _, h, _ => h.elim
theorem RelF.get : ∀ {L : List Fv} {fs : List FdL} {i : Nat}, RelF P L fs → i < L.length → (at_ fv0 L (i : Int)).r = (at_ fd0 fs (i : Int)).r ∧ (at_ fv0 L (i : Int)).c = (at_ fd0 fs (i : Int)).c ∧ P (at_ fv0 L (i : Int)).v (at_ fd0 fs (i : Int)).l
  | [], [], i, _, hi => absurd hi (by simp)
  | x :: L, f :: fs, 0, h, _ => h.1
  | x :: L, f :: fs, i + 1, h, hi => RelF.get (L := L) (fs := fs) (i := i) h.2 (by simpa using hi)
  | [], _ :: _, _, h, _ => h.elim
  | _ :: _, [], _, h, _ => h.elim
end
/-- A slice of fields, whose blocks and those of its fields are owned. -/
def Fam (H : Hp) (v : Value) (S : Rg) (fs : List FdL) : Prop :=
  ∃ L, OwnE 3 encFv H v L ∧ RelF (Own eI H) L fs ∧ (∀ x ∈ L, Apart v x.v) ∧ L.Pairwise (fun x y => Apart x.v y.v) ∧ ∀ b, S b ↔ (bk v = some b ∨ ∃ x ∈ L, bk x.v = some b)
theorem RelF.mem {P : Value → List Int → Prop} : ∀ {L : List Fv} {fs : List FdL}, RelF P L fs → ∀ x ∈ L, ∃ l, P x.v l
  | [], [], _ => by simp
  | x :: L, f :: fs, h => fun y hy => by
    rcases List.mem_cons.mp hy with rfl | hy
    · exact ⟨_, h.1.2.2⟩
    · exact RelF.mem h.2 y hy
  | [], _ :: _, h => h.elim
  | _ :: _, [], h => h.elim
section
variable {H H' : Hp} {v : Value} {S : Rg} {fs : List FdL}
theorem Fam.known (h : Fam H v S fs) : Kn H S := by
  obtain ⟨L, h1, h2, h3, h4, h5⟩ := h
  intro b hb
  rcases (h5 b).mp hb with e | ⟨x, hx, e⟩
  · exact h1.known b e
  · obtain ⟨l, hl⟩ := h2.mem x hx
    exact hl.known b e
theorem Fam.le (h : Fam H v S fs) (hl : Le H H') : Fam H' v S fs := by
  obtain ⟨L, h1, h2, h3, h4, h5⟩ := h
  exact ⟨L, h1.le hl, h2.imp (fun _ _ _ h => h.le hl), h3, h4, h5⟩
theorem Fam.off {w : Value} (h : Fam H v S fs) (ho : Off w H H') (ha : Apt S w) : Fam H' v S fs := by
  obtain ⟨L, h1, h2, h3, h4, h5⟩ := h
  exact ⟨L, h1.off ho (fun b hb => ha b ((h5 b).mpr (.inl hb))), h2.imp (fun x hx _ h => h.off ho (fun b hb => ha b ((h5 b).mpr (.inr ⟨x, hx, hb⟩)))), h3, h4, h5⟩
theorem OwnE.offS {n : Nat} {α : Type} {enc : α → List Value} {u : Value} {l : List α} (h : OwnE n enc H u l) (ho : OffS S H H') (ha : Apt u S) : OwnE n enc H' u l := by
  obtain ⟨a, c, rfl, hc, hr⟩ := h
  refine ⟨a, c, rfl, hc, fun h0 => ?_⟩
  obtain ⟨b, off, cs, e, rfl, hb, hs, hcs⟩ := hr h0
  refine ⟨b, off, cs, e, rfl, ho b _ hb (ha b ?_), hs, hcs⟩
  show bk _ = some b
  simp only [bk]
  rw [if_neg (by omega)]
theorem Fam.offS {T : Rg} (h : Fam H v S fs) (ho : OffS T H H') (ha : Apt S T) : Fam H' v S fs := by
  obtain ⟨L, h1, h2, h3, h4, h5⟩ := h
  exact ⟨L, h1.offS ho (fun b hb => ha b ((h5 b).mpr (.inl hb))), h2.imp (fun x hx _ h => h.offS ho (fun b hb => ha b ((h5 b).mpr (.inr ⟨x, hx, hb⟩)))), h3, h4, h5⟩
theorem Fam.len (h : Fam H v S fs) : vLenSl v = some (.int .i64 fs.length) := by
  obtain ⟨L, h1, h2, _⟩ := h
  rw [h1.len, h2.len]
theorem Fam.one (h : Fam H v S fs) : oneCell v = true := by obtain ⟨L, h1, _⟩ := h; exact h1.one
theorem Fam.cells (h : Fam H v S fs) : v.cells = #[v] := by obtain ⟨L, h1, _⟩ := h; exact h1.cells
theorem Fam.isSl (h : Fam H v S fs) : ∃ a n c, v = .slice a n c := by obtain ⟨L, h1, _⟩ := h; exact h1.isSl
theorem Fam.cast {gs : List FdL} (e : fs = gs) (h : Fam H v S fs) : Fam H v S gs := e ▸ h
theorem Fam.nil_of (a : Option Addr) : Fam H (.slice a 0 0) (fun _ => False) [] :=
  ⟨[], OwnE.nil_of a, trivial, by simp, List.Pairwise.nil, fun b => ⟨fun h => h.elim, fun h => by
    rcases h with h | ⟨x, hx, _⟩
    · cases a <;> simp [bk] at h
    · simp at hx⟩⟩
/-- One more. -/
theorem Fam.push {bytes : Nat} {z : Array Value} {e : TypeId} {w x : Value} {r c : Int} {l : List Int} {K : Value → Hp → Prop} (h : Fam H v S fs) (hz : z.size = 3) (hw : SlE 3 encFv H w [⟨r, c, x⟩]) (hx : Own eI H x l) (ax : Apt x S)
    (hb : bytes ≤ 64) (hl : fs.length < 1000000)
    (hk : ∀ v' S' H', Fam H' v' S' (fs ++ [⟨r, c, l⟩]) → OffS S H H' → (∀ b, S' b → S b ∨ bk x = some b ∨ H b = none) → (∀ b, bk x = some b → S' b) → Own eI H' x l → K v' H') : apd 3 bytes z e v w H K := by
  obtain ⟨L, h1, h2, h3, h4, h5⟩ := h
  have hlen := h2.len
  have axv : Apart x v := fun b hb hv => ax b hb ((h5 b).mpr (.inl hv))
  refine OwnE.apd h1 encFv_n hz hw (fun y hy t ht => ?_) hb (by simp; omega) (fun v' H' ov off hb' => ?_)
  · simp only [List.mem_singleton] at hy
    subst hy
    simp only [encFv, List.mem_cons, List.not_mem_nil, or_false] at ht
    rcases ht with rfl | rfl | rfl
    · rfl
    · rfl
    · exact hx.one
  have ax' : ∀ y ∈ L, Apart v' y.v := fun y hy b e1 e2 => by
    rcases hb' b e1 with e3 | e3
    · exact h3 y hy b e3 e2
    · obtain ⟨m, hm⟩ := h2.mem y hy
      obtain ⟨o, ho⟩ := hm.known b e2
      rw [e3] at ho; simp at ho
  have axx : Apart v' x := fun b e1 e2 => by
    rcases hb' b e1 with e3 | e3
    · exact axv b e2 e3
    · obtain ⟨o, ho⟩ := hx.known b e2
      rw [e3] at ho; simp at ho
  have hx' := hx.off off axv
  refine hk v' (fun b => bk v' = some b ∨ ∃ y ∈ L ++ [⟨r, c, x⟩], bk y.v = some b) H' ⟨_, ov, ?_, ?_, ?_, fun b => Iff.rfl⟩ (fun b o hbo hn => off b o hbo (fun e => hn ((h5 b).mpr (.inl e)))) ?_ (fun b hb => .inr ⟨⟨r, c, x⟩, by simp, hb⟩) hx'
  · exact (h2.imp (fun y hy m h => h.off off (h3 y hy).symm)).app ⟨⟨rfl, rfl, hx'⟩, trivial⟩
  · intro y hy
    rcases List.mem_append.mp hy with hy | hy
    · exact ax' y hy
    · simp only [List.mem_singleton] at hy; subst hy; exact axx
  · rw [List.pairwise_append]
    refine ⟨h4, List.pairwise_singleton _ _, fun y hy t ht => ?_⟩
    simp only [List.mem_singleton] at ht
    subst ht
    exact fun b e1 e2 => ax b e2 ((h5 b).mpr (.inr ⟨y, hy, e1⟩))
  · intro b hb
    rcases hb with hb | ⟨y, hy, e⟩
    · rcases hb' b hb with e3 | e3
      · exact .inl ((h5 b).mpr (.inl e3))
      · exact .inr (.inr e3)
    · rcases List.mem_append.mp hy with hy | hy
      · exact .inl ((h5 b).mpr (.inr ⟨y, hy, e⟩))
      · simp only [List.mem_singleton] at hy; subst hy; exact .inr (.inl e)
/-- Apart from what was pushed to. -/
theorem Apt.push {α : Type} [Bks α] {u : α} {S' : Rg} {x : Value} (hu : Kn H u) (hS : Apt u S) (hx : Apt u x) (hb : ∀ b, S' b → S b ∨ bk x = some b ∨ H b = none) : Apt u S' := fun b h1 h2 => by
  rcases hb b h2 with h | h | h
  · exact hS b h1 h
  · exact hx b h1 h
  · obtain ⟨o, ho⟩ := hu b h1
    rw [h] at ho; simp at ho
theorem Nws.push {H0 : Hp} {S' : Rg} {x : Value} (hl : Le H0 H) (hS : Nws H0 S) (hx : Nw H0 x) (hb : ∀ b, S' b → S b ∨ bk x = some b ∨ H b = none) : Nws H0 S' := fun b h2 => by
  rcases hb b h2 with h | h | h
  · exact hS b h
  · exact hx b h
  · cases ho : H0 b with
    | none => rfl
    | some o => rw [hl b o ho] at h; simp at h
end
end HL
end Go.Proofs.Ythmdmbbdjbhcoaa
/- Maps from texts to numbers, as owned things. -/
namespace Go.Proofs.Ythmdmbbdjbhcoaa.HL
set_option maxRecDepth 100000
/-- The entries of a map, told as texts and numbers. -/
def entsS (es : List MapEntry) : List (ByteArray × Int) → Prop := fun ms => es.map (fun e => (e.key, e.val)) = ms.map (fun m => (Value.string m.1, Value.int .i64 m.2))
theorem entsS_keys {es : List MapEntry} {ms : List (ByteArray × Int)} (h : entsS es ms) : keysS es := fun e he => by
  have : (e.key, e.val) ∈ es.map (fun e => (e.key, e.val)) := List.mem_map.mpr ⟨e, he, rfl⟩
  rw [h] at this
  obtain ⟨m, _, hm⟩ := List.mem_map.mp this
  exact ⟨m.1, by injection hm with h1 _; exact h1.symm⟩
/-- A map that is owned. -/
def Mp (H : Hp) (p : Value) (S : Rg) (ms : List (ByteArray × Int)) : Prop := ∃ r es c, p = .map (some r) ∧ H r = some (.map es c) ∧ entsS es.toList ms ∧ ∀ b, S b ↔ b = r
section
variable {H H' : Hp} {p : Value} {S : Rg} {ms : List (ByteArray × Int)}
theorem Mp.known (h : Mp H p S ms) : Kn H S := by
  obtain ⟨r, es, c, _, hr, _, hS⟩ := h
  intro b hb
  rw [(hS b).mp hb]; exact ⟨_, hr⟩
theorem Mp.le (h : Mp H p S ms) (hl : Le H H') : Mp H' p S ms := by
  obtain ⟨r, es, c, e, hr, he, hS⟩ := h
  exact ⟨r, es, c, e, hl r _ hr, he, hS⟩
theorem Mp.off {w : Value} (h : Mp H p S ms) (ho : Off w H H') (ha : Apt S w) : Mp H' p S ms := by
  obtain ⟨r, es, c, e, hr, he, hS⟩ := h
  exact ⟨r, es, c, e, ho r _ hr (ha r ((hS r).mpr rfl)), he, hS⟩
theorem Mp.offS {T : Rg} (h : Mp H p S ms) (ho : OffS T H H') (ha : Apt S T) : Mp H' p S ms := by
  obtain ⟨r, es, c, e, hr, he, hS⟩ := h
  exact ⟨r, es, c, e, ho r _ hr (ha r ((hS r).mpr rfl)), he, hS⟩
/-- A new map. -/
theorem Mp.new_ {K : Value → Hp → Prop} (hk : ∀ p S H', Mp H' p S [] → Nws H S → Le H H' → K p H') : opEv.nwM H K := fun r hr =>
  hk (.map (some r)) (fun b => b = r) (H.put r (.map #[] 0)) ⟨r, #[], 0, rfl, Hp.put_same _ _ _, rfl, fun _ => Iff.rfl⟩ (fun b hb => by have : b = r := hb; rw [this]; exact hr) (Le.put _ hr)
/-- What the map has at a text. -/
def mget (k : ByteArray) : List (ByteArray × Int) → Option Int
  | [] => none
  | m :: ms => bif k == m.1 then some m.2 else mget k ms
theorem findS_mget (k : ByteArray) : ∀ (es : List MapEntry) (ms : List (ByteArray × Int)) (i : Nat), entsS es ms → (findS k es i).map Prod.snd = (mget k ms).map (Value.int .i64)
  | [], [], _, _ => rfl
  | e :: es, m :: ms, i, h => by
    simp only [entsS, List.map_cons, List.cons.injEq, Prod.mk.injEq] at h
    obtain ⟨⟨h1, h2⟩, h3⟩ := h
    have ih := findS_mget k es ms (i + 1) h3
    unfold findS mget
    rw [h1]
    simp only [keyIs]
    cases k == m.1
    · exact ih
    · simp [h2]
  | [], _ :: _, _, h => by simp [entsS] at h
  | _ :: _, [], _, h => by simp [entsS] at h
theorem Mp.look {P : Program} {t kt et : TypeId} {k : ByteArray} {K : Value → Hp → Prop} (h : Mp H p S ms) (ht : P.underlying t = some (.map kt et)) (hk : P.underlying kt = some .string) (hz : zeroO P et = some (.int .i64 0))
    (hK : K (.tuple #[.int .i64 ((mget k ms).getD 0), .bool (mget k ms).isSome]) H) : hp P (Instr.lookup t p (.string k) true) H K := by
  obtain ⟨r, es, c, rfl, hr, he, hS⟩ := h
  refine hp_lookup ht hk hz hr (entsS_keys he) ?_
  have e := findS_mget k es.toList ms 0 he
  cases hf : findS k es.toList 0 with
  | none =>
    rw [hf] at e
    cases hm : mget k ms with
    | none => rw [hm] at hK; exact hK
    | some v => rw [hm] at e; simp at e
  | some x =>
    rw [hf] at e
    cases hm : mget k ms with
    | none => rw [hm] at e; simp at e
    | some v =>
      rw [hm] at hK e
      simp only [Option.map_some, Option.some.injEq] at e
      simp only [e]; exact hK
/-- One more entry. -/
theorem Mp.add {P : Program} {t kt et : TypeId} {k : ByteArray} {x : Int} {K : Unit → Hp → Prop} (h : Mp H p S ms) (ht : P.underlying t = some (.map kt et)) (hk : P.underlying kt = some .string) (hn : mget k ms = none)
    (hK : ∀ H', Mp H' p S (ms ++ [(k, x)]) → OffS S H H' → K () H') : hp P (Instr.mapUpdate t p (.string k) (.int .i64 x)) H K := by
  obtain ⟨r, es, c, rfl, hr, he, hS⟩ := h
  have e := findS_mget k es.toList ms 0 he
  have hf : findS k es.toList 0 = none := by
    rw [hn] at e
    cases h : findS k es.toList 0 with
    | none => rfl
    | some x => rw [h] at e; simp at e
  refine hp_mapUpdate_new ht hk hr (entsS_keys he) hf ?_
  refine hK _ ⟨r, _, c + 1, rfl, Hp.put_same _ _ _, ?_, hS⟩ (fun b o hb hn => ?_)
  · unfold entsS at he ⊢
    rw [Array.toList_push, List.map_append, he, List.map_append]; rfl
  · rw [Hp.put_ne _ _ (by rintro rfl; exact hn ((hS _).mpr rfl))]; exact hb
end
end Go.Proofs.Ythmdmbbdjbhcoaa.HL
/- Bytes in slices. -/
namespace Go.Proofs.Ythmdmbbdjbhcoaa.HL
end Go.Proofs.Ythmdmbbdjbhcoaa.HL
/- Bytes told as texts. -/
namespace Go.Proofs.Ythmdmbbdjbhcoaa.HL
set_option maxRecDepth 100000
theorem beq_bytes (a b : ByteArray) : (a == b) = decide (a = b) := by
  have e : (a == b) = (a.data == b.data) := rfl
  rw [e, Bool.eq_iff_iff, decide_eq_true_eq, beq_iff_eq]
  exact ⟨fun h => ByteArray.ext h, fun h => congrArg ByteArray.data h⟩
end Go.Proofs.Ythmdmbbdjbhcoaa.HL
/- Lanes that are switched: what the program's and the reference's functions come to. -/
namespace Go.Proofs.Ythmdmbbdjbhcoaa
open HL
set_option maxRecDepth 100000
/-- May the car at i leave lane a for lane b? -/
def chg (a b : List Int) (i : Int) : Prop :=
  0 ≤ at_ 0 a i ∧ 0 ≤ at_ 0 a ((i + 1).tmod a.length) ∧ at_ 0 b i < 0 ∧ at_ 0 b ((i + 1).tmod a.length) < 0 ∧ at_ 0 b ((i + a.length - 1).tmod a.length) < 0
instance (a b : List Int) (i : Int) : Decidable (chg a b i) := by unfold chg; infer_instance
/-- Numbers from k on. -/
def ramp (k : Int) (n : Nat) : List Int := (List.range n).map fun (i : Nat) => k + i
theorem ramp_length (k : Int) (n : Nat) : (ramp k n).length = n := by simp [ramp]
theorem ramp_succ (k : Int) (n : Nat) : ramp k (n + 1) = ramp k n ++ [k + n] := by simp [ramp, List.range_succ]
theorem C.laws_markInt64S {a : Value} {l : List Int} {k : Int} {H : Hp} {K : Value → Hp → Prop} (ha : Own eI H a l) (hl : l.length ≤ 4611686018427387904) (hk0 : 0 ≤ k) (hk1 : k ≤ 4611686018427387903)
    (hk : ∀ H', Own eI H' a (ramp k l.length) → Off a H H' → K (.int .i64 (k + l.length)) H') : HT prg I.laws_markInt64S [a, .int .i64 k].toArray H K := by
 refine R.laws_markInt64S ?_
 unfold F.laws_markInt64S jn; dsimp only
 refine ⟨fun n σ H1 => ∃ i : Nat, n = l.length - i ∧ i ≤ l.length ∧ σ 0 = a ∧ σ 1 = .int .i64 (k + i) ∧ σ 5 = .int .i64 i ∧ Own eI H1 a (ramp k i ++ l.drop i) ∧ Off a H H1,
  ⟨_, 0, rfl, by omega, rfl, by show Value.int .i64 k = _; simp, rfl, by simpa [ramp] using ha, fun b o hb _ => hb⟩, ?_⟩
 rintro n σ H1 ⟨i, rfl, hi', h0, h1, h5, ho, hoff⟩
 have hlen : (ramp k i ++ l.drop i).length = l.length := by simp [ramp_length]; omega
 have hlen2 := ho.len
 rw [hlen] at hlen2
 simp only [h0, h1, h5, hlen2, vInt_lss, ob_some]
 refine cnd_d (fun hlt => ?_) (fun hge => ?_)
 ·have hlt' : i < l.length := by omega
  rw [ho.sl.ix (by omega) (by rw [hlen]; omega), ob_some]
  refine ho.st (x := k + i) (by omega) (by rw [hlen]; omega) rfl rfl (fun H2 ho2 hoff2 => ?_)
  rw [vInt_add (by omega) (by omega), ob_some, vInt_add (by omega) (by omega), ob_some]
  refine nxt (l.length - (i + 1)) (by omega) ⟨i + 1, rfl, by omega, h0, ?_, rfl, ?_, hoff.trans hoff2⟩
  ·show Value.int .i64 (k + i + 1) = _
   congr 1; omega
  ·have e : (ramp k i ++ l.drop i).set (i : Int).toNat (k + i) = ramp k (i + 1) ++ l.drop (i + 1) := by
    rw [ramp_succ, Int.toNat_natCast, List.set_append_right _ _ (by rw [ramp_length]; exact Nat.le_refl _), ramp_length, Nat.sub_self, List.drop_eq_getElem_cons hlt']
    simp only [List.set_cons_zero, List.append_assoc, List.singleton_append]
   rw [← e]; exact ho2
 ·have : i = l.length := by omega
  subst this
  refine retK (K := K) h1 (hk H1 ?_ hoff)
  simpa using ho
theorem at_ramp (k : Int) (n i : Nat) (h : i < n) : at_ 0 (ramp k n) (i : Int) = k + i := by
  rw [at_eq 0 _ (by rw [ramp_length]; exact h)]; simp [ramp]
theorem C.laws_heldInt64S {a : Value} {k : Int} {m : Nat} {H : Hp} {K : Value → Hp → Prop} (ha : Sl eI H a (ramp k m)) (hl : m ≤ 4611686018427387904) (hk0 : 0 ≤ k) (hk1 : k ≤ 4611686018427387903)
    (hk : K (.int .i64 (k + m)) H) : HT prg I.laws_heldInt64S [a, .int .i64 k].toArray H K := by
 refine R.laws_heldInt64S ?_
 unfold F.laws_heldInt64S jn; dsimp only
 have hlen := ha.len
 rw [ramp_length] at hlen
 refine ⟨fun n σ H1 => ∃ i : Nat, n = m - i ∧ i ≤ m ∧ H1 = H ∧ σ 0 = a ∧ σ 1 = .int .i64 (k + i) ∧ σ 5 = .int .i64 i,
  ⟨_, 0, rfl, by omega, rfl, rfl, by show Value.int .i64 k = _; simp, rfl⟩, ?_⟩
 rintro n σ H1 ⟨i, rfl, hi', rfl, h0, h1, h5⟩
 simp only [h0, h1, h5, hlen, vInt_lss, ob_some]
 refine cnd_d (fun hlt => ?_) (fun hge => ?_)
 ·have hlt' : i < m := by omega
  rw [ha.ix (by omega) (by rw [ramp_length]; omega), ob_some, ha.ld 0 (by omega) (by rw [ramp_length]; omega), ob_some, at_ramp k m i hlt', vInt_neq, ob_some]
  refine cnd_d (fun hne => absurd rfl hne) (fun _ => ?_)
  rw [vInt_add (by omega) (by omega), ob_some, vInt_add (by omega) (by omega), ob_some]
  refine nxt (m - (i + 1)) (by omega) ⟨i + 1, rfl, by omega, rfl, h0, ?_, rfl⟩
  show Value.int .i64 (k + i + 1) = _
  congr 1; omega
 ·have : i = m := by omega
  subst this
  exact retK (K := K) h1 hk
def okSw (l m : List Int) : Prop := isLane l ∧ isLane m ∧ l.length = m.length
instance (l m : List Int) : Decidable (okSw l m) := by unfold okSw; infer_instance
end Go.Proofs.Ythmdmbbdjbhcoaa
/- What the small functions of structs come to: copies, sizes, what is alike. -/
namespace Go.Proofs.Ythmdmbbdjbhcoaa
open HL
set_option maxRecDepth 100000
theorem C.laws_eqField {xa : Int} {xb : Int} {xc : Value} {sxc : List Int} {yc : Value} {H : Hp} {K : Value → Hp → Prop} (hxc0 : Sl eI H xc sxc) (hyc0 : Sl eI H yc sxc) (msxc : (sxc).length ≤ 9223372036854775807)
    (hk : ∀ H', Le H H' → K (.bool true) H') : HT prg I.laws_eqField [(.agg #[(.int .i64 (xa)), (.int .i64 (xb)), xc]), (.agg #[(.int .i64 (xa)), (.int .i64 (xb)), yc])].toArray H K := by
 have lE := Le.refl H
 have hxc := hxc0
 have hyc := hyc0
 refine R.laws_eqField ?_
 unfold F.laws_eqField
 refine nw_i (fun p1 H2 op1 nn3 le4 => ?_)
 replace hxc := hxc.le le4
 replace hyc := hyc.le le4
 replace lE := lE.trans le4
 replace op1 : Cel H2 p1 [(.int .i64 (xa)), (.int .i64 (xb)), xc] := op1
 refine nw_i (fun p5 H6 op5 nn7 le8 => ?_)
 replace op1 := op1.le le8
 replace hxc := hxc.le le8
 replace hyc := hyc.le le8
 replace lE := lE.trans le8
 replace op5 : Cel H6 p5 [(.int .i64 (xa)), (.int .i64 (xb)), yc] := op5
 refine ob_i (op1.fa 0) ?_
 refine ob_i (op1.ld 0 rfl) ?_
 refine ob_i (op5.fa 0) ?_
 refine ob_i (op5.ld 0 rfl) ?_
 refine ob_i (vInt_neq_same _ _) ?_
 refine cnd_f1 ?_
 refine ob_i (op1.fa 1) ?_
 refine ob_i (op1.ld 1 rfl) ?_
 refine ob_i (op5.fa 1) ?_
 refine ob_i (op5.ld 1 rfl) ?_
 refine ob_i (vInt_neq_same _ _) ?_
 refine cnd_f1 ?_
 refine ob_i (op1.fa 2) ?_
 refine ob_i (op1.ld 2 rfl) ?_
 refine ob_i (op5.fa 2) ?_
 refine ob_i (op5.ld 2 rfl) ?_
 refine C.laws_eqInt64S hxc hyc (by omega) ?_
 rw [decide_eq_true rfl]
 refine ob_i (a := .bool false) rfl ?_
 refine cnd_f1 ?_
 exact hk _ lE
end Go.Proofs.Ythmdmbbdjbhcoaa
/- Slices of fields that are compared, marked and held. -/
namespace Go.Proofs.Ythmdmbbdjbhcoaa
open HL
set_option maxRecDepth 100000
namespace HL
theorem at_get {α : Type} (d : α) {l : List α} {i : Nat} (h : i < l.length) : at_ d l (i : Int) = l[i] := by
  unfold at_; rw [List.getD_eq_getElem?_getD, Int.toNat_natCast, List.getElem?_eq_getElem h]; rfl
/-- A new row of elements. -/
theorem bSE_i {α : Type} {enc : α → List Value} {n len : Nat} {z : Array Value} {e : TypeId} {parts : List (Nat × Value)} {l : List α} {H : Hp} {K : Value → Hp → Prop} (h1 : len * n ≤ 1000000) (hl : l.length = len) (hn : ∀ x, (enc x).length = n)
    (hf : Instr.fill (fun i => some (i * n, n)) (if len * n = 0 then #[] else zrow z (len * n)) parts = some (l.flatMap enc).toArray) (hk : ∀ v H', OwnE n enc H' v l → Nw H v → Le H H' → K v H') : bS n len z e parts H K := by
  refine ⟨by omega, ?_⟩
  rw [hf]
  intro r hr
  subst hl
  have fl := flat_len hn l
  refine hk _ _ ⟨some ⟨r, 0, none⟩, l.length, rfl, Nat.le_refl _, fun _ => ⟨r, 0, _, e, rfl, Hp.put_same _ _ _, by simp only [List.size_toArray]; omega, fun i hi => by simp []⟩⟩ ?_ (Le.put _ hr)
  intro b hb
  simp only [bk] at hb
  split at hb
  · simp at hb
  · simp only [Option.some.injEq] at hb; subst hb; exact hr
/-- Fields that are read. -/
def FamS (H : Hp) (v : Value) (fs : List FdL) : Prop := ∃ L, SlE 3 encFv H v L ∧ RelF (Sl eI H) L fs
section
variable {H H' : Hp} {v : Value} {S : Rg} {fs : List FdL}
theorem Fam.sl (h : Fam H v S fs) : FamS H v fs := by
  obtain ⟨L, h1, h2, _⟩ := h
  exact ⟨L, h1.sl encFv_n, h2.imp (fun _ _ _ h => h.sl)⟩
theorem FamS.le (h : FamS H v fs) (hl : Le H H') : FamS H' v fs := by
  obtain ⟨L, h1, h2⟩ := h
  exact ⟨L, h1.le hl, h2.imp (fun _ _ _ h => h.le hl)⟩
theorem FamS.len (h : FamS H v fs) : vLenSl v = some (.int .i64 fs.length) := by
  obtain ⟨L, h1, h2⟩ := h
  rw [h1.len, h2.len]
theorem FamS.one (h : FamS H v fs) : oneCell v = true := by obtain ⟨L, h1, _⟩ := h; exact h1.one
theorem FamS.cells (h : FamS H v fs) : v.cells = #[v] := by obtain ⟨L, h1, _⟩ := h; exact h1.cells
theorem FamS.cast {gs : List FdL} (e : fs = gs) (h : FamS H v fs) : FamS H v gs := e ▸ h
theorem FamS.ix (h : FamS H v fs) {i : Int} (h0 : 0 ≤ i) (h1 : i < fs.length) : vIx 3 v (.int .i64 i) = some (ptrE 3 v i) := by
  obtain ⟨L, g1, g2⟩ := h
  exact g1.ix encFv_n (by omega) h0 (by rw [g2.len]; exact h1)
theorem FamS.at_ (h : FamS H v fs) {i : Nat} (h1 : i < fs.length) : ∃ x, vLoadN 3 (ptrE 3 v i) H = some (.agg #[.int .i64 (at_ fd0 fs (i : Int)).r, .int .i64 (at_ fd0 fs (i : Int)).c, x]) ∧ Sl eI H x (at_ fd0 fs (i : Int)).l ∧
    vLoad (fp (ptrE 3 v i) 0) H = some (.int .i64 (at_ fd0 fs (i : Int)).r) ∧ vLoad (fp (ptrE 3 v i) 1) H = some (.int .i64 (at_ fd0 fs (i : Int)).c) ∧ vLoad (fp (ptrE 3 v i) 2) H = some x ∧ vFa 0 (ptrE 3 v i) = some (fp (ptrE 3 v i) 0) ∧ vFa 1 (ptrE 3 v i) = some (fp (ptrE 3 v i) 1) ∧ vFa 2 (ptrE 3 v i) = some (fp (ptrE 3 v i) 2) := by
  obtain ⟨L, g1, g2⟩ := h
  have hi : (i : Int) < L.length := by rw [g2.len]; omega
  obtain ⟨e1, e2, e3⟩ := g2.get (i := i) (by omega)
  have e := g1.ldn encFv_n (by omega) fv0 (i := (i : Int)) (by omega) hi
  refine ⟨_, ?_, e3, ?_, ?_, ?_, g1.fa encFv_n (by omega) (by omega) hi 0, g1.fa encFv_n (by omega) (by omega) hi 1, g1.fa encFv_n (by omega) (by omega) hi 2⟩
  · rw [e]; simp only [encFv, e1, e2]
  · rw [g1.ld encFv_n (by omega) fv0 (by omega) hi (k := 0) (by omega) rfl, e1]
  · rw [g1.ld encFv_n (by omega) fv0 (by omega) hi (k := 1) (by omega) rfl, e2]
  · exact g1.ld encFv_n (by omega) fv0 (by omega) hi (k := 2) (by omega) rfl
theorem RelF.set : ∀ {P : Value → List Int → Prop} {L : List Fv} {fs : List FdL} {i : Nat} {x : Fv} {f : FdL}, RelF P L fs → (x.r = f.r ∧ x.c = f.c ∧ P x.v f.l) → RelF P (L.set i x) (fs.set i f)
  | P, [], [], i, x, f, _, _ => trivial
  | P, y :: L, g :: fs, 0, x, f, h, hx => ⟨hx, h.2⟩
  | P, y :: L, g :: fs, i + 1, x, f, h, hx => ⟨h.1, RelF.set h.2 hx⟩
  | _, [], _ :: _, _, _, _, h, _ => h.elim
  | _, _ :: _, [], _, _, _, h, _ => h.elim
theorem RelF.gete {P : Value → List Int → Prop} {L : List Fv} {fs : List FdL} {i : Nat} (h : RelF P L fs) (h1 : i < L.length) (h2 : i < fs.length) : L[i].r = fs[i].r ∧ L[i].c = fs[i].c ∧ P L[i].v fs[i].l := by
  have := h.get h1
  rw [at_get fv0 h1, at_get fd0 h2] at this
  exact this
/-- The cells of one of them, and what is put back. -/
theorem Fam.cut (h : Fam H v S fs) {i : Nat} (hi : i < fs.length) : ∃ x, vLoad (fp (ptrE 3 v (i : Int)) 2) H = some x ∧ Own eI H x fs[i].l ∧ ∀ H' m, Own eI H' x m → Off x H H' → Fam H' v S (fs.set i ⟨fs[i].r, fs[i].c, m⟩) ∧ OffS S H H' := by
  obtain ⟨L, h1, h2, h3, h4, h5⟩ := h
  have hi' : i < L.length := by rw [h2.len]; exact hi
  have g := h2.gete hi' hi
  have hx : ∀ b, bk L[i].v = some b → S b := fun b hb => (h5 b).mpr (.inr ⟨_, List.getElem_mem hi', hb⟩)
  refine ⟨L[i].v, ?_, g.2.2, fun H' m om off => ⟨⟨L, h1.off off (h3 _ (List.getElem_mem hi')), ?_, h3, h4, h5⟩, fun b o hb hn => off b o hb (fun e => hn (hx b e))⟩⟩
  · have := (h1.sl encFv_n).ld encFv_n (by omega) fv0 (i := (i : Int)) (by omega) (by omega) (k := 2) (by omega) (x := L[i].v) (by rw [at_get fv0 hi']; rfl)
    exact this
  · have key : ∀ (L : List Fv) (fs : List FdL) (i : Nat) (hi : i < L.length) (hi2 : i < fs.length), RelF (Own eI H) L fs → L.Pairwise (fun x y => Apart x.v y.v) → Off L[i].v H H' → Own eI H' L[i].v m → RelF (Own eI H') L (fs.set i ⟨fs[i].r, fs[i].c, m⟩) := by
      intro L
      induction L with
      | nil => intro fs i hi; simp at hi
      | cons x L ih =>
        intro fs i hi hi2 hr hp hoff ho
        cases fs with
        | nil => simp at hi2
        | cons f fs =>
          rw [List.pairwise_cons] at hp
          cases i with
          | zero =>
            refine ⟨⟨hr.1.1, hr.1.2.1, ho⟩, hr.2.imp (fun y hy _ h => h.off hoff (fun b e1 e2 => hp.1 y hy b e2 e1))⟩
          | succ i =>
            have hi3 : i < L.length := by simpa using hi
            refine ⟨⟨hr.1.1, hr.1.2.1, hr.1.2.2.off hoff (hp.1 _ (List.getElem_mem hi3))⟩, ih fs i hi3 (by simpa using hi2) hr.2 hp.2 hoff ho⟩
    exact key L fs i hi' hi h2 h4 off om
end
end HL
end Go.Proofs.Ythmdmbbdjbhcoaa
/- Pointers that are only read; elements of a family; texts as keys. -/
namespace Go.Proofs.Ythmdmbbdjbhcoaa
open HL
set_option maxRecDepth 100000
namespace HL
/-- A pointer to cells that are read. -/
def CelR (H : Hp) (p : Value) (cs : List Value) : Prop := ∃ a, p = .pointer (some a) ∧ (∃ o, H a.block = some o) ∧ ∀ i (h : i < cs.length), H.cell? (a.add i) = some cs[i]
section
variable {H H' : Hp} {p u v : Value} {cs : List Value}
theorem Cel.r (h : Cel H p cs) : CelR H p cs := by
  obtain ⟨r, e, rfl, hr⟩ := h
  refine ⟨_, rfl, ⟨_, hr⟩, fun i hi => ?_⟩
  simp only [add_none, Hp.cell?, hr, Nat.zero_add]
  simp [hi]
theorem CelR.known (h : CelR H p cs) : ∀ b, bk p = some b → ∃ o, H b = some o := by
  obtain ⟨a, rfl, ho, _⟩ := h
  intro b hb
  simp only [bk, Option.some.injEq] at hb
  subst hb; exact ho
theorem CelR.le (h : CelR H p cs) (hl : Le H H') : CelR H' p cs := by
  obtain ⟨a, rfl, ⟨o, ho⟩, hc⟩ := h
  exact ⟨a, rfl, ⟨o, hl _ _ ho⟩, fun i hi => hl.cell (hc i hi)⟩
theorem CelR.keep (h : CelR H p cs) (hk : ∀ b, bk p = some b → H' b = H b) : CelR H' p cs := by
  obtain ⟨a, rfl, ⟨o, ho⟩, hc⟩ := h
  have e := hk a.block rfl
  refine ⟨a, rfl, ⟨o, by rw [e]; exact ho⟩, fun i hi => ?_⟩
  have := hc i hi
  unfold Hp.cell? at this ⊢
  rw [add_block] at this ⊢
  rw [e]; exact this
theorem CelR.off (h : CelR H p cs) (ho : Off v H H') (ha : Apart p v) : CelR H' p cs := h.keep fun b hb => by
  obtain ⟨o, hh⟩ := h.known b hb
  rw [ho b o hh (ha b hb), hh]
theorem CelR.offS {S : Rg} (h : CelR H p cs) (ho : OffS S H H') (ha : Apt p S) : CelR H' p cs := h.keep fun b hb => by
  obtain ⟨o, hh⟩ := h.known b hb
  rw [ho b o hh (ha b hb), hh]
theorem CelR.apart (h : CelR H p cs) (hn : Nw H v) : Apart p v := Apart.of_nw h.known hn
theorem CelR.fa (h : CelR H p cs) (k : Nat) : vFa k p = some (fp p k) := by
  obtain ⟨a, rfl, _⟩ := h; rfl
theorem CelR.nilC (h : CelR H p cs) : vNilC p = some p := by
  obtain ⟨a, rfl, _⟩ := h; rfl
theorem CelR.ld (h : CelR H p cs) (k : Nat) {x : Value} (hx : cs[k]? = some x) : vLoad (fp p k) H = some x := by
  obtain ⟨a, rfl, _, hc⟩ := h
  obtain ⟨hk, rfl⟩ := List.getElem?_eq_some_iff.mp hx
  exact hc k hk
theorem CelR.ld0 (h : CelR H p cs) {x : Value} (hx : cs[0]? = some x) : vLoad p H = some x := by
  obtain ⟨a, rfl, _, hc⟩ := h
  obtain ⟨hk, rfl⟩ := List.getElem?_eq_some_iff.mp hx
  have := hc 0 hk
  rw [show a.add 0 = a by unfold Addr.add; simp] at this
  exact this
theorem CelR.ldn (h : CelR H p cs) {n : Nat} (hn : cs.length = n) : vLoadN n p H = some (.agg cs.toArray) := by
  obtain ⟨a, rfl, _, hc⟩ := h
  simp only [vLoadN]
  rw [rd_cells (enc := id) a n 0 cs hn (fun i hi => by rw [Nat.zero_add]; exact hc i hi)]
  simp
theorem CelR.cast {ds : List Value} (e : cs = ds) (h : CelR H p cs) : CelR H p ds := e ▸ h
end
theorem OwnE.blk {n : Nat} {α : Type} {enc : α → List Value} {H : Hp} {v : Value} {l : List α} (h : OwnE n enc H v l) (hn : ∀ x, (enc x).length = n) (n0 : 0 < n) {i : Nat} (hi : i < l.length) :
    ∃ a c, v = .slice (some a) l.length c ∧ (∃ o, H a.block = some o) ∧ bk v = some a.block ∧ ∀ j (hj : j < n), H.cell? (a.add (i * n + j)) = (enc l[i])[j]? := by
  have hs := h.sl hn
  obtain ⟨a, c, e, hc⟩ := hs.base hn n0 hi
  have hb : bk v = some a.block := by
    obtain ⟨a', c', e', h1, _⟩ := h
    rw [e] at e'
    simp only [Value.slice.injEq] at e'
    rw [e]
    simp only [bk]
    rw [if_neg (by omega)]
  exact ⟨a, c, e, h.known _ hb, hb, hc⟩
/-- An element of a family, by its pointer. -/
theorem Fam.el {H : Hp} {v : Value} {S : Rg} {fs : List FdL} {f : FdL} (h : Fam H v S fs) {i : Int} (i0 : 0 ≤ i) (i1 : i < fs.length) (e : at_ fd0 fs i = f) :
    ∃ P x, vIx 3 v (.int .i64 i) = some P ∧ CelR H P [.int .i64 f.r, .int .i64 f.c, x] ∧ Ro eI H x f.l ∧ (∀ b, bk P = some b → S b) ∧ (∀ b, bk x = some b → S b) := by
  obtain ⟨L, h1, h2, h3, h4, h5⟩ := h
  obtain ⟨n, rfl⟩ := Int.eq_ofNat_of_zero_le i0
  have hl := h2.len
  have hn : n < L.length := by omega
  obtain ⟨g1, g2, g3⟩ := h2.get hn
  obtain ⟨a, c, rfl, ho, hb, hc⟩ := h1.blk encFv_n (by omega) hn
  have hx := at_get fv0 hn
  subst e
  refine ⟨.pointer (some (a.add (n * 3))), (at_ fv0 L (n : Int)).v, ?_, ⟨_, rfl, by rw [add_block]; exact ho, fun j hj => ?_⟩, g3.ro, fun b hb2 => ?_, fun b hb2 => ?_⟩
  · simp only [vIx]
    rw [if_pos (by omega)]; rfl
  · simp only [List.length_cons, List.length_nil] at hj
    rw [add_add, hc j (by omega), ← hx]
    simp only [encFv]
    have hj3 : j = 0 ∨ j = 1 ∨ j = 2 := by omega
    rcases hj3 with rfl | rfl | rfl
    · simp [g1]
    · simp [g2]
    · simp
  · simp only [bk, add_block, Option.some.injEq] at hb2
    subst hb2
    exact (h5 _).mpr (.inl hb)
  · exact (h5 _).mpr (.inr ⟨_, at_mem fv0 L (by omega) (by omega), hb2⟩)
theorem Apt.ap2 {α : Type} [Bks α] {z : α} {u u' : Value} {H : Hp} (hz : Kn H z) (ha : Apt z u) (hb : ∀ b, bk u' = some b → bk u = some b ∨ H b = none) : Apt z u' := fun b h1 h2 => by
  rcases hb b h2 with h | h
  · exact ha b h1 h
  · obtain ⟨o, ho⟩ := hz b h1
    rw [h] at ho; simp at ho
def mapSI (P : Program) (t : TypeId) : Bool := match P.underlying t with
  | some (.map kt et) => (match P.underlying kt, zeroO P et with | some .string, some (.int .i64 0) => true | _, _ => false)
  | _ => false
theorem mapSI_of {P : Program} {t : TypeId} (h : mapSI P t = true) : ∃ kt et, P.underlying t = some (.map kt et) ∧ P.underlying kt = some .string ∧ zeroO P et = some (.int .i64 0) := by
  unfold mapSI at h
  split at h
  · rename_i kt et he
    split at h
    · rename_i h1 h2; exact ⟨kt, et, he, h1, h2⟩
    · simp at h
  · simp at h
theorem Mp.look' {P : Program} {t : TypeId} {k : ByteArray} {H : Hp} {p : Value} {S : Rg} {ms : List (ByteArray × Int)} {K : Value → Hp → Prop} (h : Mp H p S ms) (ht : mapSI P t = true)
    (hK : K (.tuple #[.int .i64 ((mget k ms).getD 0), .bool (mget k ms).isSome]) H) : hp P (Instr.lookup t p (.string k) true) H K := by
  obtain ⟨kt, et, h1, h2, h3⟩ := mapSI_of ht
  exact h.look h1 h2 h3 hK
theorem Mp.add' {P : Program} {t : TypeId} {k : ByteArray} {x : Int} {H : Hp} {p : Value} {S : Rg} {ms : List (ByteArray × Int)} {K : Unit → Hp → Prop} (h : Mp H p S ms) (ht : mapSI P t = true) (hn : mget k ms = none)
    (hK : ∀ H', Mp H' p S (ms ++ [(k, x)]) → OffS S H H' → K () H') : hp P (Instr.mapUpdate t p (.string k) (.int .i64 x)) H K := by
  obtain ⟨kt, et, h1, h2, h3⟩ := mapSI_of ht
  exact h.add h1 h2 hn hK
theorem Mp.cast {H : Hp} {p : Value} {S : Rg} {ms ns : List (ByteArray × Int)} (e : ms = ns) (h : Mp H p S ms) : Mp H p S ns := e ▸ h
end HL
end Go.Proofs.Ythmdmbbdjbhcoaa
/- Sets of texts: maps from texts to true. -/
namespace Go.Proofs.Ythmdmbbdjbhcoaa.HL
set_option maxRecDepth 100000
def entsT (es : List MapEntry) (ks : List ByteArray) : Prop := es.map (fun e => (e.key, e.val)) = ks.map (fun k => (Value.string k, Value.bool true))
theorem entsT_keys {es : List MapEntry} {ks : List ByteArray} (h : entsT es ks) : keysS es := fun e he => by
  have : (e.key, e.val) ∈ es.map (fun e => (e.key, e.val)) := List.mem_map.mpr ⟨e, he, rfl⟩
  rw [h] at this
  obtain ⟨m, _, hm⟩ := List.mem_map.mp this
  exact ⟨m, by injection hm with h1 _; exact h1.symm⟩
/-- A set of texts that is owned. -/
def MpT (H : Hp) (p : Value) (S : Rg) (ks : List ByteArray) : Prop := ∃ r es c, p = .map (some r) ∧ H r = some (.map es c) ∧ entsT es.toList ks ∧ ∀ b, S b ↔ b = r
section
variable {H H' : Hp} {p : Value} {S : Rg} {ks : List ByteArray}
theorem MpT.known (h : MpT H p S ks) : Kn H S := by
  obtain ⟨r, es, c, _, hr, _, hS⟩ := h
  intro b hb
  rw [(hS b).mp hb]; exact ⟨_, hr⟩
theorem MpT.le (h : MpT H p S ks) (hl : Le H H') : MpT H' p S ks := by
  obtain ⟨r, es, c, e, hr, he, hS⟩ := h
  exact ⟨r, es, c, e, hl r _ hr, he, hS⟩
theorem MpT.off {w : Value} (h : MpT H p S ks) (ho : Off w H H') (ha : Apt S w) : MpT H' p S ks := by
  obtain ⟨r, es, c, e, hr, he, hS⟩ := h
  exact ⟨r, es, c, e, ho r _ hr (ha r ((hS r).mpr rfl)), he, hS⟩
theorem MpT.offS {T : Rg} (h : MpT H p S ks) (ho : OffS T H H') (ha : Apt S T) : MpT H' p S ks := by
  obtain ⟨r, es, c, e, hr, he, hS⟩ := h
  exact ⟨r, es, c, e, ho r _ hr (ha r ((hS r).mpr rfl)), he, hS⟩
theorem MpT.cast {ls : List ByteArray} (e : ks = ls) (h : MpT H p S ks) : MpT H p S ls := e ▸ h
theorem MpT.new_ {K : Value → Hp → Prop} (hk : ∀ p S H', MpT H' p S [] → Nws H S → Le H H' → K p H') : opEv.nwM H K := fun r hr =>
  hk (.map (some r)) (fun b => b = r) (H.put r (.map #[] 0)) ⟨r, #[], 0, rfl, Hp.put_same _ _ _, rfl, fun _ => Iff.rfl⟩ (fun b hb => by have : b = r := hb; rw [this]; exact hr) (Le.put _ hr)
theorem findS_T (k : ByteArray) : ∀ (es : List MapEntry) (ks : List ByteArray) (i : Nat), entsT es ks → (k ∈ ks → ∃ j, ∃ h : j < es.length, findS k es i = some (i + j, .bool true) ∧ es[j].key = .string k ∧ es[j].val = .bool true) ∧ (k ∉ ks → findS k es i = none)
  | [], [], _, _ => ⟨fun h => by simp at h, fun _ => rfl⟩
  | e :: es, m :: ks, i, h => by
    simp only [entsT, List.map_cons, List.cons.injEq, Prod.mk.injEq] at h
    obtain ⟨⟨h1, h2⟩, h3⟩ := h
    obtain ⟨a, b⟩ := findS_T k es ks (i + 1) h3
    unfold findS
    rw [h1]
    simp only [keyIs]
    by_cases hk : k = m
    · subst hk
      rw [beq_bytes, decide_eq_true rfl, cond_true]
      exact ⟨fun _ => ⟨0, by simp, by rw [h2]; rfl, h1, h2⟩, fun g => absurd List.mem_cons_self g⟩
    · rw [beq_bytes, decide_eq_false hk, cond_false]
      refine ⟨fun g => ?_, fun g => b (fun q => g (List.mem_cons_of_mem _ q))⟩
      rcases List.mem_cons.mp g with q | q
      · exact absurd q hk
      · obtain ⟨j, hj, g1, g2, g3⟩ := a q
        exact ⟨j + 1, by simpa using hj, by rw [g1]; congr 2; omega, g2, g3⟩
  | [], _ :: _, _, h => by simp [entsT] at h
  | _ :: _, [], _, h => by simp [entsT] at h
def mapST (P : Program) (t : TypeId) : Bool := match P.underlying t with
  | some (.map kt _) => (match P.underlying kt with | some .string => true | _ => false)
  | _ => false
theorem mapST_of {P : Program} {t : TypeId} (h : mapST P t = true) : ∃ kt et, P.underlying t = some (.map kt et) ∧ P.underlying kt = some .string := by
  unfold mapST at h
  split at h
  · rename_i kt et he
    split at h
    · rename_i h1; exact ⟨kt, et, he, h1⟩
    · simp at h
  · simp at h
/-- One more text, if it is not there. -/
theorem MpT.put {P : Program} {t : TypeId} {k : ByteArray} {ls : List ByteArray} {K : Unit → Hp → Prop} (h : MpT H p S ks) (ht : mapST P t = true) (hls : (k ∈ ks ∧ ls = ks) ∨ (k ∉ ks ∧ ls = ks ++ [k]))
    (hK : ∀ H', MpT H' p S ls → OffS S H H' → K () H') : hp P (Instr.mapUpdate t p (.string k) (.bool true)) H K := by
  obtain ⟨kt, et, h1, h2⟩ := mapST_of ht
  obtain ⟨r, es, c, rfl, hr, he, hS⟩ := h
  obtain ⟨ha, hb⟩ := findS_T k es.toList ks 0 he
  have off : ∀ o, OffS S H (H.put r o) := fun o b ob hb hn => by
    rw [Hp.put_ne _ _ (by rintro rfl; exact hn ((hS _).mpr rfl))]; exact hb
  rcases hls with ⟨hk, rfl⟩ | ⟨hk, rfl⟩
  · obtain ⟨j, hj, g1, g2, g3⟩ := ha hk
    unfold Instr.mapUpdate
    have e1 : val P (getObj r) H = some (.map es c) := by
      show val P (Sem.getObj r Sem.pure) H = _
      simp only [val, hr]
    refine hp_val_bind P _ _ H K _ (by rw [val_underlying, h1]) ?_
    refine hp_val_bind P _ _ H K _ e1 ?_
    refine hp_val_bind P _ _ H K _ (val_checkKey P _ 9999 kt k H h2) ?_
    refine hp_val_bind P _ _ H K _ (val_findKey P kt k es.toList H h2 (entsT_keys he)) ?_
    rw [g1]
    rw [Nat.zero_add]
    have hj' : j < es.size := by simpa using hj
    have ek : (es[j]?.map (fun e => e.key)).getD (.string k) = .string k := by
      rw [Array.getElem?_eq_getElem hj']
      simpa using g2
    simp only [ek]
    have est : val P (Instr.keyThatStays (.string k) (.string k)) H = some (.string k) := by
      unfold Instr.keyThatStays
      have e2 : Instr.sameBits 10000 (.string k) (.string k) = true := by
        show (k == k) = true
        rw [beq_bytes, decide_eq_true rfl]
      rw [if_pos e2, val_pure]
    refine hp_val_bind P _ _ H K _ est ?_
    show hp P (Sem.setObj r _ (Sem.pure ())) H K
    simp only [hp, hr]
    refine hK _ ⟨r, _, c, rfl, Hp.put_same _ _ _, ?_, hS⟩ (off _)
    unfold entsT at he ⊢
    rw [← he]
    apply List.ext_getElem?
    intro i
    simp only [List.getElem?_map, Array.getElem?_toList, Array.getElem?_modify]
    by_cases e : j = i
    · subst e
      rw [if_pos rfl, Array.getElem?_eq_getElem hj']
      simp only [Option.map_some]
      have g2' : es[j].key = .string k := by simpa using g2
      have g3' : es[j].val = .bool true := by simpa using g3
      rw [g2', g3']
    · rw [if_neg e]
  · refine hp_mapUpdate_new h1 h2 hr (entsT_keys he) (hb hk) ?_
    refine hK _ ⟨r, _, c + 1, rfl, Hp.put_same _ _ _, ?_, hS⟩ (off _)
    unfold entsT at he ⊢
    rw [Array.toList_push, List.map_append, he, List.map_append]; rfl
def isMap (P : Program) (t : TypeId) : Bool := match P.underlying t with | some (.map _ _) => true | _ => false
theorem MpT.len {P : Program} {t ty : TypeId} (h : MpT H p S ks) (ht : isMap P t = true) : val P (Builtin.len_ #[t] ty [p].toArray) H = some (.int .i64 ks.length) := by
  obtain ⟨r, es, c, rfl, hr, he, hS⟩ := h
  have hl : es.size = ks.length := by
    have := congrArg List.length he
    simpa using this
  unfold isMap at ht
  split at ht
  · rename_i kt et h1
    have e1 : val P (getObj r) H = some (.map es c) := by
      show val P (Sem.getObj r Sem.pure) H = _
      simp only [val, hr]
    have e2 : ([Value.map (some r)].toArray)[0]? = some (Value.map (some r)) := rfl
    have e3 : (#[t] : Array TypeId)[0]? = some t := rfl
    unfold Builtin.len_
    simp only [e2, e3]
    rw [val_bind', val_underlying, h1, Option.bind_some]
    simp only
    rw [val_bind', e1, Option.bind_some]
    simp only [val_pure, goInt, hl]
  · simp at ht
end
end Go.Proofs.Ythmdmbbdjbhcoaa.HL
/- Fields that are made by a function of rows and columns, and fields that grow. -/
namespace Go.Proofs.Ythmdmbbdjbhcoaa
open HL
set_option maxRecDepth 100000
theorem Apart.app {H : Hp} {x u u' : Value} (hx : ∀ b, bk x = some b → ∃ o, H b = some o) (ha : Apart x u) (hb : ∀ b, bk u' = some b → bk u = some b ∨ H b = none) : Apart x u' := fun b h1 h2 => by
  rcases hb b h2 with h | h
  · exact ha b h1 h
  · obtain ⟨o, ho⟩ := hx b h1; rw [h] at ho; simp at ho
theorem Nw.app {H0 H : Hp} {u u' : Value} (hn : Nw H0 u) (hl : Le H0 H) (hb : ∀ b, bk u' = some b → bk u = some b ∨ H b = none) : Nw H0 u' := fun b h => by
  rcases hb b h with h1 | h1
  · exact hn b h1
  · cases ho : H0 b with
    | none => rfl
    | some o => rw [hl b o ho] at h1; simp at h1
theorem apd_one {α : Type} {enc : α → Value} {z : Value} {b : Nat} {e : TypeId} {u t : Value} {x : α} {l : List α} {H : Hp} {K : Value → Hp → Prop} (o : Own enc H u l) (ot : Sl enc H t [x]) (ho : ∀ x, oneCell (enc x) = true) (hb : b ≤ 64) (hl : l.length ≤ 68719476736)
    (hk : ∀ u' H', Own enc H' u' (l ++ [x]) → Off u H H' → (∀ b, bk u' = some b → bk u = some b ∨ H b = none) → K u' H') : apd 1 b #[z] e u t H K := by
  refine o.apd ot ho (by simp; omega) (fun c hc => ?_) hk
  have := nsc_le hc
  simp only [List.length_singleton] at this ⊢
  exact Nat.le_trans (Nat.mul_le_mul this hb) (by omega)
theorem bS_i {α : Type} {enc : α → Value} {len : Nat} {z : Value} {e : TypeId} {parts : List (Nat × Value)} {l : List α} {H : Hp} {K : Value → Hp → Prop} (h1 : len ≤ 1000) (hl : l.length = len)
    (hf : Instr.fill (fun i => some (i * 1, 1)) (if len * 1 = 0 then #[] else zrow #[z] (len * 1)) parts = some (l.map enc).toArray) (hk : ∀ v H', Own enc H' v l → Nw H v → Le H H' → K v H') : bS 1 len #[z] e parts H K := by
  refine ⟨by omega, ?_⟩
  rw [hf]
  intro r hr
  subst hl
  refine hk _ _ ⟨some ⟨r, 0, none⟩, l.length, rfl, Nat.le_refl _, fun _ => ⟨r, 0, _, e, rfl, Hp.put_same _ _ _, by simp, fun i hi => by simp [hi]⟩⟩ ?_ (Le.put _ hr)
  intro b hb
  simp only [bk] at hb
  split at hb
  · simp at hb
  · simp only [Option.some.injEq] at hb; subst hb; exact hr
/-- A field's cells, row by row, by a function. -/
def mkL (c : Int) (g : Int → Int → Int) (n : Nat) : List Int := (List.range n).map fun (t : Nat) => g ((t : Int) / c) ((t : Int) % c)
theorem mkL_length (c : Int) (g : Int → Int → Int) (n : Nat) : (mkL c g n).length = n := by simp [mkL]
theorem mkL_succ (c : Int) (g : Int → Int → Int) (n : Nat) : mkL c g (n + 1) = mkL c g n ++ [g ((n : Int) / c) ((n : Int) % c)] := by simp [mkL, List.range_succ]
theorem divmod {c : Int} {i k : Int} (hc : 0 < c) (k0 : 0 ≤ k) (k1 : k < c) : (i * c + k) / c = i ∧ (i * c + k) % c = k := by
  constructor
  · rw [Int.add_comm, Int.add_mul_ediv_right _ _ (by omega), Int.ediv_eq_zero_of_lt k0 k1]; omega
  · rw [Int.add_comm, Int.add_mul_emod_self_right, Int.emod_eq_of_lt k0 k1]
theorem cast_ix {c : Int} {i k : Nat} (hc : 0 ≤ c) : ((i * c.toNat + k : Nat) : Int) = i * c + k := by rw [Int.natCast_add, Int.natCast_mul, Int.toNat_of_nonneg hc]
theorem C.impl_madeField {fv : Value} {rr cc : Int} {g : Int → Int → Int} {H : Hp} {K : Value → Hp → Prop} (r1 : 0 ≤ rr) (r2 : rr ≤ 1000) (c1 : 1 ≤ cc) (c2 : cc ≤ 1000)
    (hcl : ∀ H' (i k : Nat) (Z : Value → Hp → Prop), Le H H' → (i : Int) < rr → (k : Int) < cc → (∀ H'', Le H' H'' → Z (.int .i64 (g i k)) H'') → callV prg fv [.int .i64 i, .int .i64 k] H' Z)
    (hk : ∀ u H', Own eI H' u (mkL cc g (rr.toNat * cc.toNat)) → Nw H u → Le H H' → K (.agg #[.int .i64 rr, .int .i64 cc, u]) H') :
    HT prg I.impl_madeField [.int .i64 rr, .int .i64 cc, fv].toArray H K := by
 refine R.impl_madeField ?_
 unfold F.impl_madeField
 refine nw_i (fun q H1 oq nq le1 => ?_)
 replace oq : Cel H1 q [.int .i64 0, .int .i64 0, .slice none 0 0] := oq
 refine ob_i (a := .agg #[.int .i64 rr, .int .i64 cc, .slice none 0 0]) rfl ?_
 refine nw_i (fun s H2 os ns le2 => ?_)
 have aqs : Apart q s := oq.apart ns
 replace oq := oq.le le2
 have ns0 : Nw H s := ns.le le1
 have nq0 : Nw H q := nq
 refine os.stn (ws := [.int .i64 rr, .int .i64 cc, .slice none 0 0]) rfl rfl (by simp [oneCell]) (fun H3 os off3 => ?_)
 replace oq := oq.off off3 aqs
 have leB : Le H H3 := off3.le (le1.trans le2) ns0
 refine jn_i (fun σ' H' => σ' 6 = q ∧ σ' 7 = s ∧ Cel H' q [.int .i64 0, .int .i64 0, .slice none 0 0] ∧ Le H H' ∧ ∃ u, Cel H' s [.int .i64 rr, .int .i64 cc, u] ∧ Own eI H' u (mkL cc g (rr.toNat * cc.toNat)) ∧ Nw H u ∧ Apart q u) (fun σ' H' hP => ?_) (fun J7 hJ7 => ?_)
 ·obtain ⟨g6, g7, oq, le, u, os, ou, nu, aqu⟩ := hP
  rw [g6, g7]
  refine ob_i (os.ldn rfl) ?_
  refine oq.stn (ws := [.int .i64 rr, .int .i64 cc, u]) rfl rfl (oc1 rfl (oc1 rfl (oc1 ou.one oc0))) (fun H6 oq off6 => ?_)
  refine ob_i (oq.ldn rfl) ?_
  exact hk u H6 (ou.off off6 aqu.symm) nu (off6.le le nq0)
 refine ⟨fun n σ H4 => ∃ i : Nat, n = rr.toNat - i ∧ (i : Int) ≤ rr ∧ σ 1 = .int .i64 cc ∧ σ 2 = fv ∧ σ 6 = q ∧ σ 7 = s ∧ σ 13 = .int .i64 rr ∧ σ 14 = .int .i64 i ∧ Cel H4 q [.int .i64 0, .int .i64 0, .slice none 0 0] ∧ Le H H4 ∧
   ∃ u, Cel H4 s [.int .i64 rr, .int .i64 cc, u] ∧ Own eI H4 u (mkL cc g (i * cc.toNat)) ∧ Nw H u ∧ Apart q u ∧ Apart s u,
  ⟨_, 0, rfl, by omega, rfl, rfl, rfl, rfl, rfl, rfl, oq, leB, .slice none 0 0, os, by rw [Nat.zero_mul]; exact Own.nil_of none, fun b hb => by simp [bk] at hb, fun b _ hb => by simp [bk] at hb, fun b _ hb => by simp [bk] at hb⟩, ?_⟩
 rintro n σ H4 ⟨i, rfl, hiR, g1, g2, g6, g7, g13, g14, oq, le4, hu⟩
 simp only [g1, g13, g14, vInt_lss, ob_some]
 refine cnd_d (fun hlt => ?_) (fun hge => ?_)
 ·refine jn_i (fun σ' H' => σ' 1 = .int .i64 cc ∧ σ' 2 = fv ∧ σ' 6 = q ∧ σ' 7 = s ∧ σ' 13 = .int .i64 rr ∧ σ' 14 = .int .i64 i ∧ Cel H' q [.int .i64 0, .int .i64 0, .slice none 0 0] ∧ Le H H' ∧
    ∃ u, Cel H' s [.int .i64 rr, .int .i64 cc, u] ∧ Own eI H' u (mkL cc g ((i + 1) * cc.toNat)) ∧ Nw H u ∧ Apart q u ∧ Apart s u) (fun σ' H' hP => ?_) (fun J13 hJ13 => ?_)
  ·obtain ⟨z1, z2, z6, z7, z13, z14, zq, zle, zu⟩ := hP
   rw [z14, vInt_add (by omega) (by omega), ob_some]
   exact nxt (rr.toNat - (i + 1)) (by omega) ⟨i + 1, rfl, by omega, z1, z2, z6, z7, z13, rfl, zq, zle, zu⟩
  refine ⟨fun n σ H5 => ∃ k : Nat, n = cc.toNat - k ∧ (k : Int) ≤ cc ∧ σ 1 = .int .i64 cc ∧ σ 2 = fv ∧ σ 6 = q ∧ σ 7 = s ∧ σ 13 = .int .i64 rr ∧ σ 14 = .int .i64 i ∧ σ 8 = .int .i64 i ∧ σ 17 = .int .i64 cc ∧ σ 18 = .int .i64 k ∧ Cel H5 q [.int .i64 0, .int .i64 0, .slice none 0 0] ∧ Le H H5 ∧
    ∃ u, Cel H5 s [.int .i64 rr, .int .i64 cc, u] ∧ Own eI H5 u (mkL cc g (i * cc.toNat + k)) ∧ Nw H u ∧ Apart q u ∧ Apart s u,
   ⟨_, 0, rfl, by omega, g1, g2, g6, g7, g13, g14, rfl, rfl, rfl, oq, le4, hu⟩, ?_⟩
  rintro n σ H5 ⟨k, rfl, hkC, z1, z2, z6, z7, z13, z14, z8, z17, z18, zq, le5, u, zs, zu, nu, aqu, asu⟩
  simp only [z2, z7, z8, z17, z18, vInt_lss, ob_some]
  refine cnd_d (fun hkl => ?_) (fun hkg => ?_)
  ·simp only [zs.fa, zs.ld 2 rfl, ob_some]
   refine hcl H5 i k _ le5 hlt hkl (fun H6 le6 => ⟨le6, ?_⟩)
   refine bS_i (enc := eI) (l := [g i k]) (by omega) rfl (by kernel_rfl) (fun t H7 ot nt le7 => ?_)
   have le57 := le6.trans le7
   replace zq := zq.le le57
   replace zs := zs.le le57
   replace zu := zu.le le57
   have leB7 := le5.trans le57
   have hlen : (mkL cc g (i * cc.toNat + k)).length ≤ 68719476736 := by
    rw [mkL_length]
    have : i * cc.toNat ≤ 1000 * 1000 := Nat.mul_le_mul (by omega) (by omega)
    omega
   refine apd_one zu ot.sl (fun _ => rfl) (by omega) hlen (fun u' H8 ou' off8 hbk => ?_)
   have aqu' : Apart q u' := Apart.app zq.known aqu hbk
   have asu' : Apart s u' := Apart.app zs.known asu hbk
   have nu' : Nw H u' := Nw.app nu leB7 hbk
   replace zq := zq.off off8 aqu
   replace zs := zs.off off8 asu
   have leB8 : Le H H8 := off8.le leB7 nu
   refine zs.st (by simp) ou'.one ou'.cells (fun H9 os9 off9 => ?_)
   rw [vInt_add (by omega) (by omega), ob_some]
   refine nxt (cc.toNat - (k + 1)) (by omega) ⟨k + 1, rfl, by omega, z1, z2, z6, z7, z13, z14, z8, z17, rfl, zq.off off9 aqs, off9.le leB8 ns0, u', os9, ?_, nu', aqu', asu'⟩
   have hd := divmod (c := cc) (i := i) (k := k) (by omega) (by omega) hkl
   rw [← Nat.add_assoc, mkL_succ, cast_ix (by omega), hd.1, hd.2]
   exact ou'.off off9 asu'.symm
  ·have e : k = cc.toNat := by omega
   refine hJ13 _ _ ⟨z1, z2, z6, z7, z13, z14, zq, le5, u, zs, ?_, nu, aqu, asu⟩
   rw [Nat.add_mul, Nat.one_mul, ← e]; rw [← e] at zu; exact zu
 ·have e : i = rr.toNat := by omega
  subst e
  obtain ⟨u, os, ou, nu, aqu, asu⟩ := hu
  exact hJ7 _ _ ⟨g6, g7, oq, le4, u, os, ou, nu, aqu⟩
/-- A cell, or 0 beyond the border. -/
def flatF (r c : Int) (l : List Int) (i k : Int) : Int := if (0 ≤ i ∧ i ≤ r - 1) ∧ 0 ≤ k ∧ k ≤ c - 1 then at_ 0 l (i * c + k) else 0
end Go.Proofs.Ythmdmbbdjbhcoaa
/- Fields with a border of zeros: the program's and the reference's. -/
namespace Go.Proofs.Ythmdmbbdjbhcoaa
open HL
set_option maxRecDepth 100000
def groOk (r c : Int) (l : List Int) (b : Int) : Prop := fieldN 1 r c l ∧ (0 ≤ b ∧ b ≤ 24) ∧ (1 ≤ r + 2 * b ∧ r + 2 * b ≤ 24) ∧ (1 ≤ c + 2 * b ∧ c + 2 * b ≤ 24)
instance (r c : Int) (l : List Int) (b : Int) : Decidable (groOk r c l b) := by unfold groOk; infer_instance
theorem C.spec_l04New {rr cc : Int} {H : Hp} {K : Value → Hp → Prop} (r0 : 0 ≤ rr) (r1 : rr ≤ 24) (c0 : 0 ≤ cc) (c1 : cc ≤ 24)
    (hk : ∀ u H', Own eI H' u (List.replicate (rr.toNat * cc.toNat) 0) → Nw H u → Le H H' → K (.agg #[.int .i64 rr, .int .i64 cc, u]) H') : HT prg I.spec_l04New [.int .i64 rr, .int .i64 cc].toArray H K := by
 refine R.spec_l04New ?_
 unfold F.spec_l04New
 have m := Int.mul_le_mul r1 c1 c0 (by omega)
 have m0 := Int.mul_nonneg r0 c0
 refine nw_i (fun q H1 oq nq le1 => ?_)
 rw [vInt_mul (by omega) (by omega), ob_some]
 refine Own.mk_ (z := (0 : Int)) (by omega) (by omega) (by omega) (by omega) (fun u H2 ou nu le2 => ?_)
 have aqu : Apart q u := oq.apart nu
 replace oq := oq.le le2
 refine ob_i (a := .agg #[.int .i64 rr, .int .i64 cc, u]) (by obtain ⟨_, _, _, rfl⟩ := ou.isSl; rfl) ?_
 refine oq.stn (ws := [.int .i64 rr, .int .i64 cc, u]) rfl rfl (oc1 rfl (oc1 rfl (oc1 ou.one oc0))) (fun H3 oq off3 => ?_)
 refine ob_i (oq.ldn rfl) ?_
 rw [Int.toNat_mul r0 c0] at ou
 exact hk u H3 (ou.off off3 aqu.symm) (nu.le le1) (off3.le (le1.trans le2) nq)
end Go.Proofs.Ythmdmbbdjbhcoaa
/- The smallest part of a field with all cells of 1. -/
namespace Go.Proofs.Ythmdmbbdjbhcoaa
open HL
set_option maxRecDepth 100000
/-- Where the cells of 1 lie, of the first t cells: top, bottom, left, right. -/
def trStep (c : Int) (l : List Int) (s : Int × Int × Int × Int) (j : Nat) : Int × Int × Int × Int :=
  if at_ 0 l (j : Int) = 1 then (min s.1 ((j : Int) / c), max s.2.1 ((j : Int) / c), min s.2.2.1 ((j : Int) % c), max s.2.2.2 ((j : Int) % c)) else s
def trS (r c : Int) (l : List Int) (t : Nat) : Int × Int × Int × Int := (List.range t).foldl (trStep c l) (r, -1, c, -1)
/-- The smallest part: its sides, its cells, and where it begins. -/
def trm (r c : Int) (l : List Int) : Int × Int × Int × Int := trS r c l (r * c).toNat
def trimOk (r c : Int) (l : List Int) : Prop := fieldN 1 r c l ∧ 0 ≤ (trm r c l).2.1
instance (r c : Int) (l : List Int) : Decidable (trimOk r c l) := by unfold trimOk; infer_instance
end Go.Proofs.Ythmdmbbdjbhcoaa
/- Life on fields: what a step and many steps come to. -/
namespace Go.Proofs.Ythmdmbbdjbhcoaa
open HL
set_option maxRecDepth 100000
/-- Numbers that rise, the first n of them. -/
def cntU (l : List Int) (n : Nat) : Prop := ∀ j : Nat, j < n → 0 < j → at_ 0 l ((j : Int) - 1) < at_ 0 l (j : Int)
/-- Counts of neighbours. -/
def cntP (l : List Int) : Prop := (∀ x ∈ l, 0 ≤ x ∧ x ≤ 8) ∧ cntU l l.length
instance (l : List Int) (n : Nat) : Decidable (cntU l n) := by unfold cntU; infer_instance
instance (l : List Int) : Decidable (cntP l) := by unfold cntP; infer_instance
/-- Is a life valid? -/
def lifP (b s : List Int) : Prop := cntP b ∧ cntP s
instance (b s : List Int) : Decidable (lifP b s) := by unfold lifP; infer_instance
/-- Can a field live? -/
def canP (b s : List Int) (r c : Int) (l : List Int) : Prop := lifP b s ∧ fieldN 1 r c l
instance (b s : List Int) (r c : Int) (l : List Int) : Decidable (canP b s r c l) := by unfold canP; infer_instance
def sumF (f : Int → Int) : Nat → Int
  | 0 => 0
  | n + 1 => sumF f n + f n
/-- A cell, round and round, or 0 beyond the border. -/
def lkF (rnd : Bool) (r c : Int) (l : List Int) (i k : Int) : Int := if rnd then at_ 0 l (roundF r c i k) else flatF r c l i k
/-- The same, but 0 for one cell. -/
def skF (rnd : Bool) (r c : Int) (l : List Int) (i k a b : Int) : Int := if a = i ∧ b = k then 0 else lkF rnd r c l a b
/-- The neighbours of a cell that are 1. -/
def arF (rnd : Bool) (r c : Int) (l : List Int) (i k : Int) : Int := sumF (fun a => sumF (fun b => skF rnd r c l i k (i - 1 + a) (k - 1 + b)) 3) 3
/-- What a cell becomes. -/
def nxG (rnd : Bool) (b s : List Int) (r c : Int) (l : List Int) (i k : Int) : Int :=
  if at_ 0 l (i * c + k) = 0 then (if arF rnd r c l i k ∈ b then 1 else 0) else (if arF rnd r c l i k ∈ s then 1 else 0)
section
variable {rnd : Bool} {b s : List Int} {r c i k : Int} {l : List Int}
end
/-- The next field. -/
def nxL (rnd : Bool) (b s : List Int) (r c : Int) (l : List Int) : List Int := mkL c (nxG rnd b s r c l) (r.toNat * c.toNat)
/-- The field behind steps. -/
def rnL (rnd : Bool) (b s : List Int) (r c : Int) (l : List Int) : Nat → List Int
  | 0 => l
  | n + 1 => nxL rnd b s r c (rnL rnd b s r c l n)
/-- How many cells have a state. -/
def cntE (v : Int) (l : List Int) : Int := l.countP (· == v)
end Go.Proofs.Ythmdmbbdjbhcoaa
/- What is found first; counts ahead; shifted fields. -/
namespace Go.Proofs.Ythmdmbbdjbhcoaa
open HL
/-- The first number below N of which something holds, or -1. -/
def fstN (p : Nat → Prop) [DecidablePred p] : Nat → Int
  | 0 => -1
  | n + 1 => if 0 ≤ fstN p n then fstN p n else if p n then (n : Int) else -1
theorem fstN_none {p : Nat → Prop} [DecidablePred p] : ∀ {N : Nat}, (∀ t, t < N → ¬ p t) → fstN p N = -1
  | 0, _ => rfl
  | n + 1, h => by
    have ih := fstN_none (p := p) (N := n) (fun t ht => h t (by omega))
    simp only [fstN, ih]
    rw [if_neg (by omega), if_neg (h n (by omega))]
theorem fstN_at {p : Nat → Prop} [DecidablePred p] {t : Nat} (hp : p t) (h : ∀ s, s < t → ¬ p s) : ∀ {N : Nat}, t < N → fstN p N = (t : Int)
  | 0, ht => by omega
  | n + 1, ht => by
    by_cases e : t = n
    · subst e
      simp only [fstN, fstN_none h]
      rw [if_neg (by omega), if_pos hp]
    · have ih := fstN_at hp h (N := n) (by omega)
      simp only [fstN, ih]
      rw [if_pos (by omega)]
theorem fstN_lt {p : Nat → Prop} [DecidablePred p] : ∀ {N : Nat}, fstN p N < N ∧ -1 ≤ fstN p N
  | 0 => by simp [fstN]
  | n + 1 => by
    have ih := fstN_lt (p := p) (N := n)
    simp only [fstN]
    split
    · omega
    · split <;> omega
/-- A shifted field. -/
def shG (r c : Int) (l : List Int) (a b i k : Int) : Int := at_ 0 l (roundF r c (i - a) (k - b))
def shL (r c : Int) (l : List Int) (a b : Int) : List Int := mkL c (shG r c l a b) (r.toNat * c.toNat)
/-- A place of a shift: steps, rows and columns in one number. -/
def mvP (b s : List Int) (r c : Int) (l : List Int) (t : Nat) : Prop :=
  cntE 1 (rnL true b s r c l (t / c.toNat / r.toNat + 1)) = cntE 1 l ∧ rnL true b s r c l (t / c.toNat / r.toNat + 1) = shL r c l ((t / c.toNat % r.toNat : Nat) : Int) ((t % c.toNat : Nat) : Int)
instance (b s : List Int) (r c : Int) (l : List Int) : DecidablePred (mvP b s r c l) := fun t => by unfold mvP; infer_instance
theorem tri {n i k r c : Nat} (hi : i < r) (hk : k < c) : ((n * r + i) * c + k) / c / r = n ∧ ((n * r + i) * c + k) / c % r = i ∧ ((n * r + i) * c + k) % c = k := by
  have h1 : ((n * r + i) * c + k) / c = n * r + i := by rw [Nat.add_comm, Nat.add_mul_div_right _ _ (by omega), Nat.div_eq_of_lt hk]; omega
  have h2 : ((n * r + i) * c + k) % c = k := by rw [Nat.add_comm, Nat.add_mul_mod_self_right, Nat.mod_eq_of_lt hk]
  rw [h1, h2]
  refine ⟨?_, ?_, rfl⟩
  · rw [Nat.add_comm, Nat.add_mul_div_right _ _ (by omega), Nat.div_eq_of_lt hi]; omega
  · rw [Nat.add_comm, Nat.add_mul_mod_self_right, Nat.mod_eq_of_lt hi]
/-- Where a field is shifted first, steps, rows and columns in one number. -/
def mvF (b s : List Int) (r c : Int) (l : List Int) (st : Int) : Int := fstN (mvP b s r c l) (st.toNat * r.toNat * c.toNat)
def mvOk (b s : List Int) (r c : Int) (l : List Int) (st : Int) : Prop := canP b s r c l ∧ (1 ≤ st ∧ st ≤ 512) ∧ 0 ≤ mvF b s r c l st
instance (b s : List Int) (r c : Int) (l : List Int) (st : Int) : Decidable (mvOk b s r c l st) := by unfold mvOk; infer_instance
section
variable {b s : List Int} {r c st : Int} {l : List Int} {n i k : Nat}
end
/-- A plain square of 4, 8 or 16 rows. -/
def sqP (r c : Int) (l : List Int) : Prop := fieldN 1 r c l ∧ r = c ∧ (r = 4 ∨ r = 8 ∨ r = 16)
instance (r c : Int) (l : List Int) : Decidable (sqP r c l) := by unfold sqP; infer_instance
def inP (b s : List Int) (r c : Int) (l : List Int) : Prop := lifP b s ∧ sqP r c l
instance (b s : List Int) (r c : Int) (l : List Int) : Decidable (inP b s r c l) := by unfold inP; infer_instance
end Go.Proofs.Ythmdmbbdjbhcoaa
/- Two fields put together: the program's and the reference's. -/
namespace Go.Proofs.Ythmdmbbdjbhcoaa
open HL
set_option maxRecDepth 100000
def metO (ra ca rb cb row col : Int) : Prop := (0 ≤ row ∧ row ≤ 24) ∧ (0 ≤ col ∧ col ≤ 24) ∧ (1 ≤ max ra (row + rb) ∧ max ra (row + rb) ≤ 24) ∧ (1 ≤ max ca (col + cb) ∧ max ca (col + cb) ≤ 24)
def metOk (ra ca : Int) (la : List Int) (rb cb : Int) (lb : List Int) (row col : Int) : Prop := fieldN 1 ra ca la ∧ fieldN 1 rb cb lb ∧ metO ra ca rb cb row col
instance (ra ca rb cb row col : Int) : Decidable (metO ra ca rb cb row col) := by unfold metO; infer_instance
instance (ra ca : Int) (la : List Int) (rb cb : Int) (lb : List Int) (row col : Int) : Decidable (metOk ra ca la rb cb lb row col) := by unfold metOk; infer_instance
end Go.Proofs.Ythmdmbbdjbhcoaa
/- How many different ones there are; blocks of squares. -/
namespace Go.Proofs.Ythmdmbbdjbhcoaa
open HL
set_option maxRecDepth 100000
section
variable {G : Nat → List Int}
/-- Something alike was there before. -/
def dupW (G : Nat → List Int) (k : Nat) : Prop := ∃ i, i < k ∧ G i = G k
instance (G : Nat → List Int) (k : Nat) : Decidable (dupW G k) := by unfold dupW; infer_instance
/-- Something among the first is alike. -/
def exL (L : List FdL) (x : List Int) (j : Nat) : Prop := ∃ i, i < j ∧ (at_ fd0 L (i : Int)).l = x
instance (L : List FdL) (x : List Int) (j : Nat) : Decidable (exL L x j) := by unfold exL; infer_instance
end
/-- Sizes. -/
def szz (e : Nat) : Int := 2 ^ e
def lgN (r : Int) : Nat := if r = 4 then 3 else if r = 8 then 4 else 5
theorem szz_succ (e : Nat) : szz e * 2 = szz (e + 1) := (Int.pow_succ 2 e).symm
end Go.Proofs.Ythmdmbbdjbhcoaa
/- What is held fast; trees of quarters as lists. -/
namespace Go.Proofs.Ythmdmbbdjbhcoaa
open HL
set_option maxRecDepth 100000
namespace HL
/-- Blocks that stand as they stood. -/
def Frm (H1 : Hp) (R : Rg) (H : Hp) : Prop := ∀ b, R b → ∃ o, H1 b = some o ∧ H b = some o
section
variable {H1 H H' : Hp} {R : Rg}
theorem Frm.known (h : Frm H1 R H) : Kn H R := fun b hb => by
  obtain ⟨o, _, ho⟩ := h b hb; exact ⟨o, ho⟩
theorem Frm.le (h : Frm H1 R H) (hl : Le H H') : Frm H1 R H' := fun b hb => by
  obtain ⟨o, h1, ho⟩ := h b hb; exact ⟨o, h1, hl b o ho⟩
theorem Frm.off {w : Value} (h : Frm H1 R H) (ho : Off w H H') (ha : Apt R w) : Frm H1 R H' := fun b hb => by
  obtain ⟨o, h1, h2⟩ := h b hb; exact ⟨o, h1, ho b o h2 (ha b hb)⟩
theorem Frm.offS {T : Rg} (h : Frm H1 R H) (ho : OffS T H H') (ha : Apt R T) : Frm H1 R H' := fun b hb => by
  obtain ⟨o, h1, h2⟩ := h b hb; exact ⟨o, h1, ho b o h2 (ha b hb)⟩
end
/-- All that is known apart from a thing. -/
def rest {α : Type} [Bks α] (H : Hp) (v : α) : Rg := fun b => (∃ o, H b = some o) ∧ ¬ Bks.inb v b
section
variable {α : Type} [Bks α] {H H' : Hp} {v : α}
theorem rest_start : Frm H (rest H v) H := fun b hb => by
  obtain ⟨⟨o, ho⟩, _⟩ := hb; exact ⟨o, ho, ho⟩
theorem rest_apt : Apt v (rest H v) := fun _ h1 h2 => h2.2 h1
theorem rest_new {u : Value} (h : Apt u (rest H v)) : ∀ b, bk u = some b → Bks.inb v b ∨ H b = none := fun b hb => by
  by_cases hv : Bks.inb v b
  · exact .inl hv
  · right
    cases e : H b with
    | none => rfl
    | some o => exact absurd ⟨⟨o, e⟩, hv⟩ (h b hb)
end
theorem rest_off {H H' : Hp} {v : Value} (h : Frm H (rest H v) H') : Off v H H' := fun b o hb hv => by
  obtain ⟨o', h1, h2⟩ := h b ⟨⟨o, hb⟩, hv⟩
  rw [hb] at h1; cases h1; exact h2
theorem rest_offS {H H' : Hp} {S : Rg} (h : Frm H (rest H S) H') : OffS S H H' := fun b o hb hv => by
  obtain ⟨o', h1, h2⟩ := h b ⟨⟨o, hb⟩, hv⟩
  rw [hb] at h1; cases h1; exact h2
theorem Off.refl {H : Hp} {v : Value} : Off v H H := fun _ _ h _ => h
end HL
/-- Four parts are told, one behind the other. -/
def fourQ (g : Int → Int → List Int → Int × List Int) (h i k : Int) (t : List Int) : Nat → List Int × List Int
  | 0 => ([], t)
  | q + 1 => ((fourQ g h i k t q).1 ++ [(g (i + (q : Int) / 2 * h) (k + (q : Int) % 2 * h) (fourQ g h i k t q).2).1], (g (i + (q : Int) / 2 * h) (k + (q : Int) % 2 * h) (fourQ g h i k t q).2).2)
def chQ (t : List Int) (j : Nat) : List Int := (t.drop (4 * j)).take 4
/-- Where four numbers stand. -/
def fndQ (t f : List Int) : Int := fstN (fun j => chQ t j = f) (t.length / 4)
def putQ (t f : List Int) : Int × List Int := if 0 ≤ fndQ t f then (fndQ t f + 2, t) else ((t.length : Int) / 4 + 2, t ++ f)
/-- A part of a field is told. -/
def telF (c : Int) (l : List Int) : Nat → Int → Int → List Int → Int × List Int
  | 0, i, k, t => (at_ 0 l (i * c + k), t)
  | e + 1, i, k, t => putQ (fourQ (telF c l e) (szz e) i k t 4).2 (fourQ (telF c l e) (szz e) i k t 4).1
def treL (r c : Int) (l : List Int) : List Int := (telF c l (lgN r - 1) 0 0 []).2
/-- How much a tree may grow. -/
def grQ : Nat → Nat
  | 0 => 0
  | e + 1 => 4 * grQ e + 4
theorem fourQ_len1 {g : Int → Int → List Int → Int × List Int} {h i k : Int} {t : List Int} : ∀ q, (fourQ g h i k t q).1.length = q
  | 0 => rfl
  | q + 1 => by
    have ih := fourQ_len1 (g := g) (h := h) (i := i) (k := k) (t := t) q
    simp only [fourQ, List.length_append, List.length_singleton, ih]
theorem fourQ_len2 {g : Int → Int → List Int → Int × List Int} {h i k : Int} {t : List Int} {G : Nat} (hg : ∀ i k t, t.length % 4 = 0 → (g i k t).2.length % 4 = 0 ∧ (g i k t).2.length ≤ t.length + G) (ht : t.length % 4 = 0) : ∀ q, (fourQ g h i k t q).2.length % 4 = 0 ∧ (fourQ g h i k t q).2.length ≤ t.length + q * G
  | 0 => ⟨ht, by simp [fourQ]⟩
  | q + 1 => by
    obtain ⟨h1, h2⟩ := fourQ_len2 (h := h) (i := i) (k := k) hg ht q
    obtain ⟨h3, h4⟩ := hg (i + (q : Int) / 2 * h) (k + (q : Int) % 2 * h) _ h1
    refine ⟨h3, ?_⟩
    rw [Nat.add_mul, Nat.one_mul]
    simp only [fourQ]
    omega
theorem telF_len (c : Int) (l : List Int) : ∀ e i k t, t.length % 4 = 0 → (telF c l e i k t).2.length % 4 = 0 ∧ (telF c l e i k t).2.length ≤ t.length + grQ e
  | 0, _, _, _, h => ⟨h, by simp [telF]⟩
  | e + 1, i, k, t, h => by
    obtain ⟨h1, h2⟩ := fourQ_len2 (h := szz e) (i := i) (k := k) (telF_len c l e) h 4
    have h3 := fourQ_len1 (g := telF c l e) (h := szz e) (i := i) (k := k) (t := t) 4
    unfold telF putQ grQ
    split
    · dsimp only; exact ⟨h1, by omega⟩
    · dsimp only; simp only [List.length_append, h3]; omega
theorem grQ_le : ∀ e, e ≤ 4 → grQ e ≤ 340 := by decide
theorem fndQ_none {t f : List Int} (h : ∀ j : Nat, j < t.length / 4 → chQ t j ≠ f) : ¬ 0 ≤ fndQ t f := by
  unfold fndQ; rw [fstN_none h]; omega
theorem fndQ_at {t f : List Int} {j : Nat} (hj : j < t.length / 4) (hp : chQ t j = f) (h : ∀ s : Nat, s < j → chQ t s ≠ f) : fndQ t f = (j : Int) := fstN_at (p := fun j => chQ t j = f) hp h hj
theorem putQ_at {t f : List Int} {j : Nat} (hj : j < t.length / 4) (hp : chQ t j = f) (h : ∀ s : Nat, s < j → chQ t s ≠ f) : putQ t f = ((j : Int) + 2, t) := by
  unfold putQ; rw [fndQ_at hj hp h, if_pos (by omega)]
theorem putQ_none {t f : List Int} (h : ∀ j : Nat, j < t.length / 4 → chQ t j ≠ f) : putQ t f = ((t.length : Int) / 4 + 2, t ++ f) := by
  unfold putQ; rw [if_neg (fndQ_none h)]
theorem szz_half (e : Nat) : szz (e + 1) / 2 = szz e := by rw [← szz_succ]; exact Int.mul_ediv_cancel _ (by omega)
theorem szz_pos (e : Nat) : 1 ≤ szz e := Int.pow_pos (by omega)
theorem treP_len {r c : Int} {l : List Int} : (selL (sqP r c l) (treL r c l)).length ≤ 1000 := selL_len fun h => by
  have h1 := telF_len c l (lgN r - 1) 0 0 [] rfl
  have h2 := grQ_le (lgN r - 1) (by unfold lgN; split <;> (try split) <;> omega)
  unfold treL
  simp only [List.length_nil] at h1
  omega
end Go.Proofs.Ythmdmbbdjbhcoaa
/- Maps by four numbers. -/
namespace Go.Proofs.Ythmdmbbdjbhcoaa.HL
set_option maxRecDepth 100000
def num4 (P : Program) (e : TypeId) : Bool := match P.underlying e, aggB P e, szO P e with
  | some (.int .i64), some false, some 1 => true
  | _, _, _ => false
theorem num4_of {P : Program} {e : TypeId} (h : num4 P e = true) : P.underlying e = some (.int .i64) ∧ aggB P e = some false ∧ szO P e = some 1 := by
  unfold num4 at h
  split at h
  · rename_i h1 h2 h3; exact ⟨h1, h2, h3⟩
  · simp at h
/-- Four numbers as a value. -/
def ag4 (l : List Int) : Value := .agg #[.int .i64 (at_ 0 l 0), .int .i64 (at_ 0 l 1), .int .i64 (at_ 0 l 2), .int .i64 (at_ 0 l 3)]
theorem range4 : List.range' 0 4 1 = [0, 1, 2, 3] := rfl
theorem val_part4 {P : Program} {e : TypeId} {cs : Array Value} {n : Nat} {v : Value} {H : Hp} (h : num4 P e = true) (hv : cs[n]? = some v) : val P (part e cs n) H = some v := by
  obtain ⟨_, h2, _⟩ := num4_of h
  simp only [part, val_bind', val_isAgg, h2, Option.bind_some, Bool.false_eq_true, if_false, hv, val_pure]
theorem part_ag {P : Program} {e : TypeId} {l : List Int} {H : Hp} (h : num4 P e = true) : val P (part e #[.int .i64 (at_ 0 l 0), .int .i64 (at_ 0 l 1), .int .i64 (at_ 0 l 2), .int .i64 (at_ 0 l 3)] 0) H = some (.int .i64 (at_ 0 l 0)) ∧ val P (part e #[.int .i64 (at_ 0 l 0), .int .i64 (at_ 0 l 1), .int .i64 (at_ 0 l 2), .int .i64 (at_ 0 l 3)] 1) H = some (.int .i64 (at_ 0 l 1)) ∧ val P (part e #[.int .i64 (at_ 0 l 0), .int .i64 (at_ 0 l 1), .int .i64 (at_ 0 l 2), .int .i64 (at_ 0 l 3)] 2) H = some (.int .i64 (at_ 0 l 2)) ∧ val P (part e #[.int .i64 (at_ 0 l 0), .int .i64 (at_ 0 l 1), .int .i64 (at_ 0 l 2), .int .i64 (at_ 0 l 3)] 3) H = some (.int .i64 (at_ 0 l 3)) :=
  ⟨val_part4 h rfl, val_part4 h rfl, val_part4 h rfl, val_part4 h rfl⟩
theorem val_checkKey1 {P : Program} {b : Bool} {n : Nat} {e : TypeId} {v : Value} {H : Hp} (h : num4 P e = true) (hv : ∃ k x, v = .int k x) : val P (Instr.checkKey b (n + 1) e v) H = some () := by
  obtain ⟨h1, _, _⟩ := num4_of h
  obtain ⟨k, x, rfl⟩ := hv
  unfold Instr.checkKey
  rw [val_bind', val_underlying, h1]
  rfl
theorem val_checkKey4 {P : Program} {b : Bool} {n : Nat} {t e : TypeId} {l : List Int} {H : Hp} (ht : P.underlying t = some (.array 4 e)) (h : num4 P e = true) : val P (Instr.checkKey b (n + 2) t (ag4 l)) H = some () := by
  have h3 := (num4_of h).2.2
  unfold Instr.checkKey
  rw [val_bind', val_underlying, ht, Option.bind_some]
  have pa := part_ag (H := H) (l := l) h
  have c1 : ∀ x, val P (Instr.checkKey b (n + 1) e (.int .i64 x)) H = some () := fun x => val_checkKey1 h ⟨_, _, rfl⟩
  simp only [ag4]
  simp only [Std.Legacy.Range.forIn_eq_forIn_range', Std.Legacy.Range.size, Nat.sub_zero, Nat.add_sub_cancel, Nat.div_one, range4, List.forIn_cons, List.forIn_nil, val_bind', val_sizeOf, h3, Option.bind_some, Nat.mul_one, val_pure, pa.1, pa.2.1, pa.2.2.1, pa.2.2.2, c1]
theorem val_eq1 {P : Program} {d : Nat} {e : TypeId} {a b : Int} {H : Hp} (h : num4 P e = true) : val P (Op.equalIn (d + 1) e (.int .i64 a) (.int .i64 b)) H = some (a == b) := by
  obtain ⟨h1, _, _⟩ := num4_of h
  unfold Op.equalIn
  rw [val_bind', val_underlying, h1]
  rfl
def eq4 (l m : List Int) : Bool := at_ 0 l 0 == at_ 0 m 0 && at_ 0 l 1 == at_ 0 m 1 && at_ 0 l 2 == at_ 0 m 2 && at_ 0 l 3 == at_ 0 m 3
theorem val_eq4 {P : Program} {t e : TypeId} {l m : List Int} {H : Hp} (ht : P.underlying t = some (.array 4 e)) (h : num4 P e = true) : val P (Op.equal t (ag4 l) (ag4 m)) H = some (eq4 l m) := by
  have h3 := (num4_of h).2.2
  unfold Op.equal Op.maxDepth Op.equalIn
  rw [val_bind', val_underlying, ht, Option.bind_some]
  have pa := part_ag (H := H) (l := l) h
  have pb := part_ag (H := H) (l := m) h
  have c1 : ∀ a b, val P (Op.equalIn 9999 e (.int .i64 a) (.int .i64 b)) H = some (a == b) := fun a b => val_eq1 h
  simp only [ag4]
  simp only [Std.Legacy.Range.forIn_eq_forIn_range', Std.Legacy.Range.size, Nat.sub_zero, Nat.add_sub_cancel, Nat.div_one, range4, List.forIn_cons, List.forIn_nil, val_bind', val_sizeOf, h3, Option.bind_some, Nat.mul_one, pa.1, pb.1, c1]
  unfold eq4
  cases e0 : at_ 0 l 0 == at_ 0 m 0 <;> cases e1 : at_ 0 l 1 == at_ 0 m 1 <;> cases e2 : at_ 0 l 2 == at_ 0 m 2 <;> cases e3 : at_ 0 l 3 == at_ 0 m 3 <;> simp [e1, e2, e3, val_pure, val_bind', pa.2.1, pa.2.2.1, pa.2.2.2, pb.2.1, pb.2.2.1, pb.2.2.2, c1]
/-- The entries of a map, told as fours and numbers. -/
def entsQ (es : List MapEntry) (ms : List (List Int × Int)) : Prop := es.map (fun e => (e.key, e.val)) = ms.map (fun m => (ag4 m.1, Value.int .i64 m.2))
def mgetQ (k : List Int) : List (List Int × Int) → Option Int
  | [] => none
  | m :: ms => bif eq4 k m.1 then some m.2 else mgetQ k ms
theorem val_findAsking {P : Program} {t e : TypeId} {k : List Int} {H : Hp} (ht : P.underlying t = some (.array 4 e)) (h : num4 P e = true) : ∀ (es : List MapEntry) (ms : List (List Int × Int)) (i : Nat), entsQ es ms → ∃ r, val P (Instr.findAsking t (ag4 k) es i) H = some r ∧ r.map Prod.snd = (mgetQ k ms).map (Value.int .i64)
  | [], [], _, _ => ⟨none, rfl, rfl⟩
  | x :: es, m :: ms, i, hx => by
    simp only [entsQ, List.map_cons, List.cons.injEq, Prod.mk.injEq] at hx
    obtain ⟨⟨h1, h2⟩, h3⟩ := hx
    obtain ⟨r, g1, g2⟩ := val_findAsking ht h es ms (i + 1) h3
    unfold Instr.findAsking mgetQ
    rw [val_bind', h1, val_eq4 ht h, Option.bind_some]
    cases eq4 k m.1
    · exact ⟨r, g1, g2⟩
    · exact ⟨some (i, x.val), rfl, by rw [h2]; rfl⟩
  | [], _ :: _, _, hx => by simp [entsQ] at hx
  | _ :: _, [], _, hx => by simp [entsQ] at hx
theorem val_findKey4 {P : Program} {t e : TypeId} {k : List Int} {H : Hp} {es : List MapEntry} {ms : List (List Int × Int)} (ht : P.underlying t = some (.array 4 e)) (h : num4 P e = true) (hx : entsQ es ms) : ∃ r, val P (Instr.findKey t (ag4 k) es) H = some r ∧ r.map Prod.snd = (mgetQ k ms).map (Value.int .i64) := by
  obtain ⟨r, g1, g2⟩ := val_findAsking (H := H) (k := k) ht h es ms 0 hx
  refine ⟨r, ?_, g2⟩
  unfold Instr.findKey
  rw [val_bind', val_underlying, ht, Option.bind_some]
  cases es with
  | nil =>
    cases ms with
    | nil => simp only [Instr.findAsking, val_pure] at g1; simp only [Instr.findNow, val_pure]; exact g1
    | cons _ _ => simp [entsQ] at hx
  | cons x es =>
    have e1 : Instr.findNow (.array 4 e) (ag4 k) (x :: es) 0 = none := by
      unfold Instr.findNow; simp only [Instr.sameNow]
    rw [e1]; exact g1
/-- A map by fours that is owned. -/
def MpQ (H : Hp) (p : Value) (S : Rg) (ms : List (List Int × Int)) : Prop := ∃ r es c, p = .map (some r) ∧ H r = some (.map es c) ∧ entsQ es.toList ms ∧ ∀ b, S b ↔ b = r
def mapQI (P : Program) (t : TypeId) : Bool := match P.underlying t with
  | some (.map kt et) => (match P.underlying kt, zeroO P et with | some (.array 4 e), some (.int .i64 0) => num4 P e | _, _ => false)
  | _ => false
theorem mapQI_of {P : Program} {t : TypeId} (h : mapQI P t = true) : ∃ kt et e, P.underlying t = some (.map kt et) ∧ P.underlying kt = some (.array 4 e) ∧ zeroO P et = some (.int .i64 0) ∧ num4 P e = true := by
  unfold mapQI at h
  split at h
  · rename_i kt et he
    split at h
    · rename_i h1 h2; exact ⟨kt, et, _, he, h1, h2, h⟩
    · simp at h
  · simp at h
section
variable {H H' : Hp} {p : Value} {S : Rg} {ms : List (List Int × Int)}
theorem MpQ.known (h : MpQ H p S ms) : Kn H S := by
  obtain ⟨r, es, c, _, hr, _, hS⟩ := h
  intro b hb
  rw [(hS b).mp hb]; exact ⟨_, hr⟩
theorem MpQ.le (h : MpQ H p S ms) (hl : Le H H') : MpQ H' p S ms := by
  obtain ⟨r, es, c, e, hr, he, hS⟩ := h
  exact ⟨r, es, c, e, hl r _ hr, he, hS⟩
theorem MpQ.off {w : Value} (h : MpQ H p S ms) (ho : Off w H H') (ha : Apt S w) : MpQ H' p S ms := by
  obtain ⟨r, es, c, e, hr, he, hS⟩ := h
  exact ⟨r, es, c, e, ho r _ hr (ha r ((hS r).mpr rfl)), he, hS⟩
theorem MpQ.offS {T : Rg} (h : MpQ H p S ms) (ho : OffS T H H') (ha : Apt S T) : MpQ H' p S ms := by
  obtain ⟨r, es, c, e, hr, he, hS⟩ := h
  exact ⟨r, es, c, e, ho r _ hr (ha r ((hS r).mpr rfl)), he, hS⟩
theorem MpQ.cast {ns : List (List Int × Int)} (e : ms = ns) (h : MpQ H p S ms) : MpQ H p S ns := e ▸ h
theorem MpQ.new_ {K : Value → Hp → Prop} (hk : ∀ p S H', MpQ H' p S [] → Nws H S → Le H H' → K p H') : opEv.nwM H K := fun r hr =>
  hk (.map (some r)) (fun b => b = r) (H.put r (.map #[] 0)) ⟨r, #[], 0, rfl, Hp.put_same _ _ _, rfl, fun _ => Iff.rfl⟩ (fun b hb => by have : b = r := hb; rw [this]; exact hr) (Le.put _ hr)
theorem MpQ.one (h : MpQ H p S ms) : oneCell p = true := by
  obtain ⟨r, es, c, rfl, _⟩ := h; rfl
theorem MpQ.cells (h : MpQ H p S ms) : p.cells = #[p] := by
  obtain ⟨r, es, c, rfl, _⟩ := h; rfl
theorem MpQ.look' {P : Program} {t : TypeId} {k : List Int} {K : Value → Hp → Prop} (h : MpQ H p S ms) (ht : mapQI P t = true)
    (hK : K (.tuple #[.int .i64 ((mgetQ k ms).getD 0), .bool (mgetQ k ms).isSome]) H) : hp P (Instr.lookup t p (ag4 k) true) H K := by
  obtain ⟨r, es, c, rfl, hr, he, hS⟩ := h
  obtain ⟨kt, et, e, h1, h2, h3, h4⟩ := mapQI_of ht
  obtain ⟨x, g1, g2⟩ := val_findKey4 (H := H) (k := k) h2 h4 he
  refine hp_of_val P _ H K _ ?_ hK
  unfold Instr.lookup
  rw [val_bind', val_underlying, h1]
  simp only [Option.bind_some]
  rw [val_bind']
  have e1 : val P (getObj r) H = some (.map es c) := by
    show val P (Sem.getObj r Sem.pure) H = _
    simp only [val, hr]
  have e2 : val P (Instr.checkKey es.isEmpty 10000 kt (ag4 k)) H = some () := val_checkKey4 h2 h4
  simp only [val_bind', e1, Option.bind_some, val_pure, e2, g1]
  cases x with
  | none =>
    have e3 : mgetQ k ms = none := by cases hm : mgetQ k ms with
      | none => rfl
      | some v => rw [hm] at g2; simp at g2
    rw [e3]
    simp only [val_bind', val_zeroValue, h3, Option.bind_some, val_pure]; rfl
  | some x =>
    cases hm : mgetQ k ms with
    | none => rw [hm] at g2; simp at g2
    | some v =>
      rw [hm] at g2
      simp only [Option.map_some, Option.some.injEq] at g2
      simp only [g2]; rfl
theorem MpQ.add' {P : Program} {t : TypeId} {k : List Int} {x : Int} {K : Unit → Hp → Prop} (h : MpQ H p S ms) (ht : mapQI P t = true) (hn : mgetQ k ms = none)
    (hK : ∀ H', MpQ H' p S (ms ++ [(k, x)]) → OffS S H H' → K () H') : hp P (Instr.mapUpdate t p (ag4 k) (.int .i64 x)) H K := by
  obtain ⟨r, es, c, rfl, hr, he, hS⟩ := h
  obtain ⟨kt, et, e, h1, h2, h3, h4⟩ := mapQI_of ht
  obtain ⟨y, g1, g2⟩ := val_findKey4 (H := H) (k := k) h2 h4 he
  have hf : y = none := by
    rw [hn] at g2
    cases y with
    | none => rfl
    | some x => simp at g2
  subst hf
  have e1 : val P (getObj r) H = some (.map es c) := by
    show val P (Sem.getObj r Sem.pure) H = _
    simp only [val, hr]
  unfold Instr.mapUpdate
  refine hp_val_bind P _ _ H K _ (by rw [val_underlying, h1]) ?_
  refine hp_val_bind P _ _ H K _ e1 ?_
  refine hp_val_bind P _ _ H K _ (val_checkKey4 h2 h4) ?_
  refine hp_val_bind P _ _ H K _ g1 ?_
  show hp P (Sem.setObj r _ (Sem.pure ())) H K
  simp only [hp, hr]
  refine hK _ ⟨r, _, c + 1, rfl, Hp.put_same _ _ _, ?_, hS⟩ (fun b o hb hn => ?_)
  · unfold entsQ at he ⊢
    rw [Array.toList_push, List.map_append, he, List.map_append]; rfl
  · rw [Hp.put_ne _ _ (by rintro rfl; exact hn ((hS _).mpr rfl))]; exact hb
theorem MpQ.len {P : Program} {t ty : TypeId} (h : MpQ H p S ms) (ht : isMap P t = true) : val P (Builtin.len_ #[t] ty [p].toArray) H = some (.int .i64 ms.length) := by
  obtain ⟨r, es, c, rfl, hr, he, hS⟩ := h
  have hl : es.size = ms.length := by
    have := congrArg List.length he
    simpa using this
  unfold isMap at ht
  split at ht
  · rename_i kt et h1
    have e1 : val P (getObj r) H = some (.map es c) := by
      show val P (Sem.getObj r Sem.pure) H = _
      simp only [val, hr]
    have e2 : ([Value.map (some r)].toArray)[0]? = some (Value.map (some r)) := rfl
    have e3 : (#[t] : Array TypeId)[0]? = some t := rfl
    unfold Builtin.len_
    simp only [e2, e3]
    rw [val_bind', val_underlying, h1, Option.bind_some]
    simp only
    rw [val_bind', e1, Option.bind_some]
    simp only [val_pure, goInt, hl]
  · simp at ht
end
/-- Four cells. -/
def pad4 (F : List Int) : List Int := F ++ List.replicate (4 - F.length) 0
theorem pad4_len {F : List Int} (h : F.length ≤ 4) : (pad4 F).length = 4 := by simp [pad4]; omega
theorem pad4_full {F : List Int} (h : F.length = 4) : pad4 F = F := by simp [pad4, h]
theorem pad4_set {F : List Int} {x : Int} (h : F.length < 4) : (pad4 F).set F.length x = pad4 (F ++ [x]) := by
  unfold pad4
  rw [List.set_append_right _ _ (Nat.le_refl _), Nat.sub_self, show 4 - F.length = (4 - (F ++ [x]).length) + 1 by simp; omega, List.replicate_succ, List.append_assoc]; rfl
theorem c4_set {L : List Int} {x : Int} {q : Nat} (hl : L.length = 4) (hq : q < 4) : ([Value.int .i64 (at_ 0 L 0), Value.int .i64 (at_ 0 L 1), Value.int .i64 (at_ 0 L 2), Value.int .i64 (at_ 0 L 3)] : List Value).set q (.int .i64 x) = [Value.int .i64 (at_ 0 (L.set q x) 0), Value.int .i64 (at_ 0 (L.set q x) 1), Value.int .i64 (at_ 0 (L.set q x) 2), Value.int .i64 (at_ 0 (L.set q x) 3)] := by
  match L, hl with
  | [a, b, c, d], _ =>
    have : q = 0 ∨ q = 1 ∨ q = 2 ∨ q = 3 := by omega
    rcases this with rfl | rfl | rfl | rfl <;> rfl
theorem c4_map {L : List Int} (hl : L.length = 4) : ([Value.int .i64 (at_ 0 L 0), Value.int .i64 (at_ 0 L 1), Value.int .i64 (at_ 0 L 2), Value.int .i64 (at_ 0 L 3)] : List Value) = L.map eI := by
  match L, hl with
  | [a, b, c, d], _ => rfl
/-- An array as a slice. -/
theorem Cel.slA {H : Hp} {p : Value} {L : List Int} (h : Cel H p (L.map eI)) (hl : L.length = 4) : ∃ v, vSlA 4 1 p none none = some v ∧ Ro eI H v L ∧ (∀ b, bk v = some b → bk p = some b) := by
  obtain ⟨r, e, rfl, hr⟩ := h
  refine ⟨_, rfl, ⟨⟨_, 4, by rw [hl], by omega, fun i hi => ⟨_, rfl, ?_⟩⟩, fun b hb => ?_⟩, fun b hb => ?_⟩
  · show H.cell? (Addr.add ⟨r, 0, none⟩ i) = _
    rw [add_none]
    simp only [Hp.cell?, hr, Nat.zero_add]
    simp [hi]
  · simp [bk] at hb; subst hb; exact ⟨_, hr⟩
  · simp [bk] at hb ⊢; exact hb
/-- Three owned things, as blocks. -/
def tri (p : Value) (S : Rg) (v : Value) : Rg := fun b => bk p = some b ∨ S b ∨ bk v = some b
theorem Apt.tri {α : Type} [Bks α] {z : α} {p v : Value} {S : Rg} (h1 : Apt z p) (h2 : Apt z S) (h3 : Apt z v) : Apt z (tri p S v) := fun b hz h => by
  rcases h with h | h | h
  · exact h1 b hz h
  · exact h2 b hz h
  · exact h3 b hz h
theorem Nws.tri {H : Hp} {p v : Value} {S : Rg} (h1 : Nw H p) (h2 : Nws H S) (h3 : Nw H v) : Nws H (HL.tri p S v) := fun b h => by
  rcases h with h | h | h
  · exact h1 b h
  · exact h2 b h
  · exact h3 b h
theorem tri_apt {H : Hp} {p v : Value} {S : Rg} : Apt p (rest H (tri p S v)) ∧ Apt S (rest H (tri p S v)) ∧ Apt v (rest H (tri p S v)) :=
  ⟨fun _ h g => g.2 (.inl h), fun _ h g => g.2 (.inr (.inl h)), fun _ h g => g.2 (.inr (.inr h))⟩
theorem tri_new {H : Hp} {p v u : Value} {S : Rg} (h : Apt u (rest H (tri p S v))) (hp : Apt u p) (hS : Apt u S) : ∀ b, bk u = some b → bk v = some b ∨ H b = none := fun b hb => by
  rcases rest_new h b hb with h | h
  · rcases h with h | h | h
    · exact absurd h (hp b hb)
    · exact absurd h (hS b hb)
    · exact .inl h
  · exact .inr h
/-- The map of a tree. -/
def entQ (t : List Int) : List (List Int × Int) := (List.range (t.length / 4)).map fun j => (chQ t j, (j : Int))
theorem entQ_len {t : List Int} : (entQ t).length = t.length / 4 := by simp [entQ]
theorem chQ_len {t : List Int} {j : Nat} (h : j < t.length / 4) : (chQ t j).length = 4 := by simp [chQ]; omega
theorem entQ_app {t f : List Int} (ht : t.length % 4 = 0) (hf : f.length = 4) : entQ (t ++ f) = entQ t ++ [(f, ((t.length / 4 : Nat) : Int))] := by
  have e : (t ++ f).length / 4 = t.length / 4 + 1 := by simp; omega
  unfold entQ
  rw [e, List.range_succ, List.map_append]
  congr 1
  · apply List.map_congr_left
    intro j hj
    have hj := List.mem_range.mp hj
    congr 1
    unfold chQ
    rw [List.drop_append_of_le_length (by omega), List.take_append_of_le_length (by simp; omega)]
  · simp only [List.map_cons, List.map_nil]
    congr 2
    unfold chQ
    rw [List.drop_append_of_le_length (by omega), List.drop_of_length_le (by omega), List.nil_append, List.take_of_length_le (by omega)]
theorem eq4_iff {l m : List Int} (hl : l.length = 4) (hm : m.length = 4) : eq4 l m = decide (m = l) := by
  match l, m, hl, hm with
  | [a, b, c, d], [a', b', c', d'], _, _ =>
    have e : ∀ x y z w : Int, at_ 0 [x, y, z, w] 0 = x ∧ at_ 0 [x, y, z, w] 1 = y ∧ at_ 0 [x, y, z, w] 2 = z ∧ at_ 0 [x, y, z, w] 3 = w := fun x y z w => ⟨rfl, rfl, rfl, rfl⟩
    unfold eq4
    rw [(e a b c d).1, (e a b c d).2.1, (e a b c d).2.2.1, (e a b c d).2.2.2, (e a' b' c' d').1, (e a' b' c' d').2.1, (e a' b' c' d').2.2.1, (e a' b' c' d').2.2.2]
    apply Bool.eq_iff_iff.mpr
    simp only [Bool.and_eq_true, beq_iff_eq, decide_eq_true_eq, List.cons.injEq, and_true]
    constructor
    · rintro ⟨⟨⟨rfl, rfl⟩, rfl⟩, rfl⟩; exact ⟨rfl, rfl, rfl, rfl⟩
    · rintro ⟨rfl, rfl, rfl, rfl⟩; exact ⟨⟨⟨rfl, rfl⟩, rfl⟩, rfl⟩
theorem mgetQ_app (k : List Int) : ∀ a b, mgetQ k (a ++ b) = (mgetQ k a).or (mgetQ k b)
  | [], b => by simp [mgetQ]
  | m :: a, b => by
    simp only [List.cons_append, mgetQ]
    cases eq4 k m.1
    · exact mgetQ_app k a b
    · rfl
theorem mgetQ_ent {t f : List Int} (hf : f.length = 4) : mgetQ f (entQ t) = if 0 ≤ fndQ t f then some (fndQ t f) else none := by
  have main : ∀ n, n ≤ t.length / 4 → mgetQ f ((List.range n).map fun j => (chQ t j, (j : Int))) = if 0 ≤ fstN (fun j => chQ t j = f) n then some (fstN (fun j => chQ t j = f) n) else none := by
    intro n
    induction n with
    | zero => intro _; rfl
    | succ n ih =>
      intro hn
      rw [List.range_succ, List.map_append, mgetQ_app, ih (by omega)]
      simp only [List.map_cons, List.map_nil, mgetQ, eq4_iff hf (chQ_len (show n < t.length / 4 by omega))]
      have b := fstN_lt (p := fun j => chQ t j = f) (N := n)
      by_cases h : 0 ≤ fstN (fun j => chQ t j = f) n
      · rw [if_pos h]
        have e : fstN (fun j => chQ t j = f) (n + 1) = fstN (fun j => chQ t j = f) n := by simp only [fstN]; rw [if_pos h]
        rw [e, if_pos h]; rfl
      · rw [if_neg h]
        by_cases hc : chQ t n = f
        · have e : fstN (fun j => chQ t j = f) (n + 1) = (n : Int) := by simp only [fstN]; rw [if_neg h, if_pos hc]
          rw [e, if_pos (by omega), decide_eq_true hc]; rfl
        · have e : fstN (fun j => chQ t j = f) (n + 1) = -1 := by simp only [fstN]; rw [if_neg h, if_neg hc]
          rw [e, if_neg (by omega), decide_eq_false hc]; rfl
  exact main _ (Nat.le_refl _)
theorem c4_put {F : List Int} {x : Int} {q : Nat} (hF : F.length = q) (hq : q < 4) : ([Value.int .i64 (at_ 0 (pad4 F) 0), Value.int .i64 (at_ 0 (pad4 F) 1), Value.int .i64 (at_ 0 (pad4 F) 2), Value.int .i64 (at_ 0 (pad4 F) 3)] : List Value).set (q : Int).toNat (.int .i64 x) = [Value.int .i64 (at_ 0 (pad4 (F ++ [x])) 0), Value.int .i64 (at_ 0 (pad4 (F ++ [x])) 1), Value.int .i64 (at_ 0 (pad4 (F ++ [x])) 2), Value.int .i64 (at_ 0 (pad4 (F ++ [x])) 3)] := by
  subst hF
  rw [Int.toNat_natCast, c4_set (pad4_len (by omega)) hq, pad4_set hq]
theorem none_of_not {o : Option Int} (h : (!o.isSome) = true) : o = none := by
  cases o with
  | none => rfl
  | some _ => simp at h
theorem putQ_new {T F : List Int} (hF : F.length = 4) (h : (!(mgetQ F (entQ T)).isSome) = true) : putQ T F = (((entQ T).length : Int) + 2, T ++ F) := by
  have h := none_of_not h
  rw [mgetQ_ent hF] at h
  have hn : ¬ 0 ≤ fndQ T F := fun g => by rw [if_pos g] at h; simp at h
  unfold putQ
  rw [if_neg hn, entQ_len]
  congr 1 <;> omega
theorem putQ_old {T F : List Int} (hF : F.length = 4) (h : (!(mgetQ F (entQ T)).isSome) = false) : putQ T F = ((mgetQ F (entQ T)).getD 0 + 2, T) := by
  rw [mgetQ_ent hF] at h ⊢
  by_cases g : 0 ≤ fndQ T F
  · unfold putQ; rw [if_pos g, if_pos g]; rfl
  · rw [if_neg g] at h; simp at h
theorem mgetQ_bnd {T F : List Int} (hF : F.length = 4) : 0 ≤ (mgetQ F (entQ T)).getD 0 ∧ (mgetQ F (entQ T)).getD 0 ≤ T.length := by
  rw [mgetQ_ent hF]
  have b := fstN_lt (p := fun j => chQ T j = F) (N := T.length / 4)
  unfold fndQ
  split
  · simp only [Option.getD_some]; omega
  · simp only [Option.getD_none]; omega
theorem hp_val {P : Program} {x : Sem Value} {v : Value} {H : Hp} {K : Value → Hp → Prop} (e : ∀ K : Value → Hp → Prop, hp P x H K = K v H) (h : K v H) : hp P x H K := (e K).mpr h
theorem Cel.ixA {H : Hp} {p : Value} {cs : List Value} (h : Cel H p cs) {n : Nat} {k : IntKind} {i : Int} (h0 : 0 ≤ i) (h1 : i < n) : vIxArr n 1 p (.int k i) = some (fp p i.toNat) := by
  obtain ⟨r, e, rfl, _⟩ := h
  simp only [vIxArr, fp, Nat.mul_one]
  rw [if_pos ⟨h0, h1⟩]
theorem Cel.cast {H : Hp} {p : Value} {cs ds : List Value} (e : cs = ds) (h : Cel H p cs) : Cel H p ds := e ▸ h
end Go.Proofs.Ythmdmbbdjbhcoaa.HL
/- New slices, and places in rows, for seats without fields. -/
namespace Go.Proofs.Ythmdmbbdjbhcoaa
open HL
set_option maxRecDepth 100000
end Go.Proofs.Ythmdmbbdjbhcoaa
/- What the small functions of structs come to: copies, sizes, what is alike. -/
namespace Go.Proofs.Ythmdmbbdjbhcoaa
open HL
set_option maxRecDepth 100000
end Go.Proofs.Ythmdmbbdjbhcoaa
/- What says whether lists are equal, and whether gases are. -/
namespace Go.Proofs.Ythmdmbbdjbhcoaa
open HL
set_option maxRecDepth 100000
theorem C.slices_Equal_int64Zint64 {a b : Value} {l m : List Int} {H : Hp} {K : Value → Hp → Prop} (ha : Sl eI H a l) (hb : Sl eI H b m) (hl : l.length ≤ 9223372036854775807) (hk : K (.bool (decide (l = m))) H) :
    HT prg I.slices_Equal_int64Zint64 [a, b].toArray H K := by
 refine R.slices_Equal_int64Zint64 ?_
 unfold F.slices_Equal_int64Zint64 jn; dsimp only
 rw [ha.len, hb.len, ob_some, ob_some, vInt_neq, ob_some]
 refine cnd_d (fun hne => ?_) (fun heq => ?_)
 ·rw [decide_eq_false] at hk
  ·exact hk
  ·rintro rfl; exact hne rfl
 ·have hlen : l.length = m.length := by omega
  rw [ob_some]
  refine ⟨fun n σ H1 => ∃ i : Nat, n = l.length - i ∧ i ≤ l.length ∧ H1 = H ∧ σ 0 = a ∧ σ 1 = b ∧ σ 13 = .int .i64 i ∧ σ 12 = .int .i64 l.length ∧ l.take i = m.take i,
   ⟨_, 0, rfl, by omega, rfl, rfl, rfl, rfl, rfl, by simp⟩, ?_⟩
  rintro n σ H1 ⟨i, rfl, hi', rfl, h0, h1, h5, h12, hall⟩
  simp only [h0, h1, h5, h12, vInt_lss, ob_some]
  refine cnd_d (fun hlt => ?_) (fun hge => ?_)
  ·have hlt' : i < l.length := by omega
   rw [ha.ix (by omega) hlt, ob_some, ha.ld 0 (by omega) hlt, ob_some, hb.ix (by omega) (by omega), ob_some, hb.ld 0 (by omega) (by omega), ob_some, vInt_neq, ob_some]
   refine cnd_d (fun hne => ?_) (fun heq => ?_)
   ·refine retK (K := K) (v' := .bool false) rfl ?_
    rw [decide_eq_false] at hk
    ·exact hk
    ·rintro rfl; exact hne rfl
   ·rw [vInt_add (by omega) (by omega), ob_some]
    refine nxt (l.length - (i + 1)) (by omega) ⟨i + 1, rfl, by omega, rfl, h0, h1, rfl, h12, ?_⟩
    rw [take_at 0 l hlt', take_at 0 m (by omega), hall, Decidable.not_not.mp heq]
  ·refine retK (K := K) (v' := .bool true) rfl ?_
   rw [List.take_of_length_le (by omega), List.take_of_length_le (by omega)] at hall
   rw [decide_eq_true hall] at hk
   exact hk
end Go.Proofs.Ythmdmbbdjbhcoaa
/- Kinds of quarters. -/
namespace Go.Proofs.Ythmdmbbdjbhcoaa
open HL
set_option maxRecDepth 100000
theorem C.impl_isSquare {vc : Value} {r c : Int} {l : List Int}  {H : Hp} {K : Value → Hp → Prop} (hvc0 : Sl eI H vc l) (k1 : l.length ≤ 9223372036854775807)
    (hk : ∀ H', Le H H' → K (.bool (decide (sqP r c l))) H') : HT prg I.impl_isSquare [(.agg #[(.int .i64 (r)), (.int .i64 (c)), vc])].toArray H K := by
 have lE := Le.refl H
 have hvc := hvc0
 refine R.impl_isSquare ?_
 unfold F.impl_isSquare
 refine nw_i (fun p1 H2 op1 nn3 le4 => ?_)
 replace hvc := hvc.le le4
 replace lE := lE.trans le4
 replace op1 : Cel H2 p1 [(.int .i64 (r)), (.int .i64 (c)), vc] := op1
 refine ob_i (op1.ldn rfl) ?_
 refine C.impl_isPlain hvc (by first | omega | assumption) (fun   H5    le6 => ?_)
 replace op1 := op1.le le6
 replace lE := lE.trans le6
 by_cases hc7 : fieldN 1 r c l
 ·skip
  refine gop_e (decide_eq_true hc7) ?_
  refine gop_rt ?_
  refine ob_i (op1.fa 0) ?_
  refine gop_e (decide_eq_true hc7) ?_
  refine gop_rt ?_
  refine ob_i (op1.ld 0 rfl) ?_
  refine gop_e (decide_eq_true hc7) ?_
  refine gop_rt ?_
  refine ob_i (op1.fa 1) ?_
  refine gop_e (decide_eq_true hc7) ?_
  refine gop_rt ?_
  refine ob_i (op1.ld 1 rfl) ?_
  refine gop_e (decide_eq_true hc7) ?_
  refine gop_rt ?_
  refine ob_i (vInt_eql _ _ _) ?_
  refine ob_i (vPick_et (decide_eq_true hc7) _ _) ?_
  by_cases hc8 : r = c
  ·skip
   refine gop_e (decide_eq_true hc8) ?_
   refine gop_rt ?_
   refine ob_i (op1.fa 0) ?_
   refine gop_e (decide_eq_true hc8) ?_
   refine gop_rt ?_
   refine ob_i (op1.ld 0 rfl) ?_
   refine gop_e (decide_eq_true hc8) ?_
   refine gop_rt ?_
   refine ob_i (vInt_eql _ _ _) ?_
   refine gop_e (decide_eq_true hc8) ?_
   refine gop_rt ?_
   by_cases hc9 : r = 4
   ·skip
    refine gop_e (decide_eq_true hc9) ?_
    refine gop_st ?_
    refine gop_e (decide_eq_true hc9) ?_
    refine gop_st ?_
    refine gop_e (decide_eq_true hc9) ?_
    refine gop_st ?_
    refine gop_e (decide_eq_true hc8) ?_
    refine gop_rt ?_
    refine ob_i (vPick_et (decide_eq_true hc9) _ _) ?_
    refine gop_e (decide_eq_true hc8) ?_
    refine gop_rt ?_
    refine gop_st ?_
    refine gop_st ?_
    refine gop_st ?_
    refine gop_e (decide_eq_true hc8) ?_
    refine gop_rt ?_
    refine ob_i (vPick_t _ _) ?_
    refine ob_i (vPick_et (decide_eq_true hc8) _ _) ?_
    skip
    exact keq (K := K) (by rw [decide_eq_true (show (sqP r c l) from by exact ⟨by assumption, by omega⟩)]) (hk   _    lE)
   ·skip
    refine gop_e (decide_eq_false hc9) ?_
    refine gop_rf ?_
    refine ob_i (op1.fa 0) ?_
    refine gop_e (decide_eq_false hc9) ?_
    refine gop_rf ?_
    refine ob_i (op1.ld 0 rfl) ?_
    refine gop_e (decide_eq_false hc9) ?_
    refine gop_rf ?_
    refine ob_i (vInt_eql _ _ _) ?_
    refine gop_e (decide_eq_true hc8) ?_
    refine gop_rt ?_
    refine ob_i (vPick_ef (decide_eq_false hc9) _ _) ?_
    refine gop_e (decide_eq_true hc8) ?_
    refine gop_rt ?_
    by_cases hc10 : r = 8
    ·skip
     refine gop_e (decide_eq_true hc10) ?_
     refine gop_st ?_
     refine gop_e (decide_eq_true hc10) ?_
     refine gop_st ?_
     refine gop_e (decide_eq_true hc10) ?_
     refine gop_st ?_
     refine gop_e (decide_eq_true hc8) ?_
     refine gop_rt ?_
     refine ob_i (vPick_et (decide_eq_true hc10) _ _) ?_
     refine ob_i (vPick_et (decide_eq_true hc8) _ _) ?_
     skip
     exact keq (K := K) (by rw [decide_eq_true (show (sqP r c l) from by exact ⟨by assumption, by omega⟩)]) (hk   _    lE)
    ·skip
     refine gop_e (decide_eq_false hc10) ?_
     refine gop_rf ?_
     refine ob_i (op1.fa 0) ?_
     refine gop_e (decide_eq_false hc10) ?_
     refine gop_rf ?_
     refine ob_i (op1.ld 0 rfl) ?_
     refine gop_e (decide_eq_false hc10) ?_
     refine gop_rf ?_
     refine ob_i (vInt_eql _ _ _) ?_
     refine gop_e (decide_eq_true hc8) ?_
     refine gop_rt ?_
     refine ob_i (vPick_ef (decide_eq_false hc10) _ _) ?_
     refine ob_i (vPick_et (decide_eq_true hc8) _ _) ?_
     skip
     exact keq (K := K) (by rw [show decide (r = 16) = decide (sqP r c l) from decide_eq_decide.mpr (by exact ⟨fun h => ⟨by assumption, by omega⟩, fun h => by have := h.2; omega⟩)]) (hk   _    lE)
  ·skip
   refine gop_e (decide_eq_false hc8) ?_
   refine gop_sf ?_
   refine gop_e (decide_eq_false hc8) ?_
   refine gop_sf ?_
   refine gop_e (decide_eq_false hc8) ?_
   refine gop_sf ?_
   refine gop_e (decide_eq_false hc8) ?_
   refine gop_sf ?_
   refine gop_u ?_
   refine gop_u ?_
   refine gop_u ?_
   refine gop_e (decide_eq_false hc8) ?_
   refine gop_sf ?_
   refine gop_e (decide_eq_false hc8) ?_
   refine gop_sf ?_
   refine gop_u ?_
   refine gop_u ?_
   refine gop_u ?_
   refine gop_e (decide_eq_false hc8) ?_
   refine gop_sf ?_
   refine ob_i (vPick_ef (decide_eq_false hc8) _ _) ?_
   skip
   exact keq (K := K) (by rw [decide_eq_false (show ¬ (sqP r c l) from by intro h; have h1 := h.1; have h2 := h.2; first | contradiction | omega)]) (hk   _    lE)
 ·skip
  refine gop_e (decide_eq_false hc7) ?_
  refine gop_sf ?_
  refine gop_e (decide_eq_false hc7) ?_
  refine gop_sf ?_
  refine gop_e (decide_eq_false hc7) ?_
  refine gop_sf ?_
  refine gop_e (decide_eq_false hc7) ?_
  refine gop_sf ?_
  refine gop_e (decide_eq_false hc7) ?_
  refine gop_sf ?_
  refine ob_i (vPick_ef (decide_eq_false hc7) _ _) ?_
  refine gop_sf ?_
  refine gop_sf ?_
  refine gop_sf ?_
  refine gop_sf ?_
  refine gop_u ?_
  refine gop_u ?_
  refine gop_u ?_
  refine gop_sf ?_
  refine gop_sf ?_
  refine gop_u ?_
  refine gop_u ?_
  refine gop_u ?_
  refine gop_sf ?_
  refine ob_i (vPick_f _ _) ?_
  skip
  exact keq (K := K) (by rw [decide_eq_false (show ¬ (sqP r c l) from by intro h; have h1 := h.1; have h2 := h.2; first | contradiction | omega)]) (hk   _    lE)
end Go.Proofs.Ythmdmbbdjbhcoaa
