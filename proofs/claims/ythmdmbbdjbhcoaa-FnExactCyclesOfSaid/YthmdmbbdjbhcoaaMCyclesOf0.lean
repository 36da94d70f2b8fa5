/- Several texts in one. -/
import Derived.Test.YthmdmbbdjbhcoaaHI
import Derived.Test.YthmdmbbdjbhcoaaG0
/- Slices over a partial heap: what is read, what is owned, and what stays when something else is written. -/
namespace Go.Proofs.Ythmdmbbdjbhcoaa.HL
abbrev eI : Int → Value := .int .i64
/-- The pointer to a slice's cell, where its elements have one cell each. -/
def ptr (v : Value) (i : Int) : Value := match v with | .slice (some a) _ _ => .pointer (some (a.add (i.toNat * 1))) | _ => undef
/-- The block that a slice or a pointer may write. -/
def bk (v : Value) : Option Nat := match v with | .slice (some a) _ c => if c = 0 then none else some a.block | .pointer (some a) => some a.block | _ => none
/-- The element at an index. -/
def at_ {α : Type} (d : α) (l : List α) (i : Int) : α := l.getD i.toNat d

/-- A slice that reads so. -/
def Sl {α : Type} (enc : α → Value) (H : Hp) (v : Value) (l : List α) : Prop :=
  ∃ a c, v = .slice a l.length c ∧ l.length ≤ c ∧ ∀ i (h : i < l.length), ∃ ad, a = some ad ∧ H.cell? (ad.add i) = some (enc l[i])
/-- A slice whose block is known whole, and may be written. -/
def Own {α : Type} (enc : α → Value) (H : Hp) (v : Value) (l : List α) : Prop :=
  ∃ a c, v = .slice a l.length c ∧ l.length ≤ c ∧ (0 < c → ∃ b off cs e, a = some ⟨b, off, none⟩ ∧ H b = some (.cells cs e (0, 0)) ∧ off + c ≤ cs.size ∧ ∀ i (h : i < l.length), cs[off + i]? = some (enc l[i]))
/-- A slice whose block is not known in a heap. -/
def Nw (H : Hp) (v : Value) : Prop := ∀ b, bk v = some b → H b = none
def Apart (u v : Value) : Prop := ∀ b, bk u = some b → bk v ≠ some b
/-- All that is known stays, but for a slice's block. -/
def Off (v : Value) (H H' : Hp) : Prop := ∀ b o, H b = some o → bk v ≠ some b → H' b = some o

theorem add_none (b off i : Nat) : (⟨b, off, none⟩ : Addr).add i = ⟨b, off + i, none⟩ := by
  unfold Addr.add
  split
  · rename_i h; subst h; rfl
  · rfl
theorem Apart.symm {u v : Value} (h : Apart u v) : Apart v u := fun b hb hu => h b hu hb
theorem Nw.le {H H' : Hp} {v : Value} (h : Nw H' v) (hl : Le H H') : Nw H v := fun b hb => by
  cases ho : H b with
  | none => rfl
  | some o => have := hl b o ho; rw [h b hb] at this; exact absurd this (by simp)
theorem Off.le {H0 H H' : Hp} {v : Value} (h : Off v H H') (hl : Le H0 H) (hn : Nw H0 v) : Le H0 H' := fun b o hb =>
  h b o (hl b o hb) (fun e => by rw [hn b e] at hb; exact absurd hb (by simp))
theorem Off.trans {A B C : Hp} {v : Value} (h : Off v A B) (h' : Off v B C) : Off v A C := fun b o hb hv => h' b o (h b o hb hv) hv

section
variable {α : Type} {enc : α → Value} {H H' : Hp} {u v : Value} {l : List α}
theorem Sl.le (h : Sl enc H v l) (hl : Le H H') : Sl enc H' v l := by
  obtain ⟨a, c, rfl, hc, hr⟩ := h
  exact ⟨a, c, rfl, hc, fun i hi => by obtain ⟨ad, e, hh⟩ := hr i hi; exact ⟨ad, e, hl.cell hh⟩⟩
theorem Sl.len (h : Sl enc H v l) : vLenSl v = some (.int .i64 l.length) := by
  obtain ⟨a, c, rfl, hc, hr⟩ := h; rfl
theorem Sl.ix (h : Sl enc H v l) {k : IntKind} {i : Int} (h0 : 0 ≤ i) (h1 : i < l.length) : vIx 1 v (.int k i) = some (ptr v i) := by
  obtain ⟨a, c, rfl, hc, hr⟩ := h
  obtain ⟨ad, rfl, hh⟩ := hr i.toNat (by omega)
  simp only [vIx, ptr]
  rw [if_pos ⟨h0, by simpa using h1⟩]
theorem Sl.ld (h : Sl enc H v l) (d : α) {i : Int} (h0 : 0 ≤ i) (h1 : i < l.length) : vLoad (ptr v i) H = some (enc (at_ d l i)) := by
  obtain ⟨a, c, rfl, hc, hr⟩ := h
  have hi : i.toNat < l.length := by omega
  obtain ⟨ad, rfl, hh⟩ := hr i.toNat hi
  simp only [vLoad, ptr, Nat.mul_one, hh, at_, List.getD_eq_getElem?_getD, List.getElem?_eq_getElem hi, Option.getD_some]
theorem Sl.nil (c : Nat) (a : Option Addr) : Sl enc H (.slice a 0 c) [] := ⟨a, c, rfl, by simp, fun i hi => absurd hi (by simp)⟩

theorem Own.len (h : Own enc H v l) : vLenSl v = some (.int .i64 l.length) := by
  obtain ⟨a, c, rfl, hc, hr⟩ := h; rfl
theorem Own.sl (h : Own enc H v l) : Sl enc H v l := by
  obtain ⟨a, c, rfl, hc, hr⟩ := h
  refine ⟨a, c, rfl, hc, fun i hi => ?_⟩
  obtain ⟨b, off, cs, e, rfl, hb, hs, hcs⟩ := hr (by omega)
  exact ⟨_, rfl, by simp only [Hp.cell?, add_none, hb, hcs i hi]; rfl⟩
theorem Own.off (h : Own enc H u l) (ho : Off v H H') (ha : Apart u v) : Own enc H' u l := by
  obtain ⟨a, c, rfl, hc, hr⟩ := h
  refine ⟨a, c, rfl, hc, fun h0 => ?_⟩
  obtain ⟨b, off, cs, e, rfl, hb, hs, hcs⟩ := hr h0
  refine ⟨b, off, cs, e, rfl, ho b _ hb (ha b ?_), hs, hcs⟩
  simp only [bk]
  rw [if_neg (by omega)]
theorem Own.le (h : Own enc H u l) (hl : Le H H') : Own enc H' u l := by
  obtain ⟨a, c, rfl, hc, hr⟩ := h
  refine ⟨a, c, rfl, hc, fun h0 => ?_⟩
  obtain ⟨b, off, cs, e, rfl, hb, hs, hcs⟩ := hr h0
  exact ⟨b, off, cs, e, rfl, hl b _ hb, hs, hcs⟩
theorem Own.known (h : Own enc H u l) : ∀ b, bk u = some b → ∃ o, H b = some o := by
  obtain ⟨a, c, rfl, hc, hr⟩ := h
  intro b hb
  cases a with
  | none => simp [bk] at hb
  | some ad =>
    simp only [bk] at hb
    by_cases h0 : c = 0
    · rw [if_pos h0] at hb; simp at hb
    · rw [if_neg h0] at hb
      obtain ⟨b', off, cs, e, he, hbb, _⟩ := hr (by omega)
      simp only [Option.some.injEq] at hb he
      subst he
      simp only at hb
      subst hb
      exact ⟨_, hbb⟩
theorem Own.apart (h : Own enc H u l) (hn : Nw H v) : Apart u v := fun b hb hv => by
  obtain ⟨o, ho⟩ := h.known b hb
  rw [hn b hv] at ho
  exact absurd ho (by simp)
theorem Apart.of_nw {H : Hp} {u v : Value} (hu : ∀ b, bk u = some b → ∃ o, H b = some o) (hn : Nw H v) : Apart u v := fun b hb hv => by
  obtain ⟨o, ho⟩ := hu b hb
  rw [hn b hv] at ho
  exact absurd ho (by simp)
theorem Own.nil_of (a : Option Addr) : Own enc H (.slice a 0 0) [] := ⟨a, 0, rfl, by simp, fun h0 => absurd h0 (by simp)⟩

/-- A write of one cell. -/
theorem Own.st (h : Own enc H v l) {x : α} {K : Hp → Prop} {i : Int} (h0 : 0 ≤ i) (h1 : i < l.length) (hx : oneCell (enc x) = true) (hz : (enc x).cells = #[enc x])
    (hk : ∀ H', Own enc H' v (l.set i.toNat x) → Off v H H' → K H') : st 1 (ptr v i) (enc x) H K := by
  obtain ⟨a, c, rfl, hc, hr⟩ := h
  obtain ⟨b, off, cs, e, rfl, hb, hs, hcs⟩ := hr (by omega)
  have hi : i.toNat < l.length := by omega
  simp only [HL.st, ptr, hz, List.toList_toArray, Nat.mul_one, List.size_toArray, List.length_singleton, true_and, stC]
  refine ⟨hx, ?_, ?_, ?_⟩
  · simp only [Hp.cell?, add_none, hb, hcs _ hi, Nat.add_zero]; rfl
  · simp only [Hp.frozen?, add_none, hb]; simp
  · refine hk _ ⟨_, c, by simp, by simpa using hc, fun _ => ⟨b, off, cs.setIfInBounds (off + i.toNat) (enc x), e, rfl, ?_, by simpa using hs, ?_⟩⟩ ?_
    · simp only [Hp.setCell, add_none, hb, Nat.add_zero, Hp.put_same]; rfl
    · intro j hj
      have hj' : j < l.length := by simpa using hj
      rw [Array.getElem?_setIfInBounds]
      by_cases e1 : off + i.toNat = off + j
      · have : i.toNat = j := by omega
        subst this
        rw [if_pos rfl, if_pos (by omega)]; simp
      · have : i.toNat ≠ j := by omega
        rw [if_neg e1, hcs j hj', List.getElem_set_ne this]
    · intro x' o ho hv
      simp only [bk, if_neg (by omega : ¬ c = 0)] at hv
      simp only [Hp.setCell, add_none, hb]
      rw [Hp.put_ne _ _ (by rintro rfl; exact hv rfl)]
      exact ho

theorem zrow_get (z : Value) (n i : Nat) (h : i < n) : (zrow #[z] n)[i]? = some z := by
  simp only [zrow, List.size_toArray, List.length_singleton, Nat.mod_one]
  simp [h]
theorem zrow_size (zs : Array Value) (n : Nat) : (zrow zs n).size = n := by simp [zrow]

/-- A new row. -/
theorem Own.mk_ {bytes : Nat} {z : α} {e : TypeId} {k k' : IntKind} {n c : Int} {K : Value → Hp → Prop} (h0 : 0 ≤ n) (h1 : n ≤ c) (h2 : c ≤ 281474976710656) (h3 : bytes * c ≤ 281474976710656)
    (hk : ∀ v H', Own enc H' v (List.replicate n.toNat z) → Nw H v → Le H H' → K v H') : mkS 1 bytes #[enc z] e (.int k n) (.int k' c) H K := by
  refine ⟨h0, h1, h2, h3, fun r hr => hk _ _ ⟨some ⟨r, 0, none⟩, c.toNat, by simp, by simp; omega, fun h4 => ⟨r, 0, _, e, rfl, Hp.put_same _ _ _, ?_, ?_⟩⟩ ?_ (Le.put _ hr)⟩
  · rw [Nat.mul_one, if_neg (by omega), zrow_size]; omega
  · intro i hi
    have : i < n.toNat := by simpa using hi
    rw [Nat.mul_one, if_neg (by omega), Nat.zero_add, zrow_get _ _ _ (by omega)]; simp
  · intro b hb
    simp only [bk] at hb
    split at hb
    · simp at hb
    · simp only [Option.some.injEq] at hb; subst hb; exact hr

theorem rd_cells (ad : Addr) : ∀ (n s : Nat) (l : List α), l.length = n → (∀ i (h : i < l.length), H.cell? (ad.add (s + i)) = some (enc l[i])) → rdCells H ad s n = some (l.map enc)
  | 0, s, l, hn, _ => by have : l = [] := List.length_eq_zero_iff.mp hn; subst this; rfl
  | n + 1, s, l, hn, h => by
    cases l with
    | nil => simp at hn
    | cons x r =>
      simp only [rdCells]
      have h0 := h 0 (by simp)
      simp only [Nat.add_zero, List.getElem_cons_zero] at h0
      rw [h0, rd_cells ad n (s + 1) r (by simpa using hn) (fun i hi => by
        have := h (i + 1) (by simpa using hi)
        rw [show s + 1 + i = s + (i + 1) by omega]
        simpa using this)]
      rfl
theorem Sl.firstC (h : Sl enc H v l) : firstC H 1 l.length v = some (l.map enc) := by
  obtain ⟨a, c, rfl, hc, hr⟩ := h
  cases l with
  | nil => cases a <;> rfl
  | cons x r =>
    obtain ⟨ad, rfl, _⟩ := hr 0 (by simp)
    simp only [HL.firstC, Nat.mul_one]
    exact rd_cells ad _ 0 _ rfl (fun i hi => by obtain ⟨ad', e, hh⟩ := hr i hi; cases e; simpa using hh)
theorem Sl.lenO (h : Sl enc H v l) : lenO v = some l.length := by
  obtain ⟨a, c, rfl, hc, hr⟩ := h; rfl

theorem stC_run {K : Hp → Prop} {b : Nat} {e : TypeId} : ∀ (m : List Value) (ad : Addr) (i : Nat) (cs : Array Value) (H : Hp), ad.block = b → ad.spot = none → H b = some (.cells cs e (0, 0)) → ad.off + i + m.length ≤ cs.size →
    (∀ x ∈ m, oneCell x = true) →
    (∀ H' cs', H' b = some (.cells cs' e (0, 0)) → cs'.size = cs.size → (∀ j, j < ad.off + i → cs'[j]? = cs[j]?) → (∀ j (h : j < m.length), cs'[ad.off + i + j]? = some m[j]) → (∀ x, x ≠ b → H' x = H x) → K H') → stC ad K m i H
  | [], ad, i, cs, H, hb, hsp, hH, hs, ho, hk => hk H cs hH rfl (fun _ _ => rfl) (fun j h => absurd h (by simp)) (fun _ _ => rfl)
  | x :: m, ad, i, cs, H, hb, hsp, hH, hs, ho, hk => by
    obtain ⟨abk, aoff, asp⟩ := ad
    simp only at hb hsp hs hk
    subst hb hsp
    simp only [List.length_cons] at hs
    refine ⟨ho x (by simp), ?_, ?_, ?_⟩
    · simp only [Hp.cell?, add_none, hH]
      rw [Array.getElem?_eq_getElem (by omega)]; rfl
    · simp only [Hp.frozen?, add_none, hH]; simp
    · refine stC_run (b := abk) (e := e) m _ (i + 1) (cs.setIfInBounds (aoff + i) x) _ rfl rfl ?_ (by simp; omega) (fun y hy => ho y (by simp [hy])) ?_
      · simp only [Hp.setCell, add_none, hH, Hp.put_same]; rfl
      · intro H' cs' h1 h2 h3 h4 h5
        refine hk H' cs' h1 (by simpa using h2) ?_ ?_ ?_
        · intro j hj
          rw [h3 j (by simp only; omega), Array.getElem?_setIfInBounds_ne (by omega)]
        · intro j hj
          cases j with
          | zero =>
            rw [Nat.add_zero, h3 _ (by simp only; omega), Array.getElem?_setIfInBounds_self_of_lt (by omega)]; rfl
          | succ j =>
            have := h4 j (by simpa using hj)
            simp only at this
            rw [show aoff + i + (j + 1) = aoff + (i + 1) + j by omega, this]; rfl
        · intro x' hx'
          rw [h5 x' hx']
          simp only [Hp.setCell, add_none, hH]
          rw [Hp.put_ne _ _ hx']

/-- An append. -/
theorem Own.apd {bytes : Nat} {z : Value} {e : TypeId} {w : Value} {m : List α} {K : Value → Hp → Prop} (h : Own enc H v l) (hm : Sl enc H w m) (ho : ∀ x, oneCell (enc x) = true)
    (hb : l.length + m.length < 9223372036854775808) (hc : ∀ c, l.length + m.length > c → Builtin.nextslicecap (l.length + m.length) c * bytes ≤ 281474976710656)
    (hk : ∀ v' H', Own enc H' v' (l ++ m) → Off v H H' → (∀ b, bk v' = some b → bk v = some b ∨ H b = none) → K v' H') : apd 1 bytes #[z] e v w H K := by
  have hmf := hm.firstC
  have hml := hm.lenO
  have hlf := h.sl.firstC
  obtain ⟨a, c, rfl, hlc, hr⟩ := h
  simp only [HL.apd, hml]
  by_cases hcap : l.length + m.length ≤ c
  · rw [if_pos hcap]
    simp only [hmf]
    by_cases hc0 : c = 0
    · have hl : l = [] := List.length_eq_zero_iff.mp (by omega)
      have hm' : m = [] := List.length_eq_zero_iff.mp (by omega)
      subst hl hm' hc0
      have : K (.slice a (([] : List α).length + ([] : List α).length) 0) H := hk _ H ⟨a, 0, rfl, by simp, fun h0 => absurd h0 (by simp)⟩ (fun b o hb _ => hb) (fun b hb => by cases a <;> simp [bk] at hb)
      cases a with
      | none => exact this
      | some ad => exact this
    · obtain ⟨b, off, cs, e', rfl, hbb, hs, hcs⟩ := hr (by omega)
      simp only [add_none, Nat.mul_one]
      refine stC_run (b := b) (e := e') (m.map enc) _ 0 cs H rfl rfl hbb (by simp; omega) (by simp; intro x _; exact ho x) ?_
      intro H' cs' h1 h2 h3 h4 h5
      simp only [Nat.add_zero] at h3 h4
      refine hk _ H' ⟨some ⟨b, off, none⟩, c, by simp, by simpa using hcap, fun _ => ⟨b, off, cs', e', rfl, h1, by omega, ?_⟩⟩ ?_ ?_
      · intro i hi
        by_cases hil : i < l.length
        · rw [h3 _ (by omega), hcs i hil, List.getElem_append_left hil]
        · have := h4 (i - l.length) (by simp at hi ⊢; omega)
          rw [show off + l.length + (i - l.length) = off + i by omega] at this
          rw [this, List.getElem_append_right (by omega)]; simp
      · intro x o hx hne
        simp only [bk, if_neg hc0] at hne
        rw [h5 x (by rintro rfl; exact hne rfl)]; exact hx
      · intro x hx
        left; exact hx
  · rw [if_neg hcap]
    refine ⟨hb, hc c (by omega), ?_⟩
    simp only [hlf, hmf]
    intro c' hc1 hc2 r hr'
    refine hk _ _ ⟨some ⟨r, 0, none⟩, c', by simp, by simpa using hc1, fun _ => ⟨r, 0, _, e, rfl, Hp.put_same _ _ _, ?_, ?_⟩⟩ ?_ ?_
    · have : (Builtin.zeroCells #[z] (c' - (l.length + m.length))).size = c' - (l.length + m.length) := by simp [Builtin.zeroCells]
      simp [this]; omega
    · intro i hi
      rw [Nat.zero_add, Array.getElem?_append_left (by simpa using hi)]
      rw [← Array.getElem?_toList]
      simp only [Array.toList_append, ← List.map_append, List.getElem?_map]
      rw [List.getElem?_eq_getElem hi]; rfl
    · intro x o hx _
      rw [Hp.put_ne _ _ (by rintro rfl; rw [hr'] at hx; exact absurd hx (by simp))]; exact hx
    · intro x hx
      right
      simp only [bk] at hx
      split at hx
      · simp at hx
      · simp only [Option.some.injEq] at hx; subst hx; exact hr'
end
end Go.Proofs.Ythmdmbbdjbhcoaa.HL
/- Values and loops over a partial heap: the rules that a proof of a function's text uses. -/
namespace Go.Proofs.Ythmdmbbdjbhcoaa.HL
theorem cnd_i {b : Bool} {A B : Prop} (h1 : b = true → A) (h2 : b = false → B) : cnd (.bool b) A B := by
  cases b
  · exact h2 rfl
  · exact h1 rfl
theorem cnd_d {p : Prop} [Decidable p] {A B : Prop} (h1 : p → A) (h2 : ¬ p → B) : cnd (.bool (decide p)) A B := by
  by_cases h : p
  · rw [decide_eq_true h]; exact h1 h
  · rw [decide_eq_false h]; exact h2 h
theorem gop_tt (F : (Value → Hp → Prop) → Prop) (H : Hp) (K : Value → Hp → Prop) : gop (.bool true) true F H K = F K := rfl
theorem gop_ft (F : (Value → Hp → Prop) → Prop) (H : Hp) (K : Value → Hp → Prop) : gop (.bool false) true F H K = K undef H := rfl
theorem vPick_t (a b : Value) : vPick (.bool true) a b = some a := rfl
theorem vPick_f (a b : Value) : vPick (.bool false) a b = some b := rfl
theorem vExt_20 (a b : Value) : vExt (.tuple #[a, b]) 0 = some a := rfl
theorem vExt_30 (a b c : Value) : vExt (.tuple #[a, b, c]) 0 = some a := rfl
theorem vExt_31 (a b c : Value) : vExt (.tuple #[a, b, c]) 1 = some b := rfl
theorem vExt_32 (a b c : Value) : vExt (.tuple #[a, b, c]) 2 = some c := rfl
theorem vUn_not (b : Bool) : vUn .not (.bool b) = some (.bool !b) := rfl
theorem vInt_lss (k : IntKind) (a b : Int) : vInt .lss (.int k a) (.int k b) = some (.bool (decide (a < b))) := by simp [vInt]
theorem vInt_leq (k : IntKind) (a b : Int) : vInt .leq (.int k a) (.int k b) = some (.bool (decide (a ≤ b))) := by simp [vInt]
theorem vInt_gtr (k : IntKind) (a b : Int) : vInt .gtr (.int k a) (.int k b) = some (.bool (decide (b < a))) := by simp [vInt]
theorem vInt_geq (k : IntKind) (a b : Int) : vInt .geq (.int k a) (.int k b) = some (.bool (decide (b ≤ a))) := by simp [vInt]
theorem vInt_eql (k : IntKind) (a b : Int) : vInt .eql (.int k a) (.int k b) = some (.bool (decide (a = b))) := by
  simp only [vInt, if_true]; rfl
theorem vInt_neq (k : IntKind) (a b : Int) : vInt .neq (.int k a) (.int k b) = some (.bool (decide (a ≠ b))) := by
  simp only [vInt, if_true, bne, ne_eq, decide_not]; rfl
theorem wrap64 {x : Int} (h : -9223372036854775808 ≤ x) (h' : x < 9223372036854775808) : IntKind.i64.wrap x = x := by
  unfold IntKind.wrap; simp [IntKind.signed, IntKind.bits]; omega
theorem vInt_add {a b : Int} (h : -9223372036854775808 ≤ a + b) (h' : a + b < 9223372036854775808) : vInt .add (.int .i64 a) (.int .i64 b) = some (.int .i64 (a + b)) := by
  simp only [vInt, if_true, wrap64 h h']
theorem vInt_sub {a b : Int} (h : -9223372036854775808 ≤ a - b) (h' : a - b < 9223372036854775808) : vInt .sub (.int .i64 a) (.int .i64 b) = some (.int .i64 (a - b)) := by
  simp only [vInt, if_true, wrap64 h h']
theorem vInt_mul {a b : Int} (h : -9223372036854775808 ≤ a * b) (h' : a * b < 9223372036854775808) : vInt .mul (.int .i64 a) (.int .i64 b) = some (.int .i64 (a * b)) := by
  simp only [vInt, if_true, wrap64 h h']
theorem vInt_rem {a b : Int} (h : b ≠ 0) : vInt .rem (.int .i64 a) (.int .i64 b) = some (.int .i64 (a.tmod b)) := by
  simp only [vInt]; rw [if_pos ⟨trivial, h⟩]
theorem vInt_quo {a b : Int} (h : 0 < b) (h1 : -9223372036854775808 ≤ a) (h2 : a < 9223372036854775808) : vInt .quo (.int .i64 a) (.int .i64 b) = some (.int .i64 (a.tdiv b)) := by
  have e : IntKind.i64.wrap (a.tdiv b) = a.tdiv b := by
    have h3 := Int.natAbs_tdiv_le_natAbs a b
    by_cases h0 : 0 ≤ a
    · have := Int.tdiv_nonneg h0 (Int.le_of_lt h)
      exact wrap64 (by omega) (by omega)
    · have h4 := Int.tdiv_nonneg (a := -a) (by omega) (Int.le_of_lt h)
      rw [Int.neg_tdiv] at h4
      exact wrap64 (by omega) (by omega)
  simp only [vInt]; rw [if_pos ⟨trivial, by omega⟩, e]
theorem ob_i {α : Type} {x : Option α} {a : α} {K : α → Prop} (h : x = some a) (hk : K a) : ob x K := by rw [h]; exact hk
theorem cnd_t1 {A B : Prop} (h : A) : cnd (.bool true) A B := h
theorem cnd_f1 {A B : Prop} (h : B) : cnd (.bool false) A B := h
theorem gop_rt {F : (Value → Hp → Prop) → Prop} {H : Hp} {K : Value → Hp → Prop} (h : F K) : gop (.bool true) true F H K := h
theorem gop_rf {F : (Value → Hp → Prop) → Prop} {H : Hp} {K : Value → Hp → Prop} (h : F K) : gop (.bool false) false F H K := h
theorem gop_st {F : (Value → Hp → Prop) → Prop} {H : Hp} {K : Value → Hp → Prop} (h : K undef H) : gop (.bool true) false F H K := h
theorem gop_sf {F : (Value → Hp → Prop) → Prop} {H : Hp} {K : Value → Hp → Prop} (h : K undef H) : gop (.bool false) true F H K := h
theorem vBool_neq_same (b : Bool) : vBool .neq (.bool b) (.bool b) = some (.bool false) := by simp [vBool]
theorem vInt_neq_same (k : IntKind) (a : Int) : vInt .neq (.int k a) (.int k a) = some (.bool false) := by simp [vInt_neq]
theorem vInt_lss_t {k : IntKind} {a b : Int} (h : a < b) : vInt .lss (.int k a) (.int k b) = some (.bool true) := by simp [vInt_lss, h]
theorem vInt_lss_f {k : IntKind} {a b : Int} (h : ¬ a < b) : vInt .lss (.int k a) (.int k b) = some (.bool false) := by simp only [vInt_lss, h, decide_false]
theorem Own.one {α : Type} {enc : α → Value} {H : Hp} {v : Value} {l : List α} (h : Own enc H v l) : oneCell v = true := by
  obtain ⟨a, c, rfl, _⟩ := h; rfl
theorem Own.cells {α : Type} {enc : α → Value} {H : Hp} {v : Value} {l : List α} (h : Own enc H v l) : v.cells = #[v] := by
  obtain ⟨a, c, rfl, _⟩ := h; rfl
theorem Sl.one {α : Type} {enc : α → Value} {H : Hp} {v : Value} {l : List α} (h : Sl enc H v l) : oneCell v = true := by
  obtain ⟨a, c, rfl, _⟩ := h; rfl
theorem Sl.cells {α : Type} {enc : α → Value} {H : Hp} {v : Value} {l : List α} (h : Sl enc H v l) : v.cells = #[v] := by
  obtain ⟨a, c, rfl, _⟩ := h; rfl

/-- A loop's next round. -/
theorem nxt {I : Nat → S → Hp → Prop} {Q : Exit → S → Hp → Prop} {σ : S} {H : Hp} {n : Nat} (m : Nat) (hm : m < n) (h : I m σ H) : thenQ (fun σ' H' => ∃ m, m < n ∧ I m σ' H') Q .normal σ H := ⟨m, hm, h⟩
theorem retK {K : Value → Hp → Prop} {v v' : Value} {H : Hp} (e : v = v') (h : K v' H) : K v H := e ▸ h

/-- Several ways that meet: what holds where they meet. -/
theorem jn_i {K : S → Hp → Prop} {F : (S → Hp → Prop) → Prop} (P : S → Hp → Prop) (h : ∀ σ H, P σ H → K σ H) (hf : ∀ J : S → Hp → Prop, (∀ σ H, P σ H → J σ H) → F J) : jn K F := hf K h

/-! ### copies -/
theorem growBy_le (n : Nat) : ∀ (r c : Nat), Builtin.growBy n r c ≤ max c (n + (n + 768) / 4)
  | 0, c => by simp only [Builtin.growBy]; omega
  | r + 1, c => by
    simp only [Builtin.growBy]
    split
    · omega
    · have := growBy_le n r (c + (c + 768) / 4)
      omega
theorem nsc_le {n c : Nat} (h : n > c) : Builtin.nextslicecap n c ≤ 2 * n + 1024 := by
  unfold Builtin.nextslicecap
  split
  · omega
  · split
    · omega
    · have := growBy_le n 4 c; omega
theorem bS_nil {α : Type} {enc : α → Value} {z : Value} {sz : Nat} {e : TypeId} {H : Hp} {K : Value → Hp → Prop} (hk : ∀ v H', Own enc H' v [] → Nw H v → bk v = none → Le H H' → K v H') : bS sz 0 #[z] e [] H K := by
  refine ⟨by simp, ?_⟩
  rw [if_pos (by simp)]
  show match some (#[] : Array Value) with
    | some cells => ∀ r, H r = none → K (.slice (some ⟨r, 0, none⟩) 0 0) (H.put r (.cells cells e))
    | none => False
  intro r hr
  refine hk _ _ ⟨some ⟨r, 0, none⟩, 0, rfl, by simp, fun h0 => absurd h0 (by simp)⟩ ?_ rfl (Le.put _ hr)
  intro b hb
  simp [bk] at hb
/-! ### lists by index -/
theorem at_eq {α : Type} (d : α) (l : List α) {i : Nat} (h : i < l.length) : at_ d l (i : Int) = l[i] := by
  unfold at_; rw [Int.toNat_natCast, List.getD_eq_getElem?_getD, List.getElem?_eq_getElem h]; rfl
theorem take_at {α : Type} (d : α) (l : List α) {i : Nat} (h : i < l.length) : l.take (i + 1) = l.take i ++ [at_ d l (i : Int)] := by
  rw [at_eq d l h, List.take_append_getElem h]
theorem at_mem {α : Type} (d : α) (l : List α) {i : Int} (h0 : 0 ≤ i) (h : i < l.length) : at_ d l i ∈ l := by
  have hn : i.toNat < l.length := by omega
  unfold at_; rw [List.getD_eq_getElem?_getD, List.getElem?_eq_getElem hn]; exact List.getElem_mem hn
end Go.Proofs.Ythmdmbbdjbhcoaa.HL
/- Rules for contracts that are told once. -/
namespace Go.Proofs.Ythmdmbbdjbhcoaa.HL
theorem keq {K : Value → Hp → Prop} {v v' : Value} {H : Hp} (e : v = v') (h : K v' H) : K v H := e ▸ h
theorem Own.cast {α : Type} {enc : α → Value} {H : Hp} {v : Value} {l l' : List α} (e : l = l') (h : Own enc H v l) : Own enc H v l' := e ▸ h
theorem Sl.cast {α : Type} {enc : α → Value} {H : Hp} {v : Value} {l l' : List α} (e : l = l') (h : Sl enc H v l) : Sl enc H v l' := e ▸ h
/-- A slice that reads so, and whose block is known. -/
def Ro {α : Type} (enc : α → Value) (H : Hp) (v : Value) (l : List α) : Prop := Sl enc H v l ∧ ∀ b, bk v = some b → ∃ o, H b = some o
section
variable {α : Type} {enc : α → Value} {H H' : Hp} {u v : Value} {l l' : List α}
theorem Ro.sl (h : Ro enc H v l) : Sl enc H v l := h.1
theorem Ro.known (h : Ro enc H v l) : ∀ b, bk v = some b → ∃ o, H b = some o := h.2
theorem Ro.le (h : Ro enc H v l) (hl : Le H H') : Ro enc H' v l := ⟨h.1.le hl, fun b hb => by obtain ⟨o, ho⟩ := h.2 b hb; exact ⟨o, hl b o ho⟩⟩
theorem Sl.off (h : Sl enc H u l) (ho : Off v H H') (ha : Apart u v) : Sl enc H' u l := by
  obtain ⟨a, c, rfl, hc, hr⟩ := h
  refine ⟨a, c, rfl, hc, fun i hi => ?_⟩
  obtain ⟨ad, rfl, hh⟩ := hr i hi
  refine ⟨ad, rfl, ?_⟩
  have hb : (ad.add i).block = ad.block := by unfold Addr.add; split <;> rfl
  have hne : bk v ≠ some ad.block := ha ad.block (by simp only [bk]; rw [if_neg (by omega)])
  unfold Hp.cell? at hh ⊢
  rw [hb] at hh ⊢
  cases hc' : H ad.block with
  | none => simp [hc'] at hh
  | some o => rw [ho _ _ hc' hne]; rw [hc'] at hh; exact hh
theorem Ro.off (h : Ro enc H u l) (ho : Off v H H') (ha : Apart u v) : Ro enc H' u l := ⟨h.1.off ho ha, fun b hb => by obtain ⟨o, hh⟩ := h.2 b hb; exact ⟨o, ho b o hh (ha b hb)⟩⟩
theorem Ro.apart (h : Ro enc H u l) (hn : Nw H v) : Apart u v := Apart.of_nw h.2 hn
theorem Ro.cast (e : l = l') (h : Ro enc H v l) : Ro enc H v l' := e ▸ h
theorem Ro.len (h : Ro enc H v l) : vLenSl v = some (.int .i64 l.length) := h.1.len
theorem Ro.one (h : Ro enc H v l) : oneCell v = true := h.1.one
theorem Ro.cells (h : Ro enc H v l) : v.cells = #[v] := h.1.cells
end
theorem gop_e {b c g : Bool} {F : (Value → Hp → Prop) → Prop} {H : Hp} {K : Value → Hp → Prop} (e : b = c) (h : gop (.bool c) g F H K) : gop (.bool b) g F H K := by rw [e]; exact h
theorem vPick_et {b : Bool} (e : b = true) (x y : Value) : vPick (.bool b) x y = some x := by rw [e]; rfl
theorem vPick_ef {b : Bool} (e : b = false) (x y : Value) : vPick (.bool b) x y = some y := by rw [e]; rfl
/-- A number, or 0 where something does not hold. -/
def selI (p : Prop) [Decidable p] (x : Int) : Int := if p then x else 0
/-- A list, or none where something does not hold. -/
def selL {α : Type} (p : Prop) [Decidable p] (l : List α) : List α := if p then l else []
theorem selI_t {p : Prop} [Decidable p] {x : Int} (h : p) : selI p x = x := if_pos h
theorem selI_f {p : Prop} [Decidable p] {x : Int} (h : ¬ p) : selI p x = 0 := if_neg h
theorem selL_t {α : Type} {p : Prop} [Decidable p] {l : List α} (h : p) : selL p l = l := if_pos h
theorem selL_f {α : Type} {p : Prop} [Decidable p] {l : List α} (h : ¬ p) : selL p l = [] := if_neg h
theorem selL_len {α : Type} {p : Prop} [Decidable p] {l : List α} {n : Nat} (h : p → l.length ≤ n) : (selL p l).length ≤ n := by
  unfold selL
  split
  · rename_i hp; exact h hp
  · simp
end Go.Proofs.Ythmdmbbdjbhcoaa.HL
/- Functions' texts over a partial heap. -/
namespace Go.Proofs.Ythmdmbbdjbhcoaa
open HL
set_option linter.unusedVariables false
set_option maxRecDepth 100000
set_option maxHeartbeats 4000000
/-! loop.example/g01381/laws.szInt64S: function 43 -/
def F.laws_szInt64S (a0 a1 : Value) (H : Hp) (K : Value → Hp → Prop) : Prop :=
  ob (vLenSl a0) fun v7x1 =>
  ob (vInt .sub a1 v7x1) fun v8x2 =>
  ob (vInt .lss v8x2 (.int .i64 0)) fun v10x3 =>
  cnd v10x3
    (K (.int .i64 (-1)) H)
    (K v8x2 H)
def O.laws_szInt64S : Nat → Nat × List Nat := fun i => (0, [])
theorem R.laws_szInt64S {a0 a1 : Value} {H : Hp} {K : Value → Hp → Prop} (h : F.laws_szInt64S a0 a1 H K) : HT prg I.laws_szInt64S [a0, a1].toArray H K :=
  HT_of_fev O.laws_szInt64S mixed Try.func43 (by kernel_rfl) (Eq.mpr (by kernel_rfl : fev prg O.laws_szInt64S Try.f43 [a0, a1] H K = F.laws_szInt64S a0 a1 H K) h)

/-! loop.example/g01381/laws.szRule: function 8 -/
def F.laws_szRule (a0 a1 : Value) (H : Hp) (K : Value → Hp → Prop) : Prop :=
  nw (a0 : Value).cells 24 H fun v2x1 H2 =>
  ob (vFa 2 v2x1) fun v5x3 =>
  ob (vLoad v5x3 H2) fun v6x4 =>
  HT prg I.laws_szInt64S [v6x4, a1].toArray H2 fun v8x5 H6 =>
  ob (vInt .lss v8x5 (.int .i64 0)) fun v10x7 =>
  cnd v10x7
    (K (.int .i64 (-1)) H6)
    (K v8x5 H6)
def O.laws_szRule : Nat → Nat × List Nat := fun i => (0, [])
theorem R.laws_szRule {a0 a1 : Value} {H : Hp} {K : Value → Hp → Prop} (h : F.laws_szRule a0 a1 H K) : HT prg I.laws_szRule [a0, a1].toArray H K :=
  HT_of_fev O.laws_szRule mixed Try.func8 (by kernel_rfl) (Eq.mpr (by kernel_rfl : fev prg O.laws_szRule Try.f8 [a0, a1] H K = F.laws_szRule a0 a1 H K) h)

/-! loop.example/g01381/spec.l00In: function 59 -/
def F.spec_l00In (a0 a1 a2 : Value) (H : Hp) (K : Value → Hp → Prop) : Prop :=
  ob (vInt .geq a0 a1) fun v9x1 =>
  gop v9x1 true (fun K2 => K2 a0 H) H fun v11x3 H4 =>
  gop v9x1 true (fun K5 => K5 a2 H4) H4 fun v12x6 H7 =>
  gop v9x1 true (fun K8 => ob (vInt .leq v11x3 v12x6) fun u => K8 u H7) H7 fun v13x9 H10 =>
  ob (vPick v9x1 v13x9 (.bool false)) fun v14x11 =>
  K v14x11 H10
def O.spec_l00In : Nat → Nat × List Nat := fun i => (0, [])
theorem R.spec_l00In {a0 a1 a2 : Value} {H : Hp} {K : Value → Hp → Prop} (h : F.spec_l00In a0 a1 a2 H K) : HT prg I.spec_l00In [a0, a1, a2].toArray H K :=
  HT_of_fev O.spec_l00In mixed Try.func59 (by kernel_rfl) (Eq.mpr (by kernel_rfl : fev prg O.spec_l00In Try.f59 [a0, a1, a2] H K = F.spec_l00In a0 a1 a2 H K) h)

/-! loop.example/g01381/spec.l02Powers: function 120 -/
def F.spec_l02Powers (a0 a1 : Value) (H : Hp) (K : Value → Hp → Prop) : Prop :=
  jn (fun σ1 H1 =>
    K (σ1 5) H1) fun J1 =>
  lpE (fun Q2 σ2 H2 =>
    ob (vInt .gtr (σ2 1) (.int .i64 0)) fun v7x3 =>
    cnd v7x3
      (ob (vInt .mul (σ2 5) (σ2 0)) fun v12x4 =>
    ob (vInt .sub (σ2 1) (.int .i64 1)) fun v9x5 =>
    Q2 .normal (up (up (up (up (up (up (up (up (up σ2 6 (σ2 1)) 7 v7x3) 10 (σ2 5)) 11 (σ2 0)) 12 v12x4) 5 v12x4) 8 (σ2 1)) 9 v9x5) 1 v9x5) H2)
      (Q2 (.exit 0) (up (up σ2 6 (σ2 1)) 7 v7x3) H2)) (blkQ 0 (thenQ J1 (retQ prg [(.tmp 4)] K))) (up (up (S0 [a0, a1]) 4 (.int .i64 0)) 5 (.int .i64 1)) H
def O.spec_l02Powers : Nat → Nat × List Nat := fun i => (0, [])
theorem R.spec_l02Powers {a0 a1 : Value} {H : Hp} {K : Value → Hp → Prop} (h : F.spec_l02Powers a0 a1 H K) : HT prg I.spec_l02Powers [a0, a1].toArray H K :=
  HT_of_fev O.spec_l02Powers mixed Try.func120 (by kernel_rfl) (Eq.mpr (by kernel_rfl : fev prg O.spec_l02Powers Try.f120 [a0, a1] H K = F.spec_l02Powers a0 a1 H K) h)

/-! loop.example/g01381/spec.l02Is: function 88 -/
def F.spec_l02Is (a0 : Value) (H : Hp) (K : Value → Hp → Prop) : Prop :=
  ob (vNilC a0) fun v5x1 =>
  ob (vFa 0 v5x1) fun v6x2 =>
  ob (vLoad v6x2 H) fun v7x3 =>
  HT prg I.spec_l00In [v7x3, (.int .i64 2), (.int .i64 3)].toArray H fun v8x4 H5 =>
  Le H H5 ∧ (ob (vUn .not v8x4) fun v9x6 =>
  gop v9x6 false (fun K7 => K7 a0 H5) H5 fun v11x8 H9 =>
  gop v9x6 false (fun K10 => ob (vNilC v11x8) fun u => K10 u H9) H9 fun v12x11 H12 =>
  gop v9x6 false (fun K13 => ob (vFa 1 v12x11) fun u => K13 u H12) H12 fun v13x14 H15 =>
  gop v9x6 false (fun K16 => ob (vLoad v13x14 H15) fun u => K16 u H15) H15 fun v14x17 H18 =>
  gop v9x6 false (fun K19 => HT prg I.spec_l00In [v14x17, (.int .i64 0), (.int .i64 2)].toArray H18 fun v15x20 H21 =>
  Le H18 H21 ∧ K19 v15x20 H21) H18 fun v15x22 H23 =>
  gop v9x6 false (fun K24 => ob (vUn .not v15x22) fun u => K24 u H23) H23 fun v16x25 H26 =>
  ob (vPick v9x6 (.bool true) v16x25) fun v17x27 =>
  gop v17x27 false (fun K28 => K28 a0 H26) H26 fun v19x29 H30 =>
  gop v17x27 false (fun K31 => ob (vNilC v19x29) fun u => K31 u H30) H30 fun v20x32 H33 =>
  gop v17x27 false (fun K34 => ob (vFa 2 v20x32) fun u => K34 u H33) H33 fun v21x35 H36 =>
  gop v17x27 false (fun K37 => ob (vLoad v21x35 H36) fun u => K37 u H36) H36 fun v22x38 H39 =>
  gop v17x27 false (fun K40 => ob (vLenSl v22x38) fun u => K40 u H39) H39 fun v23x41 H42 =>
  gop v17x27 false (fun K43 => K43 a0 H42) H42 fun v24x44 H45 =>
  gop v17x27 false (fun K46 => ob (vNilC v24x44) fun u => K46 u H45) H45 fun v25x47 H48 =>
  gop v17x27 false (fun K49 => ob (vFa 0 v25x47) fun u => K49 u H48) H48 fun v26x50 H51 =>
  gop v17x27 false (fun K52 => ob (vLoad v26x50 H51) fun u => K52 u H51) H51 fun v27x53 H54 =>
  gop v17x27 false (fun K55 => K55 a0 H54) H54 fun v28x56 H57 =>
  gop v17x27 false (fun K58 => ob (vNilC v28x56) fun u => K58 u H57) H57 fun v29x59 H60 =>
  gop v17x27 false (fun K61 => ob (vFa 1 v29x59) fun u => K61 u H60) H60 fun v30x62 H63 =>
  gop v17x27 false (fun K64 => ob (vLoad v30x62 H63) fun u => K64 u H63) H63 fun v31x65 H66 =>
  gop v17x27 false (fun K67 => ob (vInt .mul (.int .i64 2) v31x65) fun u => K67 u H66) H66 fun v32x68 H69 =>
  gop v17x27 false (fun K70 => ob (vInt .add v32x68 (.int .i64 1)) fun u => K70 u H69) H69 fun v33x71 H72 =>
  gop v17x27 false (fun K73 => HT prg I.spec_l02Powers [v27x53, v33x71].toArray H72 fun v34x74 H75 =>
  Le H72 H75 ∧ K73 v34x74 H75) H72 fun v34x76 H77 =>
  gop v17x27 false (fun K78 => ob (vInt .neq v23x41 v34x76) fun u => K78 u H77) H77 fun v35x79 H80 =>
  ob (vPick v17x27 (.bool true) v35x79) fun v36x81 =>
  cnd v36x81
    (K (.bool false) H80)
    (jn (fun σ82 H82 =>
    K (.bool true) H82) fun J82 =>
  lpE (fun Q83 σ83 H83 =>
    ob (vNilC (σ83 0)) fun v39x84 =>
    ob (vFa 2 v39x84) fun v40x85 =>
    ob (vLoad v40x85 H83) fun v41x86 =>
    ob (vLenSl v41x86) fun v42x87 =>
    ob (vInt .lss (σ83 3) v42x87) fun v43x88 =>
    cnd v43x88
      (ob (vNilC (σ83 0)) fun v47x89 =>
    ob (vFa 2 v47x89) fun v48x90 =>
    ob (vLoad v48x90 H83) fun v49x91 =>
    ob (vIx 1 v49x91 (σ83 3)) fun v51x92 =>
    ob (vLoad v51x92 H83) fun v52x93 =>
    ob (vNilC (σ83 0)) fun v54x94 =>
    ob (vFa 0 v54x94) fun v55x95 =>
    ob (vLoad v55x95 H83) fun v56x96 =>
    ob (vInt .sub v56x96 (.int .i64 1)) fun v57x97 =>
    HT prg I.spec_l00In [v52x93, (.int .i64 0), v57x97].toArray H83 fun v58x98 H99 =>
    Le H83 H99 ∧ (ob (vUn .not v58x98) fun v59x100 =>
    cnd v59x100
      (Q83 .ret (up (up (up (up (up (up (up (up (up (up (up (up (up (up (up (up (up (up (up (up (up (up σ83 37 (σ83 3)) 38 (σ83 0)) 39 v39x84) 40 v40x85) 41 v41x86) 42 v42x87) 43 v43x88) 46 (σ83 0)) 47 v47x89) 48 v48x90) 49 v49x91) 50 (σ83 3)) 51 v51x92) 52 v52x93) 53 (σ83 0)) 54 v54x94) 55 v55x95) 56 v56x96) 57 v57x97) 58 v58x98) 59 v59x100) 2 (.bool false)) H99)
      (ob (vInt .add (σ83 3) (.int .i64 1)) fun v45x101 =>
    Q83 .normal (up (up (up (up (up (up (up (up (up (up (up (up (up (up (up (up (up (up (up (up (up (up (up (up σ83 37 (σ83 3)) 38 (σ83 0)) 39 v39x84) 40 v40x85) 41 v41x86) 42 v42x87) 43 v43x88) 46 (σ83 0)) 47 v47x89) 48 v48x90) 49 v49x91) 50 (σ83 3)) 51 v51x92) 52 v52x93) 53 (σ83 0)) 54 v54x94) 55 v55x95) 56 v56x96) 57 v57x97) 58 v58x98) 59 v59x100) 44 (σ83 3)) 45 v45x101) 3 v45x101) H99)))
      (Q83 (.exit 0) (up (up (up (up (up (up (up σ83 37 (σ83 3)) 38 (σ83 0)) 39 v39x84) 40 v40x85) 41 v41x86) 42 v42x87) 43 v43x88) H83)) (blkQ 0 (thenQ J82 (retQ prg [(.tmp 2)] K))) (up (up (up (up (up (up (up (up (up (up (up (up (up (up (up (up (up (up (up (up (up (up (up (up (up (up (up (up (up (up (up (up (up (up (up (S0 [a0]) 2 (.bool false)) 4 a0) 5 v5x1) 6 v6x2) 7 v7x3) 8 v8x4) 9 v9x6) 10 v9x6) 11 v11x8) 12 v12x11) 13 v13x14) 14 v14x17) 15 v15x22) 16 v16x25) 17 v17x27) 18 v17x27) 19 v19x29) 20 v20x32) 21 v21x35) 22 v22x38) 23 v23x41) 24 v24x44) 25 v25x47) 26 v26x50) 27 v27x53) 28 v28x56) 29 v29x59) 30 v30x62) 31 v31x65) 32 v32x68) 33 v33x71) 34 v34x76) 35 v35x79) 36 v36x81) 3 (.int .i64 0)) H80))
def O.spec_l02Is : Nat → Nat × List Nat := fun i => bif Nat.beq i 1 then (0, [0, 1, 2, 3, 4, 5, 6, 7, 8, 9, 10, 11, 12, 13, 14, 15, 16, 17, 18, 19, 20, 21, 22, 23, 24, 25, 26, 27, 28, 29, 30, 31, 32]) else bif Nat.beq i 6 then (0, [0, 1, 2, 3, 4, 5, 6, 7, 8, 9, 10, 11, 12, 13]) else (0, [])
theorem R.spec_l02Is {a0 : Value} {H : Hp} {K : Value → Hp → Prop} (h : F.spec_l02Is a0 H K) : HT prg I.spec_l02Is [a0].toArray H K :=
  HT_of_fev O.spec_l02Is mixed Try.func88 (by kernel_rfl) (Eq.mpr (by kernel_rfl : fev prg O.spec_l02Is Try.f88 [a0] H K = F.spec_l02Is a0 H K) h)

/-! loop.example/g01381/spec.l03Wide: function 89 -/
def F.spec_l03Wide (a0 : Value) (H : Hp) (K : Value → Hp → Prop) : Prop :=
  ob (vNilC a0) fun v4x1 =>
  ob (vFa 1 v4x1) fun v5x2 =>
  ob (vLoad v5x2 H) fun v6x3 =>
  ob (vInt .mul (.int .i64 2) v6x3) fun v7x4 =>
  ob (vInt .add v7x4 (.int .i64 1)) fun v8x5 =>
  K v8x5 H
def O.spec_l03Wide : Nat → Nat × List Nat := fun i => (0, [])
theorem R.spec_l03Wide {a0 : Value} {H : Hp} {K : Value → Hp → Prop} (h : F.spec_l03Wide a0 H K) : HT prg I.spec_l03Wide [a0].toArray H K :=
  HT_of_fev O.spec_l03Wide mixed Try.func89 (by kernel_rfl) (Eq.mpr (by kernel_rfl : fev prg O.spec_l03Wide Try.f89 [a0] H K = F.spec_l03Wide a0 H K) h)

/-! loop.example/g01381/spec.l03Small: function 44 -/
def F.spec_l03Small (a0 a1 a2 a3 : Value) (H : Hp) (K : Value → Hp → Prop) : Prop :=
  HT prg I.spec_l02Is [a0].toArray H fun v11x1 H2 =>
  ob (vUn .not v11x1) fun v12x3 =>
  cnd v12x3
    (K (.bool false) H2)
    (ob (vNilC a0) fun v15x4 =>
  ob (vFa 0 v15x4) fun v16x5 =>
  ob (vLoad v16x5 H2) fun v17x6 =>
  ob (vInt .eql v17x6 (.int .i64 3)) fun v18x7 =>
  cnd v18x7
    (HT prg I.spec_l03Wide [a0].toArray H2 fun v22x8 H9 =>
  HT prg I.spec_l00In [a1, v22x8, a3].toArray H9 fun v24x10 H11 =>
  K v24x10 H11)
    (HT prg I.spec_l03Wide [a0].toArray H2 fun v22x12 H13 =>
  HT prg I.spec_l00In [a1, v22x12, a2].toArray H13 fun v24x14 H15 =>
  K v24x14 H15))
def O.spec_l03Small : Nat → Nat × List Nat := fun i => (0, [])
theorem R.spec_l03Small {a0 a1 a2 a3 : Value} {H : Hp} {K : Value → Hp → Prop} (h : F.spec_l03Small a0 a1 a2 a3 H K) : HT prg I.spec_l03Small [a0, a1, a2, a3].toArray H K :=
  HT_of_fev O.spec_l03Small mixed Try.func44 (by kernel_rfl) (Eq.mpr (by kernel_rfl : fev prg O.spec_l03Small Try.f44 [a0, a1, a2, a3] H K = F.spec_l03Small a0 a1 a2 a3 H K) h)

/-! loop.example/g01381/spec.l02Told: function 105 -/
def F.spec_l02Told (a0 a1 a2 : Value) (H : Hp) (K : Value → Hp → Prop) : Prop :=
  ob (vLenSl a1) fun v11x1 =>
  jn (fun σ2 H2 =>
    ob (vNilC (σ2 0)) fun v46x3 =>
    ob (vFa 2 v46x3) fun v47x4 =>
    ob (vLoad v47x4 H2) fun v48x5 =>
    ob (vIx 1 v48x5 (σ2 8)) fun v50x6 =>
    ob (vLoad v50x6 H2) fun v51x7 =>
    K v51x7 H2) fun J2 =>
  ob (vNilC a0) fun v14x8 =>
  ob (vFa 1 v14x8) fun v15x9 =>
  ob (vLoad v15x9 H) fun v16x10 =>
  ob (vInt .sub a2 v16x10) fun v17x11 =>
  lpE (fun Q12 σ12 H12 =>
    ob (vNilC (σ12 0)) fun v21x13 =>
    ob (vFa 1 v21x13) fun v22x14 =>
    ob (vLoad v22x14 H12) fun v23x15 =>
    ob (vInt .add (σ12 2) v23x15) fun v24x16 =>
    ob (vInt .leq (σ12 9) v24x16) fun v25x17 =>
    cnd v25x17
      (ob (vNilC (σ12 0)) fun v30x18 =>
    ob (vFa 0 v30x18) fun v31x19 =>
    ob (vLoad v31x19 H12) fun v32x20 =>
    ob (vInt .mul (σ12 8) v32x20) fun v33x21 =>
    ob (vInt .rem (σ12 9) (σ12 7)) fun v37x22 =>
    ob (vInt .add v37x22 (σ12 7)) fun v39x23 =>
    ob (vInt .rem v39x23 (σ12 7)) fun v41x24 =>
    ob (vIx 1 (σ12 1) v41x24) fun v42x25 =>
    ob (vLoad v42x25 H12) fun v43x26 =>
    ob (vInt .add v33x21 v43x26) fun v44x27 =>
    ob (vInt .add (σ12 9) (.int .i64 1)) fun v27x28 =>
    Q12 .normal (up (up (up (up (up (up (up (up (up (up (up (up (up (up (up (up (up (up (up (up (up (up (up (up (up (up (up (up (up σ12 18 (σ12 9)) 19 (σ12 2)) 20 (σ12 0)) 21 v21x13) 22 v22x14) 23 v23x15) 24 v24x16) 25 v25x17) 28 (σ12 8)) 29 (σ12 0)) 30 v30x18) 31 v31x19) 32 v32x20) 33 v33x21) 34 (σ12 1)) 35 (σ12 9)) 36 (σ12 7)) 37 v37x22) 38 (σ12 7)) 39 v39x23) 40 (σ12 7)) 41 v41x24) 42 v42x25) 43 v43x26) 44 v44x27) 8 v44x27) 26 (σ12 9)) 27 v27x28) 9 v27x28) H12)
      (Q12 (.exit 0) (up (up (up (up (up (up (up (up σ12 18 (σ12 9)) 19 (σ12 2)) 20 (σ12 0)) 21 v21x13) 22 v22x14) 23 v23x15) 24 v24x16) 25 v25x17) H12)) (blkQ 0 (thenQ J2 (retQ prg [(.tmp 6)] K))) (up (up (up (up (up (up (up (up (up (up (up (up (S0 [a0, a1, a2]) 6 (.int .i64 0)) 10 a1) 11 v11x1) 7 v11x1) 8 (.int .i64 0)) 12 a2) 13 a0) 14 v14x8) 15 v15x9) 16 v16x10) 17 v17x11) 9 v17x11) H
def O.spec_l02Told : Nat → Nat × List Nat := fun i => bif Nat.beq i 6 then (0, [0, 1, 2, 3, 4, 5, 6, 7, 8, 9, 10, 11, 12, 13, 14, 15, 16, 17]) else (0, [])
theorem R.spec_l02Told {a0 a1 a2 : Value} {H : Hp} {K : Value → Hp → Prop} (h : F.spec_l02Told a0 a1 a2 H K) : HT prg I.spec_l02Told [a0, a1, a2].toArray H K :=
  HT_of_fev O.spec_l02Told mixed Try.func105 (by kernel_rfl) (Eq.mpr (by kernel_rfl : fev prg O.spec_l02Told Try.f105 [a0, a1, a2] H K = F.spec_l02Told a0 a1 a2 H K) h)

/-! loop.example/g01381/spec.l02Step: function 61 -/
def F.spec_l02Step (a0 a1 : Value) (H : Hp) (K : Value → Hp → Prop) : Prop :=
  bS 1 0 #[(.int .i64 0)] 2 [] H fun v7x1 H2 =>
  jn (fun σ3 H3 =>
    K (σ3 5) H3) fun J3 =>
  lpE (fun Q4 σ4 H4 =>
    ob (vLenSl (σ4 1)) fun v10x5 =>
    ob (vInt .lss (σ4 6) v10x5) fun v11x6 =>
    cnd v11x6
      (HT prg I.spec_l02Told [(σ4 0), (σ4 1), (σ4 6)].toArray H4 fun v18x7 H8 =>
    bS 1 1 #[(.int .i64 0)] 2 [(0, v18x7)] H8 fun v19x9 H10 =>
    apd 1 8 #[(.int .i64 0)] 2 (σ4 5) v19x9 H10 fun v20x11 H12 =>
    ob (vInt .add (σ4 6) (.int .i64 1)) fun v13x13 =>
    Q4 .normal (up (up (up (up (up (up (up (up (up (up (up (up (up (up (up σ4 8 (σ4 6)) 9 (σ4 1)) 10 v10x5) 11 v11x6) 14 (σ4 5)) 15 (σ4 0)) 16 (σ4 1)) 17 (σ4 6)) 18 v18x7) 19 v19x9) 20 v20x11) 5 v20x11) 12 (σ4 6)) 13 v13x13) 6 v13x13) H12)
      (Q4 (.exit 0) (up (up (up (up σ4 8 (σ4 6)) 9 (σ4 1)) 10 v10x5) 11 v11x6) H4)) (blkQ 0 (thenQ J3 (retQ prg [(.tmp 4)] K))) (up (up (up (up (S0 [a0, a1]) 4 (.slice none 0 0)) 7 v7x1) 5 v7x1) 6 (.int .i64 0)) H2
def O.spec_l02Step : Nat → Nat × List Nat := fun i => (0, [])
theorem R.spec_l02Step {a0 a1 : Value} {H : Hp} {K : Value → Hp → Prop} (h : F.spec_l02Step a0 a1 H K) : HT prg I.spec_l02Step [a0, a1].toArray H K :=
  HT_of_fev O.spec_l02Step mixed Try.func61 (by kernel_rfl) (Eq.mpr (by kernel_rfl : fev prg O.spec_l02Step Try.f61 [a0, a1] H K = F.spec_l02Step a0 a1 H K) h)

/-! loop.example/g01381/spec.l03Power: function 90 -/
def F.spec_l03Power (a0 a1 : Value) (H : Hp) (K : Value → Hp → Prop) : Prop :=
  jn (fun σ1 H1 =>
    K (σ1 5) H1) fun J1 =>
  lpE (fun Q2 σ2 H2 =>
    ob (vInt .gtr (σ2 1) (.int .i64 0)) fun v7x3 =>
    cnd v7x3
      (ob (vInt .mul (σ2 5) (σ2 0)) fun v12x4 =>
    ob (vInt .sub (σ2 1) (.int .i64 1)) fun v9x5 =>
    Q2 .normal (up (up (up (up (up (up (up (up (up σ2 6 (σ2 1)) 7 v7x3) 10 (σ2 5)) 11 (σ2 0)) 12 v12x4) 5 v12x4) 8 (σ2 1)) 9 v9x5) 1 v9x5) H2)
      (Q2 (.exit 0) (up (up σ2 6 (σ2 1)) 7 v7x3) H2)) (blkQ 0 (thenQ J1 (retQ prg [(.tmp 4)] K))) (up (up (S0 [a0, a1]) 4 (.int .i64 0)) 5 (.int .i64 1)) H
def O.spec_l03Power : Nat → Nat × List Nat := fun i => (0, [])
theorem R.spec_l03Power {a0 a1 : Value} {H : Hp} {K : Value → Hp → Prop} (h : F.spec_l03Power a0 a1 H K) : HT prg I.spec_l03Power [a0, a1].toArray H K :=
  HT_of_fev O.spec_l03Power mixed Try.func90 (by kernel_rfl) (Eq.mpr (by kernel_rfl : fev prg O.spec_l03Power Try.f90 [a0, a1] H K = F.spec_l03Power a0 a1 H K) h)

/-! loop.example/g01381/spec.l03Number: function 91 -/
def F.spec_l03Number (a0 a1 : Value) (H : Hp) (K : Value → Hp → Prop) : Prop :=
  jn (fun σ1 H1 =>
    K (σ1 5) H1) fun J1 =>
  ob (vLenSl a0) fun v8x2 =>
  lpE (fun Q3 σ3 H3 =>
    ob (vInt .lss (σ3 9) (σ3 8)) fun v10x4 =>
    cnd v10x4
      (ob (vInt .mul (σ3 5) (σ3 1)) fun v14x5 =>
    ob (vIx 1 (σ3 0) (σ3 9)) fun v17x6 =>
    ob (vLoad v17x6 H3) fun v18x7 =>
    ob (vInt .add v14x5 v18x7) fun v19x8 =>
    ob (vInt .add (σ3 9) (.int .i64 1)) fun v20x9 =>
    Q3 .normal (up (up (up (up (up (up (up (up (up (up (up (up (up (up σ3 10 v10x4) 11 (σ3 9)) 6 (σ3 9)) 12 (σ3 5)) 13 (σ3 1)) 14 v14x5) 15 (σ3 0)) 16 (σ3 9)) 17 v17x6) 18 v18x7) 19 v19x8) 5 v19x8) 20 v20x9) 9 v20x9) H3)
      (Q3 (.exit 0) (up σ3 10 v10x4) H3)) (blkQ 0 (thenQ J1 (retQ prg [(.tmp 4)] K))) (up (up (up (up (up (S0 [a0, a1]) 4 (.int .i64 0)) 5 (.int .i64 0)) 7 a0) 8 v8x2) 9 (.int .i64 0)) H
def O.spec_l03Number : Nat → Nat × List Nat := fun i => (0, [])
theorem R.spec_l03Number {a0 a1 : Value} {H : Hp} {K : Value → Hp → Prop} (h : F.spec_l03Number a0 a1 H K) : HT prg I.spec_l03Number [a0, a1].toArray H K :=
  HT_of_fev O.spec_l03Number mixed Try.func91 (by kernel_rfl) (Eq.mpr (by kernel_rfl : fev prg O.spec_l03Number Try.f91 [a0, a1] H K = F.spec_l03Number a0 a1 H K) h)

/-! loop.example/g01381/spec.l03Cells: function 92 -/
def F.spec_l03Cells (a0 a1 a2 : Value) (H : Hp) (K : Value → Hp → Prop) : Prop :=
  mkS 1 8 #[(.int .i64 0)] 2 a2 a2 H fun v10x1 H2 =>
  jn (fun σ3 H3 =>
    K (σ3 7) H3) fun J3 =>
  ob (vInt .sub a2 (.int .i64 1)) fun v12x4 =>
  lpE (fun Q5 σ5 H5 =>
    ob (vInt .geq (σ5 8) (.int .i64 0)) fun v14x6 =>
    cnd v14x6
      (ob (vInt .rem (σ5 0) (σ5 1)) fun v21x7 =>
    ob (vIx 1 (σ5 7) (σ5 8)) fun v22x8 =>
    st 1 v22x8 v21x7 H5 fun H9 =>
    ob (vInt .quo (σ5 0) (σ5 1)) fun v25x10 =>
    ob (vInt .sub (σ5 8) (.int .i64 1)) fun v16x11 =>
    Q5 .normal (up (up (up (up (up (up (up (up (up (up (up (up (up (up (up σ5 13 (σ5 8)) 14 v14x6) 17 (σ5 7)) 18 (σ5 8)) 19 (σ5 0)) 20 (σ5 1)) 21 v21x7) 22 v22x8) 23 (σ5 0)) 24 (σ5 1)) 25 v25x10) 0 v25x10) 15 (σ5 8)) 16 v16x11) 8 v16x11) H9)
      (Q5 (.exit 0) (up (up σ5 13 (σ5 8)) 14 v14x6) H5)) (blkQ 0 (thenQ J3 (retQ prg [(.tmp 6)] K))) (up (up (up (up (up (up (up (S0 [a0, a1, a2]) 6 (.slice none 0 0)) 9 a2) 10 v10x1) 7 v10x1) 11 a2) 12 v12x4) 8 v12x4) H2
def O.spec_l03Cells : Nat → Nat × List Nat := fun i => (0, [])
theorem R.spec_l03Cells {a0 a1 a2 : Value} {H : Hp} {K : Value → Hp → Prop} (h : F.spec_l03Cells a0 a1 a2 H K) : HT prg I.spec_l03Cells [a0, a1, a2].toArray H K :=
  HT_of_fev O.spec_l03Cells mixed Try.func92 (by kernel_rfl) (Eq.mpr (by kernel_rfl : fev prg O.spec_l03Cells Try.f92 [a0, a1, a2] H K = F.spec_l03Cells a0 a1 a2 H K) h)

/-! loop.example/g01381/spec.l03Steps: function 45 -/
def F.spec_l03Steps (a0 a1 : Value) (H : Hp) (K : Value → Hp → Prop) : Prop :=
  bS 1 0 #[(.int .i64 0)] 2 [] H fun v7x1 H2 =>
  jn (fun σ3 H3 =>
    K (σ3 5) H3) fun J3 =>
  lpE (fun Q4 σ4 H4 =>
    ob (vNilC (σ4 0)) fun v10x5 =>
    ob (vFa 0 v10x5) fun v11x6 =>
    ob (vLoad v11x6 H4) fun v12x7 =>
    HT prg I.spec_l03Power [v12x7, (σ4 1)].toArray H4 fun v14x8 H9 =>
    ob (vInt .lss (σ4 6) v14x8) fun v15x10 =>
    cnd v15x10
      (ob (vNilC (σ4 0)) fun v22x11 =>
    ob (vFa 0 v22x11) fun v23x12 =>
    ob (vLoad v23x12 H9) fun v24x13 =>
    ob (vNilC (σ4 0)) fun v29x14 =>
    ob (vFa 0 v29x14) fun v30x15 =>
    ob (vLoad v30x15 H9) fun v31x16 =>
    HT prg I.spec_l03Cells [(σ4 6), v24x13, (σ4 1)].toArray H9 fun v26x17 H18 =>
    Le H9 H18 ∧ (HT prg I.spec_l02Step [(σ4 0), v26x17].toArray H18 fun v27x19 H20 =>
    Le H18 H20 ∧ (HT prg I.spec_l03Number [v27x19, v31x16].toArray H20 fun v32x21 H22 =>
    Le H20 H22 ∧ (bS 1 1 #[(.int .i64 0)] 2 [(0, v32x21)] H22 fun v33x23 H24 =>
    apd 1 8 #[(.int .i64 0)] 2 (σ4 5) v33x23 H24 fun v34x25 H26 =>
    ob (vInt .add (σ4 6) (.int .i64 1)) fun v17x27 =>
    Q4 .normal (up (up (up (up (up (up (up (up (up (up (up (up (up (up (up (up (up (up (up (up (up (up (up (up (up (up (up (up (up σ4 8 (σ4 6)) 9 (σ4 0)) 10 v10x5) 11 v11x6) 12 v12x7) 13 (σ4 1)) 14 v14x8) 15 v15x10) 18 (σ4 5)) 19 (σ4 0)) 20 (σ4 6)) 21 (σ4 0)) 22 v22x11) 23 v23x12) 24 v24x13) 25 (σ4 1)) 28 (σ4 0)) 29 v29x14) 30 v30x15) 31 v31x16) 26 v26x17) 27 v27x19) 32 v32x21) 33 v33x23) 34 v34x25) 5 v34x25) 16 (σ4 6)) 17 v17x27) 6 v17x27) H26))))
      (Q4 (.exit 0) (up (up (up (up (up (up (up (up σ4 8 (σ4 6)) 9 (σ4 0)) 10 v10x5) 11 v11x6) 12 v12x7) 13 (σ4 1)) 14 v14x8) 15 v15x10) H9)) (blkQ 0 (thenQ J3 (retQ prg [(.tmp 4)] K))) (up (up (up (up (S0 [a0, a1]) 4 (.slice none 0 0)) 7 v7x1) 5 v7x1) 6 (.int .i64 0)) H2
def O.spec_l03Steps : Nat → Nat × List Nat := fun i => bif Nat.beq i 5 then (0, [0, 1, 2, 3, 4, 5, 6, 7, 10, 11, 12, 13, 8, 9, 14, 15, 16, 17]) else (0, [])
theorem R.spec_l03Steps {a0 a1 : Value} {H : Hp} {K : Value → Hp → Prop} (h : F.spec_l03Steps a0 a1 H K) : HT prg I.spec_l03Steps [a0, a1].toArray H K :=
  HT_of_fev O.spec_l03Steps mixed Try.func45 (by kernel_rfl) (Eq.mpr (by kernel_rfl : fev prg O.spec_l03Steps Try.f45 [a0, a1] H K = F.spec_l03Steps a0 a1 H K) h)

/-! loop.example/g01381/spec.l03Cycles: function 46 -/
def F.spec_l03Cycles (a0 : Value) (H : Hp) (K : Value → Hp → Prop) : Prop :=
  ob (vLenSl a0) fun v11x1 =>
  mkS 1 8 #[(.int .i64 0)] 2 v11x1 v11x1 H fun v12x2 H3 =>
  ob (vLenSl a0) fun v14x4 =>
  mkS 1 8 #[(.int .i64 0)] 2 v14x4 v14x4 H3 fun v15x5 H6 =>
  jn (fun σ7 H7 =>
    K (σ7 3) H7) fun J7 =>
  ob (vLenSl a0) fun v17x8 =>
  lpE (fun Q9 σ9 H9 =>
    ob (vInt .lss (σ9 18) (σ9 17)) fun v19x10 =>
    cnd v19x10
      (jn (fun σ11 H11 =>
      ob (vInt .add (σ11 18) (.int .i64 1)) fun v69x12 =>
      Q9 .normal (up (up σ11 69 v69x12) 18 v69x12) H11) fun J11 =>
    jn (fun σ13 H13 =>
      ob (vIx 1 (σ13 4) (σ13 6)) fun v38x14 =>
      ob (vLoad v38x14 H13) fun v39x15 =>
      ob (vInt .add (σ13 5) (.int .i64 1)) fun v41x16 =>
      ob (vInt .neq v39x15 v41x16) fun v42x17 =>
      cnd v42x17
        (J11 (up (up (up (up (up (up (up σ13 36 (σ13 4)) 37 (σ13 6)) 38 v38x14) 39 v39x15) 40 (σ13 5)) 41 v41x16) 42 v42x17) H13)
        (jn (fun σ18 H18 =>
        lpE (fun Q19 σ19 H19 =>
          ob (vInt .lss (σ19 9) (σ19 7)) fun v58x20 =>
          cnd v58x20
            (ob (vIx 1 (σ19 3) (σ19 6)) fun v64x21 =>
          st 1 v64x21 (σ19 7) H19 fun H22 =>
          ob (vIx 1 (σ19 0) (σ19 6)) fun v67x23 =>
          ob (vLoad v67x23 H22) fun v68x24 =>
          ob (vInt .add (σ19 9) (.int .i64 1)) fun v60x25 =>
          Q19 .normal (up (up (up (up (up (up (up (up (up (up (up (up (up (up (up σ19 56 (σ19 9)) 57 (σ19 7)) 58 v58x20) 61 (σ19 3)) 62 (σ19 6)) 63 (σ19 7)) 64 v64x21) 65 (σ19 0)) 66 (σ19 6)) 67 v67x23) 68 v68x24) 6 v68x24) 59 (σ19 9)) 60 v60x25) 9 v60x25) H22)
            (Q19 (.exit 6) (up (up (up σ19 56 (σ19 9)) 57 (σ19 7)) 58 v58x20) H19)) (blkQ 6 (blkQ 1 (thenQ J11 Q9))) (up σ18 9 (.int .i64 0)) H18) fun J18 =>
      ob (vIx 1 (σ13 0) (σ13 6)) fun v45x26 =>
      ob (vLoad v45x26 H13) fun v46x27 =>
      lpE (fun Q28 σ28 H28 =>
        ob (vInt .neq (σ28 8) (σ28 6)) fun v49x29 =>
        cnd v49x29
          (ob (vInt .add (σ28 7) (.int .i64 1)) fun v55x30 =>
        ob (vIx 1 (σ28 0) (σ28 8)) fun v52x31 =>
        ob (vLoad v52x31 H28) fun v53x32 =>
        Q28 .normal (up (up (up (up (up (up (up (up (up (up (up σ28 47 (σ28 8)) 48 (σ28 6)) 49 v49x29) 54 (σ28 7)) 55 v55x30) 7 v55x30) 50 (σ28 0)) 51 (σ28 8)) 52 v52x31) 53 v53x32) 8 v53x32) H28)
          (Q28 (.exit 4) (up (up (up σ28 47 (σ28 8)) 48 (σ28 6)) 49 v49x29) H28)) (blkQ 4 (thenQ J18 (blkQ 1 (thenQ J11 Q9)))) (up (up (up (up (up (up (up (up (up (up (up (up (up σ13 36 (σ13 4)) 37 (σ13 6)) 38 v38x14) 39 v39x15) 40 (σ13 5)) 41 v41x16) 42 v42x17) 7 (.int .i64 1)) 43 (σ13 0)) 44 (σ13 6)) 45 v45x26) 46 v46x27) 8 v46x27) H13)) fun J13 =>
    lpE (fun Q33 σ33 H33 =>
      ob (vIx 1 (σ33 4) (σ33 6)) fun v24x34 =>
      ob (vLoad v24x34 H33) fun v25x35 =>
      ob (vInt .eql v25x35 (.int .i64 0)) fun v26x36 =>
      cnd v26x36
        (ob (vInt .add (σ33 5) (.int .i64 1)) fun v30x37 =>
      ob (vIx 1 (σ33 4) (σ33 6)) fun v31x38 =>
      st 1 v31x38 v30x37 H33 fun H39 =>
      ob (vIx 1 (σ33 0) (σ33 6)) fun v34x40 =>
      ob (vLoad v34x40 H39) fun v35x41 =>
      Q33 .normal (up (up (up (up (up (up (up (up (up (up (up (up (up (up (up σ33 22 (σ33 4)) 23 (σ33 6)) 24 v24x34) 25 v25x35) 26 v26x36) 27 (σ33 4)) 28 (σ33 6)) 29 (σ33 5)) 30 v30x37) 31 v31x38) 32 (σ33 0)) 33 (σ33 6)) 34 v34x40) 35 v35x41) 6 v35x41) H39)
        (Q33 (.exit 2) (up (up (up (up (up σ33 22 (σ33 4)) 23 (σ33 6)) 24 v24x34) 25 v25x35) 26 v26x36) H33)) (blkQ 2 (thenQ J13 (blkQ 1 (thenQ J11 Q9)))) (up (up (up (up (up σ9 19 v19x10) 20 (σ9 18)) 5 (σ9 18)) 21 (σ9 18)) 6 (σ9 18)) H9)
      (Q9 (.exit 0) (up σ9 19 v19x10) H9)) (blkQ 0 (thenQ J7 (retQ prg [(.tmp 2)] K))) (up (up (up (up (up (up (up (up (up (up (up (up (S0 [a0]) 2 (.slice none 0 0)) 10 a0) 11 v11x1) 12 v12x2) 3 v12x2) 13 a0) 14 v14x4) 15 v15x5) 4 v15x5) 16 a0) 17 v17x8) 18 (.int .i64 0)) H6
def O.spec_l03Cycles : Nat → Nat × List Nat := fun i => (0, [])
theorem R.spec_l03Cycles {a0 : Value} {H : Hp} {K : Value → Hp → Prop} (h : F.spec_l03Cycles a0 H K) : HT prg I.spec_l03Cycles [a0].toArray H K :=
  HT_of_fev O.spec_l03Cycles mixed Try.func46 (by kernel_rfl) (Eq.mpr (by kernel_rfl : fev prg O.spec_l03Cycles Try.f46 [a0] H K = F.spec_l03Cycles a0 H K) h)

/-! loop.example/g01381/laws.toInt64S: function 39 -/
def F.laws_toInt64S (a0 : Value) (H : Hp) (K : Value → Hp → Prop) : Prop :=
  ob (vLenSl a0) fun v6x1 =>
  mkS 1 8 #[(.int .i64 0)] 2 v6x1 v6x1 H fun v7x2 H3 =>
  jn (fun σ4 H4 =>
    K (σ4 3) H4) fun J4 =>
  lpE (fun Q5 σ5 H5 =>
    ob (vLenSl (σ5 0)) fun v10x6 =>
    ob (vInt .lss (σ5 4) v10x6) fun v11x7 =>
    cnd v11x7
      (ob (vIx 1 (σ5 0) (σ5 4)) fun v18x8 =>
    ob (vLoad v18x8 H5) fun v19x9 =>
    ob (vIx 1 (σ5 3) (σ5 4)) fun v20x10 =>
    st 1 v20x10 v19x9 H5 fun H11 =>
    ob (vInt .add (σ5 4) (.int .i64 1)) fun v13x12 =>
    Q5 .normal (up (up (up (up (up (up (up (up (up (up (up (up (up (up σ5 8 (σ5 4)) 9 (σ5 0)) 10 v10x6) 11 v11x7) 14 (σ5 3)) 15 (σ5 4)) 16 (σ5 0)) 17 (σ5 4)) 18 v18x8) 19 v19x9) 20 v20x10) 12 (σ5 4)) 13 v13x12) 4 v13x12) H11)
      (Q5 (.exit 0) (up (up (up (up σ5 8 (σ5 4)) 9 (σ5 0)) 10 v10x6) 11 v11x7) H5)) (blkQ 0 (thenQ J4 (retQ prg [(.tmp 2)] K))) (up (up (up (up (up (up (S0 [a0]) 2 (.slice none 0 0)) 5 a0) 6 v6x1) 7 v7x2) 3 v7x2) 4 (.int .i64 0)) H3
def O.laws_toInt64S : Nat → Nat × List Nat := fun i => (0, [])
theorem R.laws_toInt64S {a0 : Value} {H : Hp} {K : Value → Hp → Prop} (h : F.laws_toInt64S a0 H K) : HT prg I.laws_toInt64S [a0].toArray H K :=
  HT_of_fev O.laws_toInt64S mixed Try.func39 (by kernel_rfl) (Eq.mpr (by kernel_rfl : fev prg O.laws_toInt64S Try.f39 [a0] H K = F.laws_toInt64S a0 H K) h)

/-! loop.example/g01381/laws.toRule: function 10 -/
def F.laws_toRule (a0 : Value) (H : Hp) (K : Value → Hp → Prop) : Prop :=
  nw (a0 : Value).cells 24 H fun v1x1 H2 =>
  nw #[(.int .i64 0), (.int .i64 0), (.slice none 0 0)] 28 H2 fun v2x3 H4 =>
  nw #[(.int .i64 0), (.int .i64 0), (.slice none 0 0)] 28 H4 fun v3x5 H6 =>
  ob (vFa 0 v1x1) fun v4x7 =>
  ob (vLoad v4x7 H6) fun v5x8 =>
  ob (vFa 0 v3x5) fun v6x9 =>
  st 1 v6x9 v5x8 H6 fun H10 =>
  ob (vFa 1 v1x1) fun v7x11 =>
  ob (vLoad v7x11 H10) fun v8x12 =>
  ob (vFa 1 v3x5) fun v9x13 =>
  st 1 v9x13 v8x12 H10 fun H14 =>
  ob (vFa 2 v1x1) fun v10x15 =>
  ob (vLoad v10x15 H14) fun v11x16 =>
  HT prg I.laws_toInt64S [v11x16].toArray H14 fun v12x17 H18 =>
  ob (vFa 2 v3x5) fun v13x19 =>
  st 1 v13x19 v12x17 H18 fun H20 =>
  ob (vLoadN 3 v3x5 H20) fun v14x21 =>
  st 3 v2x3 v14x21 H20 fun H22 =>
  ob (vLoadN 3 v2x3 H22) fun u23 => K u23 H22
def O.laws_toRule : Nat → Nat × List Nat := fun i => (0, [])
theorem R.laws_toRule {a0 : Value} {H : Hp} {K : Value → Hp → Prop} (h : F.laws_toRule a0 H K) : HT prg I.laws_toRule [a0].toArray H K :=
  HT_of_fev O.laws_toRule mixed Try.func10 (by kernel_rfl) (Eq.mpr (by kernel_rfl : fev prg O.laws_toRule Try.f10 [a0] H K = F.laws_toRule a0 H K) h)

/-! loop.example/g01381/impl.within: function 80 -/
def F.impl_within (a0 a1 a2 : Value) (H : Hp) (K : Value → Hp → Prop) : Prop :=
  ob (vInt .geq a0 a1) fun v9x1 =>
  gop v9x1 true (fun K2 => K2 a0 H) H fun v11x3 H4 =>
  gop v9x1 true (fun K5 => K5 a2 H4) H4 fun v12x6 H7 =>
  gop v9x1 true (fun K8 => ob (vInt .leq v11x3 v12x6) fun u => K8 u H7) H7 fun v13x9 H10 =>
  ob (vPick v9x1 v13x9 (.bool false)) fun v14x11 =>
  K v14x11 H10
def O.impl_within : Nat → Nat × List Nat := fun i => (0, [])
theorem R.impl_within {a0 a1 a2 : Value} {H : Hp} {K : Value → Hp → Prop} (h : F.impl_within a0 a1 a2 H K) : HT prg I.impl_within [a0, a1, a2].toArray H K :=
  HT_of_fev O.impl_within mixed Try.func80 (by kernel_rfl) (Eq.mpr (by kernel_rfl : fev prg O.impl_within Try.f80 [a0, a1, a2] H K = F.impl_within a0 a1 a2 H K) h)

/-! loop.example/g01381/impl.raised: function 56 -/
def F.impl_raised (a0 a1 : Value) (H : Hp) (K : Value → Hp → Prop) : Prop :=
  jn (fun σ1 H1 =>
    K (σ1 5) H1) fun J1 =>
  lpE (fun Q2 σ2 H2 =>
    ob (vInt .lss (σ2 7) (σ2 6)) fun v8x3 =>
    cnd v8x3
      (ob (vInt .mul (σ2 5) (σ2 0)) fun v11x4 =>
    ob (vInt .add (σ2 7) (.int .i64 1)) fun v12x5 =>
    Q2 .normal (up (up (up (up (up (up (up σ2 8 v8x3) 9 (σ2 5)) 10 (σ2 0)) 11 v11x4) 5 v11x4) 12 v12x5) 7 v12x5) H2)
      (Q2 (.exit 0) (up σ2 8 v8x3) H2)) (blkQ 0 (thenQ J1 (retQ prg [(.tmp 4)] K))) (up (up (up (up (S0 [a0, a1]) 4 (.int .i64 0)) 5 (.int .i64 1)) 6 a1) 7 (.int .i64 0)) H
def O.impl_raised : Nat → Nat × List Nat := fun i => (0, [])
theorem R.impl_raised {a0 a1 : Value} {H : Hp} {K : Value → Hp → Prop} (h : F.impl_raised a0 a1 H K) : HT prg I.impl_raised [a0, a1].toArray H K :=
  HT_of_fev O.impl_raised mixed Try.func56 (by kernel_rfl) (Eq.mpr (by kernel_rfl : fev prg O.impl_raised Try.f56 [a0, a1] H K = F.impl_raised a0 a1 H K) h)

/-! (loop.example/g01381/impl.Rule).cells: function 94 -/
def F.impl_Rule_cells (a0 : Value) (H : Hp) (K : Value → Hp → Prop) : Prop :=
  nw (a0 : Value).cells 28 H fun v1x1 H2 =>
  ob (vFa 1 v1x1) fun v3x3 =>
  ob (vLoad v3x3 H2) fun v4x4 =>
  ob (vInt .mul (.int .i64 2) v4x4) fun v5x5 =>
  ob (vInt .add v5x5 (.int .i64 1)) fun v6x6 =>
  K v6x6 H2
def O.impl_Rule_cells : Nat → Nat × List Nat := fun i => (0, [])
theorem R.impl_Rule_cells {a0 : Value} {H : Hp} {K : Value → Hp → Prop} (h : F.impl_Rule_cells a0 H K) : HT prg I.impl_Rule_cells [a0].toArray H K :=
  HT_of_fev O.impl_Rule_cells mixed Try.func94 (by kernel_rfl) (Eq.mpr (by kernel_rfl : fev prg O.impl_Rule_cells Try.f94 [a0] H K = F.impl_Rule_cells a0 H K) h)

/-! loop.example/g01381/impl.areStates: function 121 -/
def F.impl_areStates (a0 : Value) (H : Hp) (K : Value → Hp → Prop) : Prop :=
  ob (vInt .eql a0 (.int .i64 2)) fun v4x1 =>
  gop v4x1 false (fun K2 => K2 a0 H) H fun v6x3 H4 =>
  gop v4x1 false (fun K5 => ob (vInt .eql v6x3 (.int .i64 3)) fun u => K5 u H4) H4 fun v7x6 H7 =>
  ob (vPick v4x1 (.bool true) v7x6) fun v8x8 =>
  K v8x8 H7
def O.impl_areStates : Nat → Nat × List Nat := fun i => (0, [])
theorem R.impl_areStates {a0 : Value} {H : Hp} {K : Value → Hp → Prop} (h : F.impl_areStates a0 H K) : HT prg I.impl_areStates [a0].toArray H K :=
  HT_of_fev O.impl_areStates mixed Try.func121 (by kernel_rfl) (Eq.mpr (by kernel_rfl : fev prg O.impl_areStates Try.f121 [a0] H K = F.impl_areStates a0 H K) h)

/-! loop.example/g01381/impl.isReach: function 122 -/
def F.impl_isReach (a0 : Value) (H : Hp) (K : Value → Hp → Prop) : Prop :=
  HT prg I.impl_within [a0, (.int .i64 0), (.int .i64 2)].toArray H fun v4x1 H2 =>
  K v4x1 H2
def O.impl_isReach : Nat → Nat × List Nat := fun i => (0, [])
theorem R.impl_isReach {a0 : Value} {H : Hp} {K : Value → Hp → Prop} (h : F.impl_isReach a0 H K) : HT prg I.impl_isReach [a0].toArray H K :=
  HT_of_fev O.impl_isReach mixed Try.func122 (by kernel_rfl) (Eq.mpr (by kernel_rfl : fev prg O.impl_isReach Try.f122 [a0] H K = F.impl_isReach a0 H K) h)

/-! loop.example/g01381/impl.areWithin: function 138 -/
def F.impl_areWithin (a0 a1 a2 : Value) (H : Hp) (K : Value → Hp → Prop) : Prop :=
  jn (fun σ1 H1 =>
    K (.bool true) H1) fun J1 =>
  ob (vLenSl a0) fun v10x2 =>
  lpE (fun Q3 σ3 H3 =>
    ob (vInt .lss (σ3 11) (σ3 10)) fun v12x4 =>
    cnd v12x4
      (ob (vIx 1 (σ3 9) (σ3 11)) fun v13x5 =>
    ob (vLoad v13x5 H3) fun v14x6 =>
    HT prg I.impl_within [v14x6, (σ3 1), (σ3 2)].toArray H3 fun v18x7 H8 =>
    ob (vUn .not v18x7) fun v19x9 =>
    cnd v19x9
      (Q3 .ret (up (up (up (up (up (up (up (up (up (up σ3 12 v12x4) 13 v13x5) 14 v14x6) 8 v14x6) 15 v14x6) 16 (σ3 1)) 17 (σ3 2)) 18 v18x7) 19 v19x9) 6 (.bool false)) H8)
      (ob (vInt .add (σ3 11) (.int .i64 1)) fun v20x10 =>
    Q3 .normal (up (up (up (up (up (up (up (up (up (up (up σ3 12 v12x4) 13 v13x5) 14 v14x6) 8 v14x6) 15 v14x6) 16 (σ3 1)) 17 (σ3 2)) 18 v18x7) 19 v19x9) 20 v20x10) 11 v20x10) H8))
      (Q3 (.exit 0) (up σ3 12 v12x4) H3)) (blkQ 0 (thenQ J1 (retQ prg [(.tmp 6)] K))) (up (up (up (up (S0 [a0, a1, a2]) 6 (.bool false)) 9 a0) 10 v10x2) 11 (.int .i64 0)) H
def O.impl_areWithin : Nat → Nat × List Nat := fun i => (0, [])
theorem R.impl_areWithin {a0 a1 a2 : Value} {H : Hp} {K : Value → Hp → Prop} (h : F.impl_areWithin a0 a1 a2 H K) : HT prg I.impl_areWithin [a0, a1, a2].toArray H K :=
  HT_of_fev O.impl_areWithin mixed Try.func138 (by kernel_rfl) (Eq.mpr (by kernel_rfl : fev prg O.impl_areWithin Try.f138 [a0, a1, a2] H K = F.impl_areWithin a0 a1 a2 H K) h)

/-! loop.example/g01381/impl.areMany: function 123 -/
def F.impl_areMany (a0 a1 a2 a3 a4 : Value) (H : Hp) (K : Value → Hp → Prop) : Prop :=
  ob (vLenSl a0) fun v12x1 =>
  HT prg I.impl_within [v12x1, a1, a2].toArray H fun v15x2 H3 =>
  gop v15x2 true (fun K4 => K4 a0 H3) H3 fun v17x5 H6 =>
  gop v15x2 true (fun K7 => K7 a3 H6) H6 fun v18x8 H9 =>
  gop v15x2 true (fun K10 => K10 a4 H9) H9 fun v19x11 H12 =>
  gop v15x2 true (fun K13 => HT prg I.impl_areWithin [v17x5, v18x8, v19x11].toArray H12 K13) H12 fun v20x14 H15 =>
  ob (vPick v15x2 v20x14 (.bool false)) fun v21x16 =>
  K v21x16 H15
def O.impl_areMany : Nat → Nat × List Nat := fun i => (0, [])
theorem R.impl_areMany {a0 a1 a2 a3 a4 : Value} {H : Hp} {K : Value → Hp → Prop} (h : F.impl_areMany a0 a1 a2 a3 a4 H K) : HT prg I.impl_areMany [a0, a1, a2, a3, a4].toArray H K :=
  HT_of_fev O.impl_areMany mixed Try.func123 (by kernel_rfl) (Eq.mpr (by kernel_rfl : fev prg O.impl_areMany Try.f123 [a0, a1, a2, a3, a4] H K = F.impl_areMany a0 a1 a2 a3 a4 H K) h)

/-! loop.example/g01381/impl.ValidRule: function 93 -/
def F.impl_ValidRule (a0 : Value) (H : Hp) (K : Value → Hp → Prop) : Prop :=
  nw (a0 : Value).cells 28 H fun v1x1 H2 =>
  ob (vFa 0 v1x1) fun v4x3 =>
  ob (vLoad v4x3 H2) fun v5x4 =>
  HT prg I.impl_areStates [v5x4].toArray H2 fun v6x5 H6 =>
  ob (vUn .not v6x5) fun v7x7 =>
  gop v7x7 false (fun K8 => ob (vFa 1 v1x1) fun u => K8 u H6) H6 fun v9x9 H10 =>
  gop v7x7 false (fun K11 => ob (vLoad v9x9 H10) fun u => K11 u H10) H10 fun v10x12 H13 =>
  gop v7x7 false (fun K14 => HT prg I.impl_isReach [v10x12].toArray H13 K14) H13 fun v11x15 H16 =>
  gop v7x7 false (fun K17 => ob (vUn .not v11x15) fun u => K17 u H16) H16 fun v12x18 H19 =>
  ob (vPick v7x7 (.bool true) v12x18) fun v13x20 =>
  cnd v13x20
    (K (.bool false) H19)
    (ob (vFa 0 v1x1) fun v14x21 =>
  ob (vLoad v14x21 H19) fun v15x22 =>
  ob (vLoadN 3 v1x1 H19) fun v16x23 =>
  HT prg I.impl_Rule_cells [v16x23].toArray H19 fun v17x24 H25 =>
  Le H19 H25 ∧ (HT prg I.impl_raised [v15x22, v17x24].toArray H25 fun v18x26 H27 =>
  Le H25 H27 ∧ (ob (vFa 2 v1x1) fun v19x28 =>
  ob (vLoad v19x28 H27) fun v20x29 =>
  ob (vFa 0 v1x1) fun v23x30 =>
  ob (vLoad v23x30 H27) fun v24x31 =>
  ob (vInt .sub v24x31 (.int .i64 1)) fun v25x32 =>
  HT prg I.impl_areMany [v20x29, v18x26, v18x26, (.int .i64 0), v25x32].toArray H27 fun v26x33 H34 =>
  K v26x33 H34)))
def O.impl_ValidRule : Nat → Nat × List Nat := fun i => bif Nat.beq i 3 then (0, [0, 1, 2, 3, 4, 5]) else (0, [])
theorem R.impl_ValidRule {a0 : Value} {H : Hp} {K : Value → Hp → Prop} (h : F.impl_ValidRule a0 H K) : HT prg I.impl_ValidRule [a0].toArray H K :=
  HT_of_fev O.impl_ValidRule mixed Try.func93 (by kernel_rfl) (Eq.mpr (by kernel_rfl : fev prg O.impl_ValidRule Try.f93 [a0] H K = F.impl_ValidRule a0 H K) h)

/-! (loop.example/g01381/impl.Rule).mostCells: function 95 -/
def F.impl_Rule_mostCells (a0 a1 a2 : Value) (H : Hp) (K : Value → Hp → Prop) : Prop :=
  nw (a0 : Value).cells 28 H fun v3x1 H2 =>
  ob (vFa 0 v3x1) fun v7x3 =>
  ob (vLoad v7x3 H2) fun v8x4 =>
  ob (vInt .eql v8x4 (.int .i64 2)) fun v9x5 =>
  cnd v9x5
    (K a1 H2)
    (K a2 H2)
def O.impl_Rule_mostCells : Nat → Nat × List Nat := fun i => (0, [])
theorem R.impl_Rule_mostCells {a0 a1 a2 : Value} {H : Hp} {K : Value → Hp → Prop} (h : F.impl_Rule_mostCells a0 a1 a2 H K) : HT prg I.impl_Rule_mostCells [a0, a1, a2].toArray H K :=
  HT_of_fev O.impl_Rule_mostCells mixed Try.func95 (by kernel_rfl) (Eq.mpr (by kernel_rfl : fev prg O.impl_Rule_mostCells Try.f95 [a0, a1, a2] H K = F.impl_Rule_mostCells a0 a1 a2 H K) h)

/-! loop.example/g01381/impl.small: function 48 -/
def F.impl_small (a0 a1 : Value) (H : Hp) (K : Value → Hp → Prop) : Prop :=
  nw (a0 : Value).cells 28 H fun v2x1 H2 =>
  ob (vLoadN 3 v2x1 H2) fun v5x3 =>
  HT prg I.impl_ValidRule [v5x3].toArray H2 fun v6x4 H5 =>
  Le H2 H5 ∧ (gop v6x4 true (fun K6 => K6 a1 H5) H5 fun v8x7 H8 =>
  gop v6x4 true (fun K9 => ob (vLoadN 3 v2x1 H8) fun u => K9 u H8) H8 fun v9x10 H11 =>
  gop v6x4 true (fun K12 => ob (vLoadN 3 v2x1 H11) fun u => K12 u H11) H11 fun v11x13 H14 =>
  gop v6x4 true (fun K15 => HT prg I.impl_Rule_cells [v9x10].toArray H14 fun v10x16 H17 =>
  Le H14 H17 ∧ K15 v10x16 H17) H14 fun v10x18 H19 =>
  gop v6x4 true (fun K20 => HT prg I.impl_Rule_mostCells [v11x13, (.int .i64 12), (.int .i64 8)].toArray H19 fun v12x21 H22 =>
  Le H19 H22 ∧ K20 v12x21 H22) H19 fun v12x23 H24 =>
  gop v6x4 true (fun K25 => HT prg I.impl_within [v8x7, v10x18, v12x23].toArray H24 fun v13x26 H27 =>
  Le H24 H27 ∧ K25 v13x26 H27) H24 fun v13x28 H29 =>
  ob (vPick v6x4 v13x28 (.bool false)) fun v14x30 =>
  K v14x30 H29)
def O.impl_small : Nat → Nat × List Nat := fun i => bif Nat.beq i 1 then (0, [0, 1, 2, 3, 4, 6, 5, 7, 8, 9, 10]) else (0, [])
theorem R.impl_small {a0 a1 : Value} {H : Hp} {K : Value → Hp → Prop} (h : F.impl_small a0 a1 H K) : HT prg I.impl_small [a0, a1].toArray H K :=
  HT_of_fev O.impl_small mixed Try.func48 (by kernel_rfl) (Eq.mpr (by kernel_rfl : fev prg O.impl_small Try.f48 [a0, a1] H K = F.impl_small a0 a1 H K) h)

/-! loop.example/g01381/impl.numberOf: function 96 -/
def F.impl_numberOf (a0 a1 : Value) (H : Hp) (K : Value → Hp → Prop) : Prop :=
  jn (fun σ1 H1 =>
    K (σ1 5) H1) fun J1 =>
  ob (vLenSl a0) fun v9x2 =>
  lpE (fun Q3 σ3 H3 =>
    ob (vInt .lss (σ3 10) (σ3 9)) fun v11x4 =>
    cnd v11x4
      (ob (vIx 1 (σ3 8) (σ3 10)) fun v12x5 =>
    ob (vLoad v12x5 H3) fun v13x6 =>
    ob (vInt .mul (σ3 5) (σ3 1)) fun v16x7 =>
    ob (vInt .add v16x7 v13x6) fun v18x8 =>
    ob (vInt .add (σ3 10) (.int .i64 1)) fun v19x9 =>
    Q3 .normal (up (up (up (up (up (up (up (up (up (up (up (up σ3 11 v11x4) 12 v12x5) 13 v13x6) 7 v13x6) 14 (σ3 5)) 15 (σ3 1)) 16 v16x7) 17 v13x6) 18 v18x8) 5 v18x8) 19 v19x9) 10 v19x9) H3)
      (Q3 (.exit 0) (up σ3 11 v11x4) H3)) (blkQ 0 (thenQ J1 (retQ prg [(.tmp 4)] K))) (up (up (up (up (up (S0 [a0, a1]) 4 (.int .i64 0)) 5 (.int .i64 0)) 8 a0) 9 v9x2) 10 (.int .i64 0)) H
def O.impl_numberOf : Nat → Nat × List Nat := fun i => (0, [])
theorem R.impl_numberOf {a0 a1 : Value} {H : Hp} {K : Value → Hp → Prop} (h : F.impl_numberOf a0 a1 H K) : HT prg I.impl_numberOf [a0, a1].toArray H K :=
  HT_of_fev O.impl_numberOf mixed Try.func96 (by kernel_rfl) (Eq.mpr (by kernel_rfl : fev prg O.impl_numberOf Try.f96 [a0, a1] H K = F.impl_numberOf a0 a1 H K) h)

/-! loop.example/g01381/impl.floorMod: function 145 -/
def F.impl_floorMod (a0 a1 : Value) (H : Hp) (K : Value → Hp → Prop) : Prop :=
  ob (vInt .rem a0 a1) fun v7x1 =>
  ob (vInt .add v7x1 a1) fun v9x2 =>
  ob (vInt .rem v9x2 a1) fun v11x3 =>
  K v11x3 H
def O.impl_floorMod : Nat → Nat × List Nat := fun i => (0, [])
theorem R.impl_floorMod {a0 a1 : Value} {H : Hp} {K : Value → Hp → Prop} (h : F.impl_floorMod a0 a1 H K) : HT prg I.impl_floorMod [a0, a1].toArray H K :=
  HT_of_fev O.impl_floorMod mixed Try.func145 (by kernel_rfl) (Eq.mpr (by kernel_rfl : fev prg O.impl_floorMod Try.f145 [a0, a1] H K = F.impl_floorMod a0 a1 H K) h)

/-! (loop.example/g01381/impl.Rule).at: function 124 -/
def F.impl_Rule_at (a0 a1 a2 : Value) (H : Hp) (K : Value → Hp → Prop) : Prop :=
  nw (a0 : Value).cells 28 H fun v3x1 H2 =>
  ob (vLenSl a1) fun v11x3 =>
  jn (fun σ4 H4 =>
    ob (vFa 2 (σ4 3)) fun v35x5 =>
    ob (vLoad v35x5 H4) fun v36x6 =>
    ob (vIx 1 v36x6 (σ4 8)) fun v38x7 =>
    ob (vLoad v38x7 H4) fun v39x8 =>
    K v39x8 H4) fun J4 =>
  ob (vFa 1 v3x1) fun v13x9 =>
  ob (vLoad v13x9 H2) fun v14x10 =>
  ob (vInt .sub a2 v14x10) fun v15x11 =>
  lpE (fun Q12 σ12 H12 =>
    ob (vFa 1 (σ12 3)) fun v18x13 =>
    ob (vLoad v18x13 H12) fun v19x14 =>
    ob (vInt .add (σ12 2) v19x14) fun v20x15 =>
    ob (vInt .leq (σ12 9) v20x15) fun v21x16 =>
    cnd v21x16
      (ob (vFa 0 (σ12 3)) fun v25x17 =>
    ob (vLoad v25x17 H12) fun v26x18 =>
    ob (vInt .mul (σ12 8) v26x18) fun v27x19 =>
    HT prg I.impl_floorMod [(σ12 9), (σ12 7)].toArray H12 fun v31x20 H21 =>
    Le H12 H21 ∧ (ob (vIx 1 (σ12 1) v31x20) fun v32x22 =>
    ob (vLoad v32x22 H21) fun v33x23 =>
    ob (vInt .add v27x19 v33x23) fun v34x24 =>
    ob (vInt .add (σ12 9) (.int .i64 1)) fun v23x25 =>
    Q12 .normal (up (up (up (up (up (up (up (up (up (up (up (up (up (up (up (up (up (up (up (up (up σ12 16 (σ12 9)) 17 (σ12 2)) 18 v18x13) 19 v19x14) 20 v20x15) 21 v21x16) 24 (σ12 8)) 25 v25x17) 26 v26x18) 27 v27x19) 28 (σ12 1)) 29 (σ12 9)) 30 (σ12 7)) 31 v31x20) 32 v32x22) 33 v33x23) 34 v34x24) 8 v34x24) 22 (σ12 9)) 23 v23x25) 9 v23x25) H21))
      (Q12 (.exit 0) (up (up (up (up (up (up σ12 16 (σ12 9)) 17 (σ12 2)) 18 v18x13) 19 v19x14) 20 v20x15) 21 v21x16) H12)) (blkQ 0 (thenQ J4 (retQ prg [(.tmp 6)] K))) (up (up (up (up (up (up (up (up (up (up (up (S0 [a0, a1, a2]) 3 v3x1) 6 (.int .i64 0)) 10 a1) 11 v11x3) 7 v11x3) 8 (.int .i64 0)) 12 a2) 13 v13x9) 14 v14x10) 15 v15x11) 9 v15x11) H2
def O.impl_Rule_at : Nat → Nat × List Nat := fun i => bif Nat.beq i 6 then (0, [0, 1, 2, 3, 4, 5, 6, 7, 8, 9, 10, 11]) else (0, [])
theorem R.impl_Rule_at {a0 a1 a2 : Value} {H : Hp} {K : Value → Hp → Prop} (h : F.impl_Rule_at a0 a1 a2 H K) : HT prg I.impl_Rule_at [a0, a1, a2].toArray H K :=
  HT_of_fev O.impl_Rule_at mixed Try.func124 (by kernel_rfl) (Eq.mpr (by kernel_rfl : fev prg O.impl_Rule_at Try.f124 [a0, a1, a2] H K = F.impl_Rule_at a0 a1 a2 H K) h)

/-! (loop.example/g01381/impl.Rule).step: function 97 -/
def F.impl_Rule_step (a0 a1 : Value) (H : Hp) (K : Value → Hp → Prop) : Prop :=
  nw (a0 : Value).cells 28 H fun v2x1 H2 =>
  ob (vLenSl a1) fun v8x3 =>
  mkS 1 8 #[(.int .i64 0)] 2 v8x3 v8x3 H2 fun v9x4 H5 =>
  jn (fun σ6 H6 =>
    K (σ6 5) H6) fun J6 =>
  ob (vLenSl v9x4) fun v11x7 =>
  lpE (fun Q8 σ8 H8 =>
    ob (vInt .lss (σ8 12) (σ8 11)) fun v13x9 =>
    cnd v13x9
      (ob (vLoadN 3 (σ8 2) H8) fun v17x10 =>
    HT prg I.impl_Rule_at [v17x10, (σ8 1), (σ8 12)].toArray H8 fun v20x11 H12 =>
    ob (vIx 1 (σ8 5) (σ8 12)) fun v21x13 =>
    st 1 v21x13 v20x11 H12 fun H14 =>
    ob (vInt .add (σ8 12) (.int .i64 1)) fun v22x15 =>
    Q8 .normal (up (up (up (up (up (up (up (up (up (up (up (up σ8 13 v13x9) 14 (σ8 12)) 6 (σ8 12)) 15 (σ8 5)) 16 (σ8 12)) 17 v17x10) 18 (σ8 1)) 19 (σ8 12)) 20 v20x11) 21 v21x13) 22 v22x15) 12 v22x15) H14)
      (Q8 (.exit 0) (up σ8 13 v13x9) H8)) (blkQ 0 (thenQ J6 (retQ prg [(.tmp 4)] K))) (up (up (up (up (up (up (up (up (up (S0 [a0, a1]) 2 v2x1) 4 (.slice none 0 0)) 7 a1) 8 v8x3) 9 v9x4) 5 v9x4) 10 v9x4) 11 v11x7) 12 (.int .i64 0)) H5
def O.impl_Rule_step : Nat → Nat × List Nat := fun i => (0, [])
theorem R.impl_Rule_step {a0 a1 : Value} {H : Hp} {K : Value → Hp → Prop} (h : F.impl_Rule_step a0 a1 H K) : HT prg I.impl_Rule_step [a0, a1].toArray H K :=
  HT_of_fev O.impl_Rule_step mixed Try.func97 (by kernel_rfl) (Eq.mpr (by kernel_rfl : fev prg O.impl_Rule_step Try.f97 [a0, a1] H K = F.impl_Rule_step a0 a1 H K) h)

/-! loop.example/g01381/impl.digitsOf: function 98 -/
def F.impl_digitsOf (a0 a1 a2 : Value) (H : Hp) (K : Value → Hp → Prop) : Prop :=
  mkS 1 8 #[(.int .i64 0)] 2 a2 a2 H fun v10x1 H2 =>
  jn (fun σ3 H3 =>
    K (σ3 7) H3) fun J3 =>
  ob (vInt .sub a2 (.int .i64 1)) fun v12x4 =>
  lpE (fun Q5 σ5 H5 =>
    ob (vInt .geq (σ5 8) (.int .i64 0)) fun v14x6 =>
    cnd v14x6
      (ob (vInt .rem (σ5 0) (σ5 1)) fun v21x7 =>
    ob (vIx 1 (σ5 7) (σ5 8)) fun v22x8 =>
    st 1 v22x8 v21x7 H5 fun H9 =>
    ob (vInt .quo (σ5 0) (σ5 1)) fun v25x10 =>
    ob (vInt .sub (σ5 8) (.int .i64 1)) fun v16x11 =>
    Q5 .normal (up (up (up (up (up (up (up (up (up (up (up (up (up (up (up σ5 13 (σ5 8)) 14 v14x6) 17 (σ5 7)) 18 (σ5 8)) 19 (σ5 0)) 20 (σ5 1)) 21 v21x7) 22 v22x8) 23 (σ5 0)) 24 (σ5 1)) 25 v25x10) 0 v25x10) 15 (σ5 8)) 16 v16x11) 8 v16x11) H9)
      (Q5 (.exit 0) (up (up σ5 13 (σ5 8)) 14 v14x6) H5)) (blkQ 0 (thenQ J3 (retQ prg [(.tmp 6)] K))) (up (up (up (up (up (up (up (S0 [a0, a1, a2]) 6 (.slice none 0 0)) 9 a2) 10 v10x1) 7 v10x1) 11 a2) 12 v12x4) 8 v12x4) H2
def O.impl_digitsOf : Nat → Nat × List Nat := fun i => (0, [])
theorem R.impl_digitsOf {a0 a1 a2 : Value} {H : Hp} {K : Value → Hp → Prop} (h : F.impl_digitsOf a0 a1 a2 H K) : HT prg I.impl_digitsOf [a0, a1, a2].toArray H K :=
  HT_of_fev O.impl_digitsOf mixed Try.func98 (by kernel_rfl) (Eq.mpr (by kernel_rfl : fev prg O.impl_digitsOf Try.f98 [a0, a1, a2] H K = F.impl_digitsOf a0 a1 a2 H K) h)

/-! (loop.example/g01381/impl.Rule).steps: function 49 -/
def F.impl_Rule_steps (a0 a1 : Value) (H : Hp) (K : Value → Hp → Prop) : Prop :=
  nw (a0 : Value).cells 28 H fun v2x1 H2 =>
  bS 1 0 #[(.int .i64 0)] 2 [] H2 fun v7x3 H4 =>
  jn (fun σ5 H5 =>
    K (σ5 5) H5) fun J5 =>
  ob (vFa 0 v2x1) fun v8x6 =>
  ob (vLoad v8x6 H4) fun v9x7 =>
  HT prg I.impl_raised [v9x7, a1].toArray H4 fun v11x8 H9 =>
  lpE (fun Q10 σ10 H10 =>
    ob (vInt .lss (σ10 12) (σ10 11)) fun v13x11 =>
    cnd v13x11
      (ob (vLoadN 3 (σ10 2) H10) fun v16x12 =>
    ob (vFa 0 (σ10 2)) fun v18x13 =>
    ob (vLoad v18x13 H10) fun v19x14 =>
    ob (vFa 0 (σ10 2)) fun v23x15 =>
    ob (vLoad v23x15 H10) fun v24x16 =>
    HT prg I.impl_digitsOf [(σ10 12), v19x14, (σ10 1)].toArray H10 fun v21x17 H18 =>
    Le H10 H18 ∧ (HT prg I.impl_Rule_step [v16x12, v21x17].toArray H18 fun v22x19 H20 =>
    Le H18 H20 ∧ (HT prg I.impl_numberOf [v22x19, v24x16].toArray H20 fun v25x21 H22 =>
    Le H20 H22 ∧ (bS 1 1 #[(.int .i64 0)] 2 [(0, v25x21)] H22 fun v26x23 H24 =>
    apd 1 8 #[(.int .i64 0)] 2 (σ10 5) v26x23 H24 fun v27x25 H26 =>
    ob (vInt .add (σ10 12) (.int .i64 1)) fun v28x27 =>
    Q10 .normal (up (up (up (up (up (up (up (up (up (up (up (up (up (up (up (up (up (up (up σ10 13 v13x11) 14 (σ10 12)) 6 (σ10 12)) 15 (σ10 5)) 16 v16x12) 17 (σ10 12)) 18 v18x13) 19 v19x14) 20 (σ10 1)) 23 v23x15) 24 v24x16) 21 v21x17) 22 v22x19) 25 v25x21) 26 v26x23) 27 v27x25) 5 v27x25) 28 v28x27) 12 v28x27) H26))))
      (Q10 (.exit 0) (up σ10 13 v13x11) H10)) (blkQ 0 (thenQ J5 (retQ prg [(.tmp 4)] K))) (up (up (up (up (up (up (up (up (up (S0 [a0, a1]) 2 v2x1) 4 (.slice none 0 0)) 7 v7x3) 5 v7x3) 8 v8x6) 9 v9x7) 10 a1) 11 v11x8) 12 (.int .i64 0)) H9
def O.impl_Rule_steps : Nat → Nat × List Nat := fun i => bif Nat.beq i 5 then (0, [0, 1, 2, 3, 4, 5, 8, 9, 6, 7, 10, 11, 12, 13]) else (0, [])
theorem R.impl_Rule_steps {a0 a1 : Value} {H : Hp} {K : Value → Hp → Prop} (h : F.impl_Rule_steps a0 a1 H K) : HT prg I.impl_Rule_steps [a0, a1].toArray H K :=
  HT_of_fev O.impl_Rule_steps mixed Try.func49 (by kernel_rfl) (Eq.mpr (by kernel_rfl : fev prg O.impl_Rule_steps Try.f49 [a0, a1] H K = F.impl_Rule_steps a0 a1 H K) h)

/-! (loop.example/g01381/impl.Rule).inCycles: function 50 -/
def F.impl_Rule_inCycles (a0 a1 : Value) (H : Hp) (K : Value → Hp → Prop) : Prop :=
  nw (a0 : Value).cells 28 H fun v2x1 H2 =>
  ob (vLenSl a1) fun v13x3 =>
  mkS 1 8 #[(.int .i64 0)] 2 v13x3 v13x3 H2 fun v14x4 H5 =>
  ob (vLenSl a1) fun v16x6 =>
  ob (vLenSl a1) fun v19x7 =>
  mkS 1 8 #[(.int .i64 0)] 2 v16x6 v16x6 H5 fun v17x8 H9 =>
  mkS 1 8 #[(.int .i64 0)] 2 v19x7 v19x7 H9 fun v20x10 H11 =>
  jn (fun σ12 H12 =>
    K (σ12 5) H12) fun J12 =>
  ob (vLenSl a1) fun v22x13 =>
  lpE (fun Q14 σ14 H14 =>
    ob (vInt .lss (σ14 23) (σ14 22)) fun v24x15 =>
    cnd v24x15
      (jn (fun σ16 H16 =>
      ob (vInt .add (σ16 23) (.int .i64 1)) fun v73x17 =>
      Q14 .normal (up (up σ16 73 v73x17) 23 v73x17) H16) fun J16 =>
    jn (fun σ18 H18 =>
      ob (vIx 1 (σ18 6) (σ18 9)) fun v49x19 =>
      ob (vLoad v49x19 H18) fun v50x20 =>
      ob (vInt .add (σ18 8) (.int .i64 1)) fun v52x21 =>
      ob (vInt .neq v50x20 v52x21) fun v53x22 =>
      cnd v53x22
        (J16 (up (up (up (up (up (up (up σ18 47 (σ18 6)) 48 (σ18 9)) 49 v49x19) 50 v50x20) 51 (σ18 8)) 52 v52x21) 53 v53x22) H18)
        (ob (vIx 1 (σ18 7) (σ18 9)) fun v57x23 =>
      ob (vLoad v57x23 H18) fun v58x24 =>
      ob (vInt .sub (σ18 10) v58x24) fun v59x25 =>
      lpE (fun Q26 σ26 H26 =>
        ob (vIx 1 (σ26 5) (σ26 9)) fun v63x27 =>
        st 1 v63x27 (σ26 11) H26 fun H28 =>
        ob (vIx 1 (σ26 1) (σ26 9)) fun v66x29 =>
        ob (vLoad v66x29 H28) fun v67x30 =>
        ob (vIx 1 (σ26 5) v67x30) fun v70x31 =>
        ob (vLoad v70x31 H28) fun v71x32 =>
        ob (vInt .neq v71x32 (.int .i64 0)) fun v72x33 =>
        cnd v72x33
          (Q26 (.exit 4) (up (up (up (up (up (up (up (up (up (up (up (up (up (up σ26 60 (σ26 5)) 61 (σ26 9)) 62 (σ26 11)) 63 v63x27) 64 (σ26 1)) 65 (σ26 9)) 66 v66x29) 67 v67x30) 9 v67x30) 68 (σ26 5)) 69 v67x30) 70 v70x31) 71 v71x32) 72 v72x33) H28)
          (Q26 .normal (up (up (up (up (up (up (up (up (up (up (up (up (up (up σ26 60 (σ26 5)) 61 (σ26 9)) 62 (σ26 11)) 63 v63x27) 64 (σ26 1)) 65 (σ26 9)) 66 v66x29) 67 v67x30) 9 v67x30) 68 (σ26 5)) 69 v67x30) 70 v70x31) 71 v71x32) 72 v72x33) H28)) (blkQ 4 (blkQ 1 (thenQ J16 Q14))) (up (up (up (up (up (up (up (up (up (up (up (up (up (up σ18 47 (σ18 6)) 48 (σ18 9)) 49 v49x19) 50 v50x20) 51 (σ18 8)) 52 v52x21) 53 v53x22) 54 (σ18 10)) 55 (σ18 7)) 56 (σ18 9)) 57 v57x23) 58 v58x24) 59 v59x25) 11 v59x25) H18)) fun J18 =>
    lpE (fun Q34 σ34 H34 =>
      ob (vIx 1 (σ34 6) (σ34 9)) fun v29x35 =>
      ob (vLoad v29x35 H34) fun v30x36 =>
      ob (vInt .eql v30x36 (.int .i64 0)) fun v31x37 =>
      cnd v31x37
        (ob (vInt .add (σ34 8) (.int .i64 1)) fun v37x38 =>
      ob (vIx 1 (σ34 6) (σ34 9)) fun v39x39 =>
      st 1 v39x39 v37x38 H34 fun H40 =>
      ob (vIx 1 (σ34 7) (σ34 9)) fun v40x41 =>
      st 1 v40x41 (σ34 10) H40 fun H42 =>
      ob (vIx 1 (σ34 1) (σ34 9)) fun v43x43 =>
      ob (vLoad v43x43 H42) fun v44x44 =>
      ob (vInt .add (σ34 10) (.int .i64 1)) fun v46x45 =>
      Q34 .normal (up (up (up (up (up (up (up (up (up (up (up (up (up (up (up (up (up (up (up (up (up (up σ34 27 (σ34 6)) 28 (σ34 9)) 29 v29x35) 30 v30x36) 31 v31x37) 32 (σ34 6)) 33 (σ34 9)) 34 (σ34 7)) 35 (σ34 9)) 36 (σ34 8)) 37 v37x38) 38 (σ34 10)) 39 v39x39) 40 v40x41) 41 (σ34 1)) 42 (σ34 9)) 43 v43x43) 44 v44x44) 9 v44x44) 45 (σ34 10)) 46 v46x45) 10 v46x45) H42)
        (Q34 (.exit 2) (up (up (up (up (up σ34 27 (σ34 6)) 28 (σ34 9)) 29 v29x35) 30 v30x36) 31 v31x37) H34)) (blkQ 2 (thenQ J18 (blkQ 1 (thenQ J16 Q14)))) (up (up (up (up (up (up σ14 24 v24x15) 25 (σ14 23)) 8 (σ14 23)) 26 (σ14 23)) 9 (σ14 23)) 10 (.int .i64 0)) H14)
      (Q14 (.exit 0) (up σ14 24 v24x15) H14)) (blkQ 0 (thenQ J12 (retQ prg [(.tmp 4)] K))) (up (up (up (up (up (up (up (up (up (up (up (up (up (up (up (up (up (S0 [a0, a1]) 2 v2x1) 4 (.slice none 0 0)) 12 a1) 13 v13x3) 14 v14x4) 5 v14x4) 15 a1) 16 v16x6) 18 a1) 19 v19x7) 17 v17x8) 6 v17x8) 20 v20x10) 7 v20x10) 21 a1) 22 v22x13) 23 (.int .i64 0)) H11
def O.impl_Rule_inCycles : Nat → Nat × List Nat := fun i => bif Nat.beq i 2 then (0, [0, 1, 3, 4, 2, 6, 5, 7]) else (0, [])
theorem R.impl_Rule_inCycles {a0 a1 : Value} {H : Hp} {K : Value → Hp → Prop} (h : F.impl_Rule_inCycles a0 a1 H K) : HT prg I.impl_Rule_inCycles [a0, a1].toArray H K :=
  HT_of_fev O.impl_Rule_inCycles mixed Try.func50 (by kernel_rfl) (Eq.mpr (by kernel_rfl : fev prg O.impl_Rule_inCycles Try.f50 [a0, a1] H K = F.impl_Rule_inCycles a0 a1 H K) h)

/-! loop.example/g01381/laws.eqInt64S: function 15 -/
def F.laws_eqInt64S (a0 a1 : Value) (H : Hp) (K : Value → Hp → Prop) : Prop :=
  ob (vLenSl a0) fun v7x1 =>
  ob (vLenSl a1) fun v9x2 =>
  ob (vInt .neq v7x1 v9x2) fun v10x3 =>
  cnd v10x3
    (K (.bool false) H)
    (jn (fun σ4 H4 =>
    K (.bool true) H4) fun J4 =>
  lpE (fun Q5 σ5 H5 =>
    ob (vLenSl (σ5 0)) fun v13x6 =>
    ob (vInt .lss (σ5 5) v13x6) fun v14x7 =>
    cnd v14x7
      (ob (vIx 1 (σ5 0) (σ5 5)) fun v19x8 =>
    ob (vLoad v19x8 H5) fun v20x9 =>
    ob (vIx 1 (σ5 1) (σ5 5)) fun v23x10 =>
    ob (vLoad v23x10 H5) fun v24x11 =>
    ob (vInt .neq v20x9 v24x11) fun v25x12 =>
    cnd v25x12
      (Q5 .ret (up (up (up (up (up (up (up (up (up (up (up (up (up (up σ5 11 (σ5 5)) 12 (σ5 0)) 13 v13x6) 14 v14x7) 17 (σ5 0)) 18 (σ5 5)) 19 v19x8) 20 v20x9) 21 (σ5 1)) 22 (σ5 5)) 23 v23x10) 24 v24x11) 25 v25x12) 4 (.bool false)) H5)
      (ob (vInt .add (σ5 5) (.int .i64 1)) fun v16x13 =>
    Q5 .normal (up (up (up (up (up (up (up (up (up (up (up (up (up (up (up (up σ5 11 (σ5 5)) 12 (σ5 0)) 13 v13x6) 14 v14x7) 17 (σ5 0)) 18 (σ5 5)) 19 v19x8) 20 v20x9) 21 (σ5 1)) 22 (σ5 5)) 23 v23x10) 24 v24x11) 25 v25x12) 15 (σ5 5)) 16 v16x13) 5 v16x13) H5))
      (Q5 (.exit 0) (up (up (up (up σ5 11 (σ5 5)) 12 (σ5 0)) 13 v13x6) 14 v14x7) H5)) (blkQ 0 (thenQ J4 (retQ prg [(.tmp 4)] K))) (up (up (up (up (up (up (up (S0 [a0, a1]) 4 (.bool false)) 6 a0) 7 v7x1) 8 a1) 9 v9x2) 10 v10x3) 5 (.int .i64 0)) H)
def O.laws_eqInt64S : Nat → Nat × List Nat := fun i => bif Nat.beq i 6 then (0, [0, 1, 2, 3, 4, 5, 6, 7, 8]) else (0, [])
theorem R.laws_eqInt64S {a0 a1 : Value} {H : Hp} {K : Value → Hp → Prop} (h : F.laws_eqInt64S a0 a1 H K) : HT prg I.laws_eqInt64S [a0, a1].toArray H K :=
  HT_of_fev O.laws_eqInt64S mixed Try.func15 (by kernel_rfl) (Eq.mpr (by kernel_rfl : fev prg O.laws_eqInt64S Try.f15 [a0, a1] H K = F.laws_eqInt64S a0 a1 H K) h)

/-! loop.example/g01381/laws.eqRule: function 12 -/
def F.laws_eqRule (a0 a1 : Value) (H : Hp) (K : Value → Hp → Prop) : Prop :=
  nw (a0 : Value).cells 28 H fun v2x1 H2 =>
  nw (a1 : Value).cells 28 H2 fun v3x3 H4 =>
  ob (vFa 0 v2x1) fun v5x5 =>
  ob (vLoad v5x5 H4) fun v6x6 =>
  ob (vFa 0 v3x3) fun v7x7 =>
  ob (vLoad v7x7 H4) fun v8x8 =>
  ob (vInt .neq v6x6 v8x8) fun v9x9 =>
  cnd v9x9
    (K (.bool false) H4)
    (ob (vFa 1 v2x1) fun v10x10 =>
  ob (vLoad v10x10 H4) fun v11x11 =>
  ob (vFa 1 v3x3) fun v12x12 =>
  ob (vLoad v12x12 H4) fun v13x13 =>
  ob (vInt .neq v11x11 v13x13) fun v14x14 =>
  cnd v14x14
    (K (.bool false) H4)
    (ob (vFa 2 v2x1) fun v15x15 =>
  ob (vLoad v15x15 H4) fun v16x16 =>
  ob (vFa 2 v3x3) fun v17x17 =>
  ob (vLoad v17x17 H4) fun v18x18 =>
  HT prg I.laws_eqInt64S [v16x16, v18x18].toArray H4 fun v19x19 H20 =>
  ob (vUn .not v19x19) fun v20x21 =>
  cnd v20x21
    (K (.bool false) H20)
    (K (.bool true) H20)))
def O.laws_eqRule : Nat → Nat × List Nat := fun i => (0, [])
theorem R.laws_eqRule {a0 a1 : Value} {H : Hp} {K : Value → Hp → Prop} (h : F.laws_eqRule a0 a1 H K) : HT prg I.laws_eqRule [a0, a1].toArray H K :=
  HT_of_fev O.laws_eqRule mixed Try.func12 (by kernel_rfl) (Eq.mpr (by kernel_rfl : fev prg O.laws_eqRule Try.f12 [a0, a1] H K = F.laws_eqRule a0 a1 H K) h)

/-! loop.example/g01381/spec.CyclesOf: function 13 -/
def F.spec_CyclesOf (a0 a1 : Value) (H : Hp) (K : Value → Hp → Prop) : Prop :=
  nw (a0 : Value).cells 28 H fun v2x1 H2 =>
  HT prg I.spec_l03Small [v2x1, a1, (.int .i64 12), (.int .i64 8)].toArray H2 fun v14x3 H4 =>
  ob (vUn .not v14x3) fun v15x5 =>
  cnd v15x5
    (K (.tuple #[(.slice none 0 0), (.int .i64 0), (.bool false)]) H4)
    (HT prg I.spec_l03Steps [v2x1, a1].toArray H4 fun v17x6 H7 =>
  HT prg I.spec_l03Cycles [v17x6].toArray H7 fun v18x8 H9 =>
  ob (vLenSl v18x8) fun v20x10 =>
  ob (vInt .add v20x10 (.int .i64 1)) fun v21x11 =>
  mkS 1 8 #[(.int .i64 0)] 2 v21x11 v21x11 H9 fun v22x12 H13 =>
  jn (fun σ14 H14 =>
    bS 1 0 #[(.int .i64 0)] 2 [] H14 fun v45x15 H16 =>
    jn (fun σ17 H17 =>
      K (.tuple #[(σ17 11), (σ17 9), (.bool true)]) H17) fun J17 =>
    ob (vLenSl (σ14 8)) fun v47x18 =>
    lpE (fun Q19 σ19 H19 =>
      ob (vInt .lss (σ19 48) (σ19 47)) fun v49x20 =>
      cnd v49x20
        (ob (vIx 1 (σ19 8) (σ19 48)) fun v53x21 =>
      ob (vLoad v53x21 H19) fun v54x22 =>
      ob (vInt .gtr v54x22 (.int .i64 0)) fun v55x23 =>
      cnd v55x23
        (ob (vIx 1 (σ19 8) (σ19 48)) fun v60x24 =>
        ob (vLoad v60x24 H19) fun v61x25 =>
        bS 1 2 #[(.int .i64 0)] 2 [(0, (σ19 48)), (1, v61x25)] H19 fun v62x26 H27 =>
        apd 1 8 #[(.int .i64 0)] 2 (σ19 11) v62x26 H27 fun v63x28 H29 =>
        ob (vInt .add (σ19 48) (.int .i64 1)) fun v64x30 =>
      Q19 .normal (up (up (up (up (up (up (up (up (up (up (up (up (up (up (up (up (up (up (up σ19 49 v49x20) 50 (σ19 48)) 12 (σ19 48)) 51 (σ19 8)) 52 (σ19 48)) 53 v53x21) 54 v54x22) 55 v55x23) 56 (σ19 11)) 57 (σ19 48)) 58 (σ19 8)) 59 (σ19 48)) 60 v60x24) 61 v61x25) 62 v62x26) 63 v63x28) 11 v63x28) 64 v64x30) 48 v64x30) H29)
        (ob (vInt .add (σ19 48) (.int .i64 1)) fun v64x31 =>
      Q19 .normal (up (up (up (up (up (up (up (up (up (up σ19 49 v49x20) 50 (σ19 48)) 12 (σ19 48)) 51 (σ19 8)) 52 (σ19 48)) 53 v53x21) 54 v54x22) 55 v55x23) 64 v64x31) 48 v64x31) H19))
        (Q19 (.exit 2) (up σ19 49 v49x20) H19)) (blkQ 2 (thenQ J17 (retQ prg [(.tmp 4), (.tmp 5), (.tmp 6)] K))) (up (up (up (up (up σ14 45 v45x15) 11 v45x15) 46 (σ14 8)) 47 v47x18) 48 (.int .i64 0)) H16) fun J14 =>
  ob (vLenSl v18x8) fun v24x32 =>
  lpE (fun Q33 σ33 H33 =>
    ob (vInt .lss (σ33 25) (σ33 24)) fun v26x34 =>
    cnd v26x34
      (ob (vIx 1 (σ33 7) (σ33 25)) fun v30x35 =>
    ob (vLoad v30x35 H33) fun v31x36 =>
    ob (vInt .gtr v31x36 (.int .i64 0)) fun v32x37 =>
    cnd v32x37
      (ob (vIx 1 (σ33 7) (σ33 25)) fun v36x38 =>
      ob (vLoad v36x38 H33) fun v37x39 =>
      ob (vIx 1 (σ33 8) v37x39) fun v38x40 =>
      ob (vLoad v38x40 H33) fun v39x41 =>
      ob (vInt .add v39x41 (.int .i64 1)) fun v40x42 =>
      ob (vIx 1 (σ33 8) v37x39) fun v41x43 =>
      st 1 v41x43 v40x42 H33 fun H44 =>
      ob (vInt .add (σ33 9) (.int .i64 1)) fun v43x45 =>
      ob (vInt .add (σ33 25) (.int .i64 1)) fun v44x46 =>
    Q33 .normal (up (up (up (up (up (up (up (up (up (up (up (up (up (up (up (up (up (up (up (up (up (up σ33 26 v26x34) 27 (σ33 25)) 10 (σ33 25)) 28 (σ33 7)) 29 (σ33 25)) 30 v30x35) 31 v31x36) 32 v32x37) 33 (σ33 8)) 34 (σ33 7)) 35 (σ33 25)) 36 v36x38) 37 v37x39) 38 v38x40) 39 v39x41) 40 v40x42) 41 v41x43) 42 (σ33 9)) 43 v43x45) 9 v43x45) 44 v44x46) 25 v44x46) H44)
      (ob (vInt .add (σ33 25) (.int .i64 1)) fun v44x47 =>
    Q33 .normal (up (up (up (up (up (up (up (up (up (up σ33 26 v26x34) 27 (σ33 25)) 10 (σ33 25)) 28 (σ33 7)) 29 (σ33 25)) 30 v30x35) 31 v31x36) 32 v32x37) 44 v44x47) 25 v44x47) H33))
      (Q33 (.exit 0) (up σ33 26 v26x34) H33)) (blkQ 0 (thenQ J14 (retQ prg [(.tmp 4), (.tmp 5), (.tmp 6)] K))) (up (up (up (up (up (up (up (up (up (up (up (up (up (up (up (up (up (up (up (up (S0 [a0, a1]) 2 v2x1) 4 (.slice none 0 0)) 5 (.int .i64 0)) 6 (.bool false)) 13 a1) 14 v14x3) 15 v15x5) 16 a1) 17 v17x6) 18 v18x8) 7 v18x8) 19 v18x8) 20 v20x10) 21 v21x11) 22 v22x12) 8 v22x12) 9 (.int .i64 0)) 23 v18x8) 24 v24x32) 25 (.int .i64 0)) H13)
def O.spec_CyclesOf : Nat → Nat × List Nat := fun i => (0, [])
theorem R.spec_CyclesOf {a0 a1 : Value} {H : Hp} {K : Value → Hp → Prop} (h : F.spec_CyclesOf a0 a1 H K) : HT prg I.spec_CyclesOf [a0, a1].toArray H K :=
  HT_of_fev O.spec_CyclesOf mixed Try.func13 (by kernel_rfl) (Eq.mpr (by kernel_rfl : fev prg O.spec_CyclesOf Try.f13 [a0, a1] H K = F.spec_CyclesOf a0 a1 H K) h)

end Go.Proofs.Ythmdmbbdjbhcoaa
/- Functions' texts over a partial heap. -/
namespace Go.Proofs.Ythmdmbbdjbhcoaa
open HL
set_option linter.unusedVariables false
set_option maxRecDepth 100000
set_option maxHeartbeats 4000000
/-! loop.example/g01381/impl.CyclesOf: function 14 -/
def F.impl_CyclesOf (a0 a1 : Value) (H : Hp) (K : Value → Hp → Prop) : Prop :=
  nw (a0 : Value).cells 28 H fun v2x1 H2 =>
  ob (vLoadN 3 v2x1 H2) fun v16x3 =>
  HT prg I.impl_small [v16x3, a1].toArray H2 fun v18x4 H5 =>
  ob (vUn .not v18x4) fun v19x6 =>
  cnd v19x6
    (K (.tuple #[(.slice none 0 0), (.int .i64 0), (.bool false)]) H5)
    (opEv.nwM H5 fun v20x7 H8 =>
  jn (fun σ9 H9 =>
    bS 1 0 #[(.int .i64 0)] 2 [] H9 fun v40x10 H11 =>
    jn (fun σ12 H12 =>
      HT prg I.slices_Sort_int64Zint64 [(σ12 11)].toArray H12 fun v52x13 H14 =>
      bS 1 0 #[(.int .i64 0)] 2 [] H14 fun v53x15 H16 =>
      jn (fun σ17 H17 =>
        K (.tuple #[(σ17 13), (σ17 8), (.bool true)]) H17) fun J17 =>
      ob (vLenSl (σ12 11)) fun v55x18 =>
      lpE (fun Q19 σ19 H19 =>
        ob (vInt .lss (σ19 56) (σ19 55)) fun v57x20 =>
        cnd v57x20
          (ob (vIx 1 (σ19 54) (σ19 56)) fun v58x21 =>
        ob (vLoad v58x21 H19) fun v59x22 =>
        hp prg (Instr.lookup 72 (σ19 7) v59x22 false) H19 fun v64x23 H24 =>
        bS 1 2 #[(.int .i64 0)] 2 [(0, v59x22), (1, v64x23)] H24 fun v65x25 H26 =>
        apd 1 8 #[(.int .i64 0)] 2 (σ19 13) v65x25 H26 fun v66x27 H28 =>
        ob (vInt .add (σ19 56) (.int .i64 1)) fun v67x29 =>
        Q19 .normal (up (up (up (up (up (up (up (up (up (up (up (up (up (up σ19 57 v57x20) 58 v58x21) 59 v59x22) 15 v59x22) 60 (σ19 13)) 61 v59x22) 62 (σ19 7)) 63 v59x22) 64 v64x23) 65 v65x25) 66 v66x27) 13 v66x27) 67 v67x29) 56 v67x29) H28)
          (Q19 (.exit 4) (up σ19 57 v57x20) H19)) (blkQ 4 (thenQ J17 (retQ prg [(.tmp 4), (.tmp 5), (.tmp 6)] K))) (up (up (up (up (up (up (up σ12 51 (σ12 11)) 52 v52x13) 53 v53x15) 13 v53x15) 54 (σ12 11)) 55 v55x18) 56 (.int .i64 0)) H16) fun J12 =>
    hp prg (Instr.range 72 (σ9 7)) H11 fun v42x30 H31 =>
    lpE (fun Q32 σ32 H32 =>
      hp prg (Instr.next (σ32 42) false 0) H32 fun v43x33 H34 =>
      ob (vExt v43x33 0) fun v44x35 =>
      cnd v44x35
        (hp prg (Instr.entry (σ32 42)) H34 fun v45x36 H37 =>
      ob (vExt v45x36 0) fun v46x38 =>
      bS 1 1 #[(.int .i64 0)] 2 [(0, v46x38)] H37 fun v49x39 H40 =>
      apd 1 8 #[(.int .i64 0)] 2 (σ32 11) v49x39 H40 fun v50x41 H42 =>
      Q32 .normal (up (up (up (up (up (up (up (up (up (up σ32 43 v43x33) 44 v44x35) 45 v45x36) 46 v46x38) 12 v46x38) 47 (σ32 11)) 48 v46x38) 49 v49x39) 50 v50x41) 11 v50x41) H42)
        (Q32 (.exit 2) (up (up σ32 43 v43x33) 44 v44x35) H34)) (blkQ 2 (thenQ J12 (retQ prg [(.tmp 4), (.tmp 5), (.tmp 6)] K))) (up (up (up (up σ9 40 v40x10) 11 v40x10) 41 (σ9 7)) 42 v42x30) H31) fun J9 =>
  ob (vLoadN 3 v2x1 H8) fun v21x43 =>
  ob (vLoadN 3 v2x1 H8) fun v22x44 =>
  HT prg I.impl_Rule_steps [v22x44, a1].toArray H8 fun v24x45 H46 =>
  Le H8 H46 ∧ (HT prg I.impl_Rule_inCycles [v21x43, v24x45].toArray H46 fun v25x47 H48 =>
  Le H46 H48 ∧ (ob (vLenSl v25x47) fun v26x49 =>
  lpE (fun Q50 σ50 H50 =>
    ob (vInt .lss (σ50 27) (σ50 26)) fun v28x51 =>
    cnd v28x51
      (ob (vIx 1 (σ50 25) (σ50 27)) fun v29x52 =>
    ob (vLoad v29x52 H50) fun v30x53 =>
    ob (vInt .gtr v30x53 (.int .i64 0)) fun v32x54 =>
    cnd v32x54
      (hp prg (Instr.lookup 72 (σ50 7) v30x53 false) H50 fun v35x55 H56 =>
      ob (vInt .add v35x55 (.int .i64 1)) fun v36x57 =>
      hp prg (Instr.mapUpdate 72 (σ50 7) v30x53 v36x57) H56 fun _ H58 =>
      ob (vInt .add (σ50 8) (.int .i64 1)) fun v38x59 =>
      ob (vInt .add (σ50 27) (.int .i64 1)) fun v39x60 =>
    Q50 .normal (up (up (up (up (up (up (up (up (up (up (up (up (up (up (up σ50 28 v28x51) 29 v29x52) 30 v30x53) 10 v30x53) 31 v30x53) 32 v32x54) 33 (σ50 7)) 34 v30x53) 35 v35x55) 36 v36x57) 37 (σ50 8)) 38 v38x59) 8 v38x59) 39 v39x60) 27 v39x60) H58)
      (ob (vInt .add (σ50 27) (.int .i64 1)) fun v39x61 =>
    Q50 .normal (up (up (up (up (up (up (up (up σ50 28 v28x51) 29 v29x52) 30 v30x53) 10 v30x53) 31 v30x53) 32 v32x54) 39 v39x61) 27 v39x61) H50))
      (Q50 (.exit 0) (up σ50 28 v28x51) H50)) (blkQ 0 (thenQ J9 (retQ prg [(.tmp 4), (.tmp 5), (.tmp 6)] K))) (up (up (up (up (up (up (up (up (up (up (up (up (up (up (up (up (up (up (S0 [a0, a1]) 2 v2x1) 4 (.slice none 0 0)) 5 (.int .i64 0)) 6 (.bool false)) 16 v16x3) 17 a1) 18 v18x4) 19 v19x6) 20 v20x7) 7 v20x7) 8 (.int .i64 0)) 21 v21x43) 22 v22x44) 23 a1) 27 (.int .i64 0)) 24 v24x45) 25 v25x47) 26 v26x49) H48)))
def O.impl_CyclesOf : Nat → Nat × List Nat := fun i => bif Nat.beq i 5 then (0, [0, 1, 2, 6, 3, 4, 5]) else (0, [])
theorem R.impl_CyclesOf {a0 a1 : Value} {H : Hp} {K : Value → Hp → Prop} (h : F.impl_CyclesOf a0 a1 H K) : HT prg I.impl_CyclesOf [a0, a1].toArray H K :=
  HT_of_fev O.impl_CyclesOf mixed Try.func14 (by kernel_rfl) (Eq.mpr (by kernel_rfl : fev prg O.impl_CyclesOf Try.f14 [a0, a1] H K = F.impl_CyclesOf a0 a1 H K) h)

/-! loop.example/g01381/laws.markInt64S: function 17 -/
def F.laws_markInt64S (a0 a1 : Value) (H : Hp) (K : Value → Hp → Prop) : Prop :=
  jn (fun σ1 H1 =>
    K (σ1 1) H1) fun J1 =>
  lpE (fun Q2 σ2 H2 =>
    ob (vLenSl (σ2 0)) fun v8x3 =>
    ob (vInt .lss (σ2 5) v8x3) fun v9x4 =>
    cnd v9x4
      (ob (vIx 1 (σ2 0) (σ2 5)) fun v15x5 =>
    st 1 v15x5 (σ2 1) H2 fun H6 =>
    ob (vInt .add (σ2 1) (.int .i64 1)) fun v17x7 =>
    ob (vInt .add (σ2 5) (.int .i64 1)) fun v11x8 =>
    Q2 .normal (up (up (up (up (up (up (up (up (up (up (up (up (up (up σ2 6 (σ2 5)) 7 (σ2 0)) 8 v8x3) 9 v9x4) 12 (σ2 0)) 13 (σ2 5)) 14 (σ2 1)) 15 v15x5) 16 (σ2 1)) 17 v17x7) 1 v17x7) 10 (σ2 5)) 11 v11x8) 5 v11x8) H6)
      (Q2 (.exit 0) (up (up (up (up σ2 6 (σ2 5)) 7 (σ2 0)) 8 v8x3) 9 v9x4) H2)) (blkQ 0 (thenQ J1 (retQ prg [(.tmp 4)] K))) (up (up (S0 [a0, a1]) 4 (.int .i64 0)) 5 (.int .i64 0)) H
def O.laws_markInt64S : Nat → Nat × List Nat := fun i => (0, [])
theorem R.laws_markInt64S {a0 a1 : Value} {H : Hp} {K : Value → Hp → Prop} (h : F.laws_markInt64S a0 a1 H K) : HT prg I.laws_markInt64S [a0, a1].toArray H K :=
  HT_of_fev O.laws_markInt64S mixed Try.func17 (by kernel_rfl) (Eq.mpr (by kernel_rfl : fev prg O.laws_markInt64S Try.f17 [a0, a1] H K = F.laws_markInt64S a0 a1 H K) h)

/-! loop.example/g01381/laws.markRule: function 16 -/
def F.laws_markRule (a0 a1 : Value) (H : Hp) (K : Value → Hp → Prop) : Prop :=
  nw (a0 : Value).cells 28 H fun v2x1 H2 =>
  ob (vFa 2 v2x1) fun v5x3 =>
  ob (vLoad v5x3 H2) fun v6x4 =>
  HT prg I.laws_markInt64S [v6x4, a1].toArray H2 fun v8x5 H6 =>
  K v8x5 H6
def O.laws_markRule : Nat → Nat × List Nat := fun i => (0, [])
theorem R.laws_markRule {a0 a1 : Value} {H : Hp} {K : Value → Hp → Prop} (h : F.laws_markRule a0 a1 H K) : HT prg I.laws_markRule [a0, a1].toArray H K :=
  HT_of_fev O.laws_markRule mixed Try.func16 (by kernel_rfl) (Eq.mpr (by kernel_rfl : fev prg O.laws_markRule Try.f16 [a0, a1] H K = F.laws_markRule a0 a1 H K) h)

/-! loop.example/g01381/laws.heldInt64S: function 18 -/
def F.laws_heldInt64S (a0 a1 : Value) (H : Hp) (K : Value → Hp → Prop) : Prop :=
  jn (fun σ1 H1 =>
    K (σ1 1) H1) fun J1 =>
  lpE (fun Q2 σ2 H2 =>
    ob (vLenSl (σ2 0)) fun v8x3 =>
    ob (vInt .lss (σ2 5) v8x3) fun v9x4 =>
    cnd v9x4
      (ob (vIx 1 (σ2 0) (σ2 5)) fun v14x5 =>
    ob (vLoad v14x5 H2) fun v15x6 =>
    ob (vInt .neq v15x6 (σ2 1)) fun v17x7 =>
    cnd v17x7
      (Q2 .ret (up (up (up (up (up (up (up (up (up (up (up σ2 6 (σ2 5)) 7 (σ2 0)) 8 v8x3) 9 v9x4) 12 (σ2 0)) 13 (σ2 5)) 14 v14x5) 15 v15x6) 16 (σ2 1)) 17 v17x7) 4 (.int .i64 (-1))) H2)
      (ob (vInt .add (σ2 1) (.int .i64 1)) fun v19x8 =>
    ob (vInt .add (σ2 5) (.int .i64 1)) fun v11x9 =>
    Q2 .normal (up (up (up (up (up (up (up (up (up (up (up (up (up (up (up (up σ2 6 (σ2 5)) 7 (σ2 0)) 8 v8x3) 9 v9x4) 12 (σ2 0)) 13 (σ2 5)) 14 v14x5) 15 v15x6) 16 (σ2 1)) 17 v17x7) 18 (σ2 1)) 19 v19x8) 1 v19x8) 10 (σ2 5)) 11 v11x9) 5 v11x9) H2))
      (Q2 (.exit 0) (up (up (up (up σ2 6 (σ2 5)) 7 (σ2 0)) 8 v8x3) 9 v9x4) H2)) (blkQ 0 (thenQ J1 (retQ prg [(.tmp 4)] K))) (up (up (S0 [a0, a1]) 4 (.int .i64 0)) 5 (.int .i64 0)) H
def O.laws_heldInt64S : Nat → Nat × List Nat := fun i => (0, [])
theorem R.laws_heldInt64S {a0 a1 : Value} {H : Hp} {K : Value → Hp → Prop} (h : F.laws_heldInt64S a0 a1 H K) : HT prg I.laws_heldInt64S [a0, a1].toArray H K :=
  HT_of_fev O.laws_heldInt64S mixed Try.func18 (by kernel_rfl) (Eq.mpr (by kernel_rfl : fev prg O.laws_heldInt64S Try.f18 [a0, a1] H K = F.laws_heldInt64S a0 a1 H K) h)

/-! loop.example/g01381/laws.FnExactCyclesOf: function 4 -/
def F.laws_FnExactCyclesOf (a0 a1 : Value) (H : Hp) (K : Value → Hp → Prop) : Prop :=
  nw (a0 : Value).cells 24 H fun v2x1 H2 =>
  ob (vLoadN 3 v2x1 H2) fun v19x3 =>
  HT prg I.laws_szRule [v19x3, (.int .i64 1048576)].toArray H2 fun v21x4 H5 =>
  ob (vInt .lss v21x4 (.int .i64 0)) fun v23x6 =>
  cnd v23x6
    (K (.bool true) H5)
    (ob (vLoadN 3 v2x1 H5) fun v25x7 =>
  HT prg I.laws_toRule [v25x7].toArray H5 fun v26x8 H9 =>
  HT prg I.spec_CyclesOf [v26x8, a1].toArray H9 fun v28x10 H11 =>
  ob (vExt v28x10 0) fun v29x12 =>
  ob (vExt v28x10 1) fun v30x13 =>
  ob (vExt v28x10 2) fun v31x14 =>
  ob (vLoadN 3 v2x1 H11) fun v32x15 =>
  HT prg I.laws_toRule [v32x15].toArray H11 fun v33x16 H17 =>
  nw #[(.int .i64 0), (.int .i64 0), (.slice none 0 0)] 28 H17 fun v9x18 H19 =>
  st 3 v9x18 v33x16 H19 fun H20 =>
  ob (vLoadN 3 v9x18 H20) fun v35x21 =>
  HT prg I.impl_CyclesOf [v35x21, a1].toArray H20 fun v37x22 H23 =>
  ob (vExt v37x22 0) fun v38x24 =>
  ob (vExt v37x22 1) fun v39x25 =>
  ob (vExt v37x22 2) fun v40x26 =>
  HT prg I.laws_eqInt64S [v38x24, v29x12].toArray H23 fun v43x27 H28 =>
  ob (vUn .not v43x27) fun v44x29 =>
  gop v44x29 false (fun K30 => K30 v39x25 H28) H28 fun v46x31 H32 =>
  gop v44x29 false (fun K33 => K33 v30x13 H32) H32 fun v47x34 H35 =>
  gop v44x29 false (fun K36 => ob (vInt .neq v46x31 v47x34) fun u => K36 u H35) H35 fun v48x37 H38 =>
  ob (vPick v44x29 (.bool true) v48x37) fun v49x39 =>
  gop v49x39 false (fun K40 => K40 v40x26 H38) H38 fun v51x41 H42 =>
  gop v49x39 false (fun K43 => K43 v31x14 H42) H42 fun v52x44 H45 =>
  gop v49x39 false (fun K46 => ob (vBool .neq v51x41 v52x44) fun u => K46 u H45) H45 fun v53x47 H48 =>
  ob (vPick v49x39 (.bool true) v53x47) fun v54x49 =>
  cnd v54x49
    (K (.bool false) H48)
    (ob (vLoadN 3 v9x18 H48) fun v55x50 =>
  ob (vLoadN 3 v2x1 H48) fun v56x51 =>
  HT prg I.laws_toRule [v56x51].toArray H48 fun v57x52 H53 =>
  Le H48 H53 ∧ (HT prg I.laws_eqRule [v55x50, v57x52].toArray H53 fun v58x54 H55 =>
  Le H53 H55 ∧ (ob (vUn .not v58x54) fun v59x56 =>
  cnd v59x56
    (K (.bool false) H55)
    (ob (vLoadN 3 v9x18 H55) fun v60x57 =>
  HT prg I.laws_markRule [v60x57, (.int .i64 1)].toArray H55 fun v62x58 H59 =>
  ob (vInt .lss v62x58 (.int .i64 0)) fun v64x60 =>
  gop v64x60 false (fun K61 => K61 v38x24 H59) H59 fun v66x62 H63 =>
  gop v64x60 false (fun K64 => K64 v29x12 H63) H63 fun v67x65 H66 =>
  gop v64x60 false (fun K67 => HT prg I.laws_eqInt64S [v66x62, v67x65].toArray H66 K67) H66 fun v68x68 H69 =>
  gop v64x60 false (fun K70 => ob (vUn .not v68x68) fun u => K70 u H69) H69 fun v69x71 H72 =>
  ob (vPick v64x60 (.bool true) v69x71) fun v70x73 =>
  gop v70x73 false (fun K74 => K74 v39x25 H72) H72 fun v72x75 H76 =>
  gop v70x73 false (fun K77 => K77 v30x13 H76) H76 fun v73x78 H79 =>
  gop v70x73 false (fun K80 => ob (vInt .neq v72x75 v73x78) fun u => K80 u H79) H79 fun v74x81 H82 =>
  ob (vPick v70x73 (.bool true) v74x81) fun v75x83 =>
  gop v75x83 false (fun K84 => K84 v40x26 H82) H82 fun v77x85 H86 =>
  gop v75x83 false (fun K87 => K87 v31x14 H86) H86 fun v78x88 H89 =>
  gop v75x83 false (fun K90 => ob (vBool .neq v77x85 v78x88) fun u => K90 u H89) H89 fun v79x91 H92 =>
  ob (vPick v75x83 (.bool true) v79x91) fun v80x93 =>
  cnd v80x93
    (K (.bool false) H92)
    (HT prg I.laws_markInt64S [v38x24, (.int .i64 1)].toArray H92 fun v83x94 H95 =>
  HT prg I.laws_heldInt64S [v38x24, (.int .i64 1)].toArray H95 fun v86x96 H97 =>
  ob (vInt .lss v86x96 (.int .i64 0)) fun v88x98 =>
  cnd v88x98
    (K (.bool false) H97)
    (ob (vInt .neq v86x96 v83x94) fun v91x99 =>
  cnd v91x99
    (K (.bool false) H97)
    (ob (vLoadN 3 v2x1 H97) fun v93x100 =>
  HT prg I.laws_toRule [v93x100].toArray H97 fun v94x101 H102 =>
  HT prg I.impl_CyclesOf [v94x101, a1].toArray H102 fun v96x103 H104 =>
  ob (vExt v96x103 0) fun v97x105 =>
  ob (vExt v96x103 1) fun v98x106 =>
  ob (vExt v96x103 2) fun v99x107 =>
  HT prg I.laws_eqInt64S [v97x105, v29x12].toArray H104 fun v102x108 H109 =>
  ob (vUn .not v102x108) fun v103x110 =>
  gop v103x110 false (fun K111 => K111 v98x106 H109) H109 fun v105x112 H113 =>
  gop v103x110 false (fun K114 => K114 v30x13 H113) H113 fun v106x115 H116 =>
  gop v103x110 false (fun K117 => ob (vInt .neq v105x112 v106x115) fun u => K117 u H116) H116 fun v107x118 H119 =>
  ob (vPick v103x110 (.bool true) v107x118) fun v108x120 =>
  gop v108x120 false (fun K121 => K121 v99x107 H119) H119 fun v110x122 H123 =>
  gop v108x120 false (fun K124 => K124 v31x14 H123) H123 fun v111x125 H126 =>
  gop v108x120 false (fun K127 => ob (vBool .neq v110x122 v111x125) fun u => K127 u H126) H126 fun v112x128 H129 =>
  ob (vPick v108x120 (.bool true) v112x128) fun v113x130 =>
  cnd v113x130
    (K (.bool false) H129)
    (HT prg I.laws_heldInt64S [v38x24, (.int .i64 1)].toArray H129 fun v116x131 H132 =>
  ob (vInt .lss v116x131 (.int .i64 0)) fun v118x133 =>
  cnd v118x133
    (K (.bool false) H132)
    (ob (vInt .neq v116x131 v83x94) fun v121x134 =>
  cnd v121x134
    (K (.bool false) H132)
    (K (.bool true) H132)))))))))))
def O.laws_FnExactCyclesOf : Nat → Nat × List Nat := fun i => bif Nat.beq i 10 then (0, [0, 1, 2, 3, 4]) else (0, [])
theorem R.laws_FnExactCyclesOf {a0 a1 : Value} {H : Hp} {K : Value → Hp → Prop} (h : F.laws_FnExactCyclesOf a0 a1 H K) : HT prg I.laws_FnExactCyclesOf [a0, a1].toArray H K :=
  HT_of_fev O.laws_FnExactCyclesOf mixed Try.func4 (by kernel_rfl) (Eq.mpr (by kernel_rfl : fev prg O.laws_FnExactCyclesOf Try.f4 [a0, a1] H K = F.laws_FnExactCyclesOf a0 a1 H K) h)

end Go.Proofs.Ythmdmbbdjbhcoaa
/- Functions' texts over a partial heap. -/
namespace Go.Proofs.Ythmdmbbdjbhcoaa
open HL
set_option linter.unusedVariables false
set_option maxRecDepth 100000
set_option maxHeartbeats 4000000
end Go.Proofs.Ythmdmbbdjbhcoaa
/- Functions' texts over a partial heap. -/
namespace Go.Proofs.Ythmdmbbdjbhcoaa
open HL
set_option linter.unusedVariables false
set_option maxRecDepth 100000
set_option maxHeartbeats 4000000
end Go.Proofs.Ythmdmbbdjbhcoaa
/- All functions' texts. -/
/- What the small functions of lanes come to. -/
namespace Go.Proofs.Ythmdmbbdjbhcoaa
open HL
theorem C.spec_l00In {x lo hi : Int} {H : Hp} {K : Value → Hp → Prop} (hk : K (.bool (decide (lo ≤ x ∧ x ≤ hi))) H) : HT prg I.spec_l00In [.int .i64 x, .int .i64 lo, .int .i64 hi].toArray H K := by
 refine R.spec_l00In ?_
 unfold F.spec_l00In
 by_cases h : lo ≤ x
 ·simp only [vInt_geq, vInt_leq, ob_some, h, decide_true, gop_tt, vPick_t, true_and] at hk ⊢; exact hk
 ·simp only [vInt_geq, ob_some, h, decide_false, gop_ft, vPick_f, false_and] at hk ⊢; exact hk
theorem C.impl_within {x lo hi : Int} {H : Hp} {K : Value → Hp → Prop} (hk : K (.bool (decide (lo ≤ x ∧ x ≤ hi))) H) : HT prg I.impl_within [.int .i64 x, .int .i64 lo, .int .i64 hi].toArray H K := by
 refine R.impl_within ?_
 unfold F.impl_within
 by_cases h : lo ≤ x
 ·simp only [vInt_geq, vInt_leq, ob_some, h, decide_true, gop_tt, vPick_t, true_and] at hk ⊢; exact hk
 ·simp only [vInt_geq, ob_some, h, decide_false, gop_ft, vPick_f, false_and] at hk ⊢; exact hk
theorem C.impl_areWithin {a : Value} {l : List Int} {lo hi : Int} {H : Hp} {K : Value → Hp → Prop} (ha : Sl eI H a l) (hl : l.length ≤ 9223372036854775807) (hk : K (.bool (decide (∀ x ∈ l, lo ≤ x ∧ x ≤ hi))) H) :
    HT prg I.impl_areWithin [a, .int .i64 lo, .int .i64 hi].toArray H K := by
 refine R.impl_areWithin ?_
 unfold F.impl_areWithin jn; dsimp only
 rw [ha.len, ob_some]
 refine ⟨fun n σ H1 => ∃ i : Nat, n = l.length - i ∧ i ≤ l.length ∧ H1 = H ∧ σ 1 = .int .i64 lo ∧ σ 2 = .int .i64 hi ∧ σ 9 = a ∧ σ 10 = .int .i64 l.length ∧ σ 11 = .int .i64 i ∧ ∀ x ∈ l.take i, lo ≤ x ∧ x ≤ hi,
  ⟨_, 0, rfl, by omega, rfl, rfl, rfl, rfl, rfl, rfl, by simp⟩, ?_⟩
 rintro n σ H1 ⟨i, rfl, hi', rfl, h1, h2, h9, h10, h11, hall⟩
 simp only [h1, h2, h9, h10, h11, vInt_lss, ob_some]
 refine cnd_d (fun hlt => ?_) (fun hge => ?_)
 ·have hlt' : i < l.length := by omega
  rw [ha.ix (by omega) hlt, ob_some, ha.ld 0 (by omega) hlt, ob_some]
  refine C.impl_within ?_
  rw [vUn_not, ob_some]
  refine cnd_i (fun hb => ?_) (fun hb => ?_)
  ·refine retK (K := K) (v' := .bool false) rfl ?_
   rw [decide_eq_false] at hk
   ·exact hk
   ·intro hh
    have := hh _ (at_mem 0 l (i := i) (by omega) hlt)
    simp [this] at hb
  ·rw [vInt_add (by omega) (by omega), ob_some]
   refine nxt (l.length - (i + 1)) (by omega) ⟨i + 1, rfl, by omega, rfl, h1, h2, h9, h10, rfl, ?_⟩
   rw [take_at 0 l hlt']
   intro x hx
   rcases List.mem_append.mp hx with hx | hx
   ·exact hall x hx
   ·simp only [List.mem_singleton] at hx; subst hx; simpa using hb
 ·refine retK (K := K) (v' := .bool true) rfl ?_
  rw [decide_eq_true] at hk
  ·exact hk
  ·intro x hx
   rw [List.take_of_length_le (by omega)] at hall
   exact hall x hx
theorem C.impl_areMany {a : Value} {l : List Int} {n m lo hi : Int} {H : Hp} {K : Value → Hp → Prop} (ha : Sl eI H a l) (hl : l.length ≤ 9223372036854775807)
    (hk : K (.bool (decide ((n ≤ l.length ∧ l.length ≤ m) ∧ ∀ x ∈ l, lo ≤ x ∧ x ≤ hi))) H) :
    HT prg I.impl_areMany [a, .int .i64 n, .int .i64 m, .int .i64 lo, .int .i64 hi].toArray H K := by
 refine R.impl_areMany ?_
 unfold F.impl_areMany
 rw [ha.len, ob_some]
 refine C.impl_within ?_
 by_cases h : n ≤ l.length ∧ l.length ≤ m
 ·simp only [h, and_self, decide_true, gop_tt, true_and] at hk ⊢
  refine C.impl_areWithin ha hl ?_
  rw [vPick_t, ob_some]
  exact hk
 ·simp only [h, decide_false, gop_ft, vPick_f, ob_some, false_and] at hk ⊢
  exact hk
def isLane (l : List Int) : Prop := (1 ≤ (l.length : Int) ∧ (l.length : Int) ≤ 64) ∧ ∀ x ∈ l, -1 ≤ x ∧ x ≤ 5
instance (l : List Int) : Decidable (isLane l) := by unfold isLane; infer_instance
theorem C.laws_toInt64S {a : Value} {l : List Int} {H : Hp} {K : Value → Hp → Prop} (ha : Sl eI H a l) (hl : l.length ≤ 17592186044416) (hk : ∀ v H', Own eI H' v l → Nw H v → Le H H' → K v H') :
    HT prg I.laws_toInt64S [a].toArray H K := by
 refine R.laws_toInt64S ?_
 unfold F.laws_toInt64S jn; dsimp only
 rw [ha.len, ob_some]
 refine Own.mk_ (by omega) (by omega) (by omega) (by omega) (fun v H0 ho hn hle => ?_)
 refine ⟨fun n σ H1 => ∃ i : Nat, n = l.length - i ∧ i ≤ l.length ∧ σ 0 = a ∧ σ 3 = v ∧ σ 4 = .int .i64 i ∧ Own eI H1 v (l.take i ++ List.replicate (l.length - i) 0) ∧ Off v H0 H1,
  ⟨_, 0, rfl, by omega, rfl, rfl, rfl, by simpa using ho, fun b o hb _ => hb⟩, ?_⟩
 rintro n σ H1 ⟨i, rfl, hi', h0, h3, h4, ho1, hoff⟩
 have hle1 : Le H H1 := hoff.le hle hn
 have ha1 := ha.le hle1
 simp only [h0, h3, h4, ha.len, vInt_lss, ob_some]
 refine cnd_d (fun hlt => ?_) (fun hge => ?_)
 ·have hlt' : i < l.length := by omega
  rw [ha1.ix (by omega) hlt, ob_some, ha1.ld 0 (by omega) hlt, ob_some, ho1.sl.ix (by omega) (by simp; omega), ob_some]
  refine ho1.st (x := at_ 0 l (i : Int)) (by omega) (by simp; omega) rfl rfl (fun H2 ho2 hoff2 => ?_)
  rw [vInt_add (by omega) (by omega), ob_some]
  refine nxt (l.length - (i + 1)) (by omega) ⟨i + 1, rfl, by omega, h0, h3, rfl, ?_, hoff.trans hoff2⟩
  have e : (l.take i ++ List.replicate (l.length - i) 0).set (i : Int).toNat (at_ 0 l (i : Int)) = l.take (i + 1) ++ List.replicate (l.length - (i + 1)) 0 := by
   rw [take_at 0 l hlt', Int.toNat_natCast, List.set_append_right _ _ (by simp; omega), show l.length - i = (l.length - (i + 1)) + 1 by omega, List.replicate_succ]
   simp [Nat.min_eq_left (Nat.le_of_lt hlt')]
  rw [← e]; exact ho2
 ·refine retK (K := K) (v' := v) h3 (hk v H1 ?_ hn hle1)
  rw [List.take_of_length_le (by omega), show l.length - i = 0 by omega] at ho1
  simpa using ho1
theorem C.laws_eqInt64S {a b : Value} {l m : List Int} {H : Hp} {K : Value → Hp → Prop} (ha : Sl eI H a l) (hb : Sl eI H b m) (hl : l.length ≤ 9223372036854775807) (hk : K (.bool (decide (l = m))) H) :
    HT prg I.laws_eqInt64S [a, b].toArray H K := by
 refine R.laws_eqInt64S ?_
 unfold F.laws_eqInt64S jn; dsimp only
 rw [ha.len, hb.len, ob_some, ob_some, vInt_neq, ob_some]
 refine cnd_d (fun hne => ?_) (fun heq => ?_)
 ·rw [decide_eq_false] at hk
  ·exact hk
  ·rintro rfl; exact hne rfl
 ·have hlen : l.length = m.length := by omega
  refine ⟨fun n σ H1 => ∃ i : Nat, n = l.length - i ∧ i ≤ l.length ∧ H1 = H ∧ σ 0 = a ∧ σ 1 = b ∧ σ 5 = .int .i64 i ∧ l.take i = m.take i,
   ⟨_, 0, rfl, by omega, rfl, rfl, rfl, rfl, by simp⟩, ?_⟩
  rintro n σ H1 ⟨i, rfl, hi', rfl, h0, h1, h5, hall⟩
  simp only [h0, h1, h5, ha.len, vInt_lss, ob_some]
  refine cnd_d (fun hlt => ?_) (fun hge => ?_)
  ·have hlt' : i < l.length := by omega
   rw [ha.ix (by omega) hlt, ob_some, ha.ld 0 (by omega) hlt, ob_some, hb.ix (by omega) (by omega), ob_some, hb.ld 0 (by omega) (by omega), ob_some, vInt_neq, ob_some]
   refine cnd_d (fun hne => ?_) (fun heq => ?_)
   ·refine retK (K := K) (v' := .bool false) rfl ?_
    rw [decide_eq_false] at hk
    ·exact hk
    ·rintro rfl; exact hne rfl
   ·rw [vInt_add (by omega) (by omega), ob_some]
    refine nxt (l.length - (i + 1)) (by omega) ⟨i + 1, rfl, by omega, rfl, h0, h1, rfl, ?_⟩
    rw [take_at 0 l hlt', take_at 0 m (by omega), hall, Decidable.not_not.mp heq]
  ·refine retK (K := K) (v' := .bool true) rfl ?_
   rw [List.take_of_length_le (by omega), List.take_of_length_le (by omega)] at hall
   rw [decide_eq_true hall] at hk
   exact hk
end Go.Proofs.Ythmdmbbdjbhcoaa
/- Structs that lie in cells of their own: what is read, what is written. -/
namespace Go.Proofs.Ythmdmbbdjbhcoaa.HL
/-- A pointer to a block of its own, whose cells are these. -/
def Cel (H : Hp) (p : Value) (cs : List Value) : Prop := ∃ r e, p = .pointer (some ⟨r, 0, none⟩) ∧ H r = some (.cells cs.toArray e (0, 0))
/-- The pointer to a field's first cell. -/
def fp (p : Value) (k : Nat) : Value := match p with | .pointer (some a) => .pointer (some (a.add k)) | _ => undef

theorem oc0 : ∀ x ∈ ([] : List Value), oneCell x = true := fun x hx => absurd hx (by simp)
theorem oc1 {a : Value} {l : List Value} (h : oneCell a = true) (t : ∀ x ∈ l, oneCell x = true) : ∀ x ∈ a :: l, oneCell x = true := fun x hx => by
  rcases List.mem_cons.mp hx with rfl | hx
  · exact h
  · exact t x hx
section
variable {H H' : Hp} {p u v : Value} {cs : List Value}
theorem Cel.le (h : Cel H p cs) (hl : Le H H') : Cel H' p cs := by
  obtain ⟨r, e, rfl, hr⟩ := h
  exact ⟨r, e, rfl, hl _ _ hr⟩
theorem Cel.off (h : Cel H p cs) (ho : Off v H H') (ha : Apart p v) : Cel H' p cs := by
  obtain ⟨r, e, rfl, hr⟩ := h
  exact ⟨r, e, rfl, ho _ _ hr (ha r rfl)⟩
theorem Cel.known (h : Cel H p cs) : ∀ b, bk p = some b → ∃ o, H b = some o := by
  obtain ⟨r, e, rfl, hr⟩ := h
  intro b hb
  simp only [bk, Option.some.injEq] at hb
  subst hb
  exact ⟨_, hr⟩
theorem Cel.apart (h : Cel H p cs) (hn : Nw H v) : Apart p v := Apart.of_nw h.known hn
theorem nw_i {cells : Array Value} {e : TypeId} {K : Value → Hp → Prop} (hk : ∀ p H', Cel H' p cells.toList → Nw H p → Le H H' → K p H') : nw cells e H K := by
  intro r hr
  refine hk _ _ ⟨r, e, rfl, by rw [Hp.put_same]⟩ ?_ (Le.put _ hr)
  intro b hb
  simp only [bk, Option.some.injEq] at hb
  subst hb
  exact hr
theorem Cel.fa (h : Cel H p cs) (k : Nat) : vFa k p = some (fp p k) := by
  obtain ⟨r, e, rfl, hr⟩ := h; rfl
theorem Cel.nilC (h : Cel H p cs) : vNilC p = some p := by
  obtain ⟨r, e, rfl, hr⟩ := h; rfl
theorem Cel.ld (h : Cel H p cs) (k : Nat) {x : Value} (hx : cs[k]? = some x) : vLoad (fp p k) H = some x := by
  obtain ⟨r, e, rfl, hr⟩ := h
  simp only [fp, vLoad, add_none, Hp.cell?, hr, Nat.zero_add]
  simpa using hx
theorem Cel.ldn (h : Cel H p cs) {n : Nat} (hn : cs.length = n) : vLoadN n p H = some (.agg cs.toArray) := by
  obtain ⟨r, e, rfl, hr⟩ := h
  simp only [vLoadN]
  rw [rd_cells (enc := id) ⟨r, 0, none⟩ n 0 cs hn (fun i hi => by
    simp only [add_none, Hp.cell?, hr, Nat.zero_add]
    simp [hi])]
  simp
theorem Cel.st (h : Cel H p cs) {k : Nat} {x : Value} {K : Hp → Prop} (hk : k < cs.length) (ho : oneCell x = true) (hz : x.cells = #[x]) (hK : ∀ H', Cel H' p (cs.set k x) → Off p H H' → K H') : st 1 (fp p k) x H K := by
  obtain ⟨r, e, rfl, hr⟩ := h
  simp only [HL.st, fp, add_none, Nat.zero_add, hz, List.toList_toArray, List.size_toArray, List.length_singleton, true_and, stC, Nat.add_zero]
  refine ⟨ho, ?_, ?_, ?_⟩
  · simp only [Hp.cell?, hr]; simp [hk]
  · simp only [Hp.frozen?, hr]; simp
  · refine hK _ ⟨r, e, rfl, ?_⟩ ?_
    · simp only [Hp.setCell, hr, Hp.put_same]; simp
    · intro b o hb hv
      simp only [bk, ne_eq, Option.some.injEq] at hv
      simp only [Hp.setCell, hr]
      rw [Hp.put_ne _ _ (Ne.symm hv)]
      exact hb
theorem Cel.stn (h : Cel H p cs) {ws : List Value} {n : Nat} {K : Hp → Prop} (hn : ws.length = n) (hl : cs.length = n) (ho : ∀ x ∈ ws, oneCell x = true) (hK : ∀ H', Cel H' p ws → Off p H H' → K H') : HL.st n p (.agg ws.toArray) H K := by
  obtain ⟨r, e, rfl, hr⟩ := h
  simp only [HL.st, Value.cells, List.size_toArray, hn, true_and]
  refine stC_run (b := r) (e := e) ws _ 0 cs.toArray H rfl rfl hr (by simp; omega) ho ?_
  intro H' cs' h1 h2 h3 h4 h5
  refine hK H' ⟨r, e, rfl, ?_⟩ ?_
  · rw [h1]
    have : cs' = ws.toArray := by
      apply Array.ext_getElem?
      intro i
      by_cases hi : i < ws.length
      · have := h4 i hi
        simp only [Nat.zero_add] at this
        rw [this]; simp [hi]
      · rw [Array.getElem?_eq_none (by rw [h2]; simp; omega), Array.getElem?_eq_none (by simp; omega)]
    rw [this]
  · intro b o hb hv
    simp only [bk, ne_eq, Option.some.injEq] at hv
    rw [h5 b (Ne.symm hv)]; exact hb
end
end Go.Proofs.Ythmdmbbdjbhcoaa.HL
/- Lists of truths: copies, and what is alike; lengths that are paid for. -/
namespace Go.Proofs.Ythmdmbbdjbhcoaa
open HL
set_option maxRecDepth 100000
theorem C.laws_szInt64S {a : Value} {n : Nat} {k : Int} {H : Hp} {K : Value → Hp → Prop} (ha : vLenSl a = some (.int .i64 n)) (h0 : 0 ≤ k) (hn : (n : Int) ≤ 9223372036854775807)  (h1 : k - n < 0 → K (.int .i64 (-1)) H) (h2 : 0 ≤ k - n → K (.int .i64 (k - n)) H) (hk : k < 9223372036854775808 := by omega) :
    HT prg I.laws_szInt64S [a, .int .i64 k].toArray H K := by
 refine R.laws_szInt64S ?_
 unfold F.laws_szInt64S
 rw [ha, ob_some, vInt_sub (by omega) (by omega), ob_some, vInt_lss, ob_some]
 exact cnd_d (fun h => h1 h) (fun h => h2 (by omega))
end Go.Proofs.Ythmdmbbdjbhcoaa
/- Rules for the walks that a program writes. -/
namespace Go.Proofs.Ythmdmbbdjbhcoaa.HL
theorem ob_nd {p : Prop} [Decidable p] {K : Value → Prop} (h1 : p → K (.bool false)) (h2 : ¬ p → K (.bool true)) : ob (vUn .not (.bool (decide p))) K := by
  rw [vUn_not, ob_some]
  by_cases c : p
  · rw [decide_eq_true c]; exact h1 c
  · rw [decide_eq_false c]; exact h2 c
theorem vInt_quoN {a b : Int} (ha : 0 ≤ a) (ha' : a < 9223372036854775808) (hb : 0 < b) : vInt .quo (.int .i64 a) (.int .i64 b) = some (.int .i64 (a / b)) := by
  rw [vInt_quo hb (by omega) ha', Int.tdiv_eq_ediv_of_nonneg ha]
theorem vInt_remN {a b : Int} (ha : 0 ≤ a) (hb : 0 < b) : vInt .rem (.int .i64 a) (.int .i64 b) = some (.int .i64 (a % b)) := by
  rw [vInt_rem (by omega), Int.tmod_eq_emod_of_nonneg ha]
theorem Apart.ap2 {H : Hp} {x u u' : Value} (hx : ∀ b, bk x = some b → ∃ o, H b = some o) (ha : Apart x u) (hb : ∀ b, bk u' = some b → bk u = some b ∨ H b = none) : Apart x u' := fun b h1 h2 => by
  rcases hb b h2 with h | h
  · exact ha b h1 h
  · obtain ⟨o, ho⟩ := hx b h1; rw [h] at ho; simp at ho
theorem Nw.ap2 {H0 H : Hp} {u u' : Value} (hn : Nw H0 u) (hl : Le H0 H) (hb : ∀ b, bk u' = some b → bk u = some b ∨ H b = none) : Nw H0 u' := fun b h => by
  rcases hb b h with h1 | h1
  · exact hn b h1
  · cases ho : H0 b with
    | none => rfl
    | some o => rw [hl b o ho] at h1; simp at h1
theorem apd_any {α : Type} {enc : α → Value} {z : Value} {b : Nat} {e : TypeId} {u t : Value} {l m : List α} {H : Hp} {K : Value → Hp → Prop} (o : Own enc H u l) (ot : Sl enc H t m) (ho : ∀ x, oneCell (enc x) = true) (hb : b ≤ 64) (hl : l.length + m.length ≤ 68719476736)
    (hk : ∀ u' H', Own enc H' u' (l ++ m) → Off u H H' → (∀ b, bk u' = some b → bk u = some b ∨ H b = none) → K u' H') : apd 1 b #[z] e u t H K := by
  refine o.apd ot ho (by omega) (fun c hc => ?_) hk
  have := nsc_le hc
  exact Nat.le_trans (Nat.mul_le_mul this hb) (by omega)
end Go.Proofs.Ythmdmbbdjbhcoaa.HL
/- Parts of slices; slices that are put together. -/
namespace Go.Proofs.Ythmdmbbdjbhcoaa
open HL
set_option maxRecDepth 100000
namespace HL
end HL
end Go.Proofs.Ythmdmbbdjbhcoaa
/- Rings: what is one, turns, which turn is the least. -/
namespace Go.Proofs.Ythmdmbbdjbhcoaa
open HL
/-- A ring with some states. -/
def ringP (st : Int) (l : List Int) : Prop := (∀ x ∈ l, 0 ≤ x ∧ x ≤ st - 1) ∧ 1 ≤ (l.length : Int) ∧ (l.length : Int) ≤ 64
instance (st : Int) (l : List Int) : Decidable (ringP st l) := by unfold ringP; infer_instance
def trnP (l : List Int) (d : Int) : Prop := ringP 3 l ∧ 0 ≤ d ∧ d ≤ 64
instance (l : List Int) (d : Int) : Decidable (trnP l d) := by unfold trnP; infer_instance
end Go.Proofs.Ythmdmbbdjbhcoaa
/- Rules on rings, by plain law: powers, digits, numbers, tables, steps. -/
namespace Go.Proofs.Ythmdmbbdjbhcoaa
open HL
set_option maxRecDepth 100000
/-- A power. -/
def pwr (b n : Int) : Int := b ^ n.toNat
theorem pow_bnd {b : Int} (h0 : 1 ≤ b) (h1 : b ≤ 3) : ∀ i : Nat, 1 ≤ b ^ i ∧ b ^ i ≤ 3 ^ i
  | 0 => by simp
  | i + 1 => by
    have ⟨a, c⟩ := pow_bnd h0 h1 i
    rw [Int.pow_succ, Int.pow_succ]
    exact ⟨Int.le_trans (by omega) (Int.mul_le_mul a h0 (by omega) (by omega)), Int.mul_le_mul c h1 (by omega) (by omega)⟩
theorem pow3_le : ∀ {i j : Nat}, i ≤ j → (3 : Int) ^ i ≤ 3 ^ j := fun {i j} h => by
  obtain ⟨k, rfl⟩ := Nat.exists_eq_add_of_le h
  rw [Int.pow_add]
  have a := (pow_bnd (b := 3) (by omega) (by omega) i).1
  have c := (pow_bnd (b := 3) (by omega) (by omega) k).1
  have := Int.mul_le_mul_of_nonneg_left c (show (0 : Int) ≤ 3 ^ i by omega)
  omega
theorem pow_le16 {b : Int} (h0 : 1 ≤ b) (h1 : b ≤ 3) {i : Nat} (hi : i ≤ 16) : 1 ≤ b ^ i ∧ b ^ i ≤ 43046721 := by
  have ⟨a, c⟩ := pow_bnd h0 h1 i
  have := pow3_le hi
  have e : (3 : Int) ^ 16 = 43046721 := by decide
  omega
theorem pwr_bnd {b n : Int} (h0 : 1 ≤ b) (h1 : b ≤ 3) (hn : n ≤ 16) : 1 ≤ pwr b n ∧ pwr b n ≤ 43046721 := pow_le16 h0 h1 (by omega)
/-- The digits of a number, the greatest one first. -/
def digL (n b : Int) (k : Nat) : List Int := (List.range k).map fun (t : Nat) => n / b ^ (k - 1 - t) % b
theorem digL_len (n b : Int) (k : Nat) : (digL n b k).length = k := by simp [digL]
/-- The digits when j of them are told. -/
def digF (n b : Int) (k j : Nat) : List Int := (List.range k).map fun (t : Nat) => if k - j ≤ t then n / b ^ (k - 1 - t) % b else 0
theorem digF_len (n b : Int) (k j : Nat) : (digF n b k j).length = k := by simp [digF]
theorem digF_zero (n b : Int) (k : Nat) : digF n b k 0 = List.replicate k 0 := by
  apply List.ext_getElem
  · simp [digF]
  · intro i h1 h2
    simp only [digF_len] at h1
    simp only [digF, List.getElem_map, List.getElem_range, List.getElem_replicate]
    rw [if_neg (by omega)]
theorem digF_set {n b : Int} {k j : Nat} (hj : j < k) : (digF n b k j).set (k - 1 - j) (n / b ^ j % b) = digF n b k (j + 1) := by
  apply List.ext_getElem
  · simp [digF]
  · intro i h1 h2
    simp only [digF_len] at h2
    simp only [digF, List.getElem_set, List.getElem_map, List.getElem_range]
    by_cases e : k - 1 - j = i
    · subst e; rw [if_pos rfl, if_pos (by omega), show k - 1 - (k - 1 - j) = j by omega]
    · rw [if_neg e]
      by_cases e2 : k - j ≤ i
      · rw [if_pos e2, if_pos (by omega)]
      · rw [if_neg e2, if_neg (by omega)]
theorem digF_end {n b : Int} {k j : Nat} (h : k ≤ j) : digF n b k j = digL n b k := by
  apply List.ext_getElem
  · simp [digF, digL]
  · intro i h1 h2
    simp only [digF, digL, List.getElem_map, List.getElem_range]
    rw [if_pos (by omega)]
theorem div_pow_succ {n b : Int} (h : 0 ≤ b) (j : Nat) : n / b ^ j / b = n / b ^ (j + 1) := by
  rw [Int.pow_succ, Int.ediv_ediv_of_nonneg (Int.pow_nonneg h)]
theorem div_pow_bnd {n b : Int} (h0 : 0 ≤ n) (h : 1 ≤ b) (j : Nat) : 0 ≤ n / b ^ j ∧ n / b ^ j ≤ n := by
  have hp : 0 < b ^ j := Int.pow_pos (by omega)
  exact ⟨Int.ediv_nonneg h0 (by omega), Int.ediv_le_self _ h0⟩
theorem digL_in {n b : Int} {k : Nat} (h : 1 ≤ b) : ∀ x ∈ digL n b k, 0 ≤ x ∧ x ≤ b - 1 := by
  intro x hx
  simp only [digL, List.mem_map, List.mem_range] at hx
  obtain ⟨t, _, rfl⟩ := hx
  have a := Int.emod_nonneg (n / b ^ (k - 1 - t)) (b := b) (by omega)
  have c := Int.emod_lt_of_pos (n / b ^ (k - 1 - t)) (b := b) (by omega)
  omega
/-- The number with digits, the greatest one first. -/
def numL (b : Int) (l : List Int) : Int := l.foldl (fun a d => a * b + d) 0
theorem numL_snoc (b : Int) (l : List Int) (x : Int) : numL b (l ++ [x]) = numL b l * b + x := by simp [numL]
theorem numL_nil (b : Int) : numL b [] = 0 := rfl
theorem numL_take {b : Int} {l : List Int} {i : Nat} (h : i < l.length) : numL b (l.take (i + 1)) = numL b (l.take i) * b + at_ 0 l (i : Int) := by
  rw [take_at 0 l h, numL_snoc]
theorem numA_bnd {b : Int} (hb : 1 ≤ b) : ∀ {l : List Int} {a : Int}, 0 ≤ a → (∀ x ∈ l, 0 ≤ x ∧ x ≤ b - 1) → 0 ≤ l.foldl (fun a d => a * b + d) a ∧ l.foldl (fun a d => a * b + d) a < (a + 1) * b ^ l.length
  | [], a, ha, _ => by simp; omega
  | x :: l, a, ha, h => by
    have hx := h x (by simp)
    have h1 : 0 ≤ a * b := Int.mul_nonneg ha (by omega)
    have ⟨p, q⟩ := numA_bnd hb (l := l) (a := a * b + x) (by omega) (fun y hy => h y (by simp [hy]))
    rw [List.foldl_cons, List.length_cons, Int.pow_succ]
    refine ⟨p, Int.lt_of_lt_of_le q ?_⟩
    rw [show (a + 1) * (b ^ l.length * b) = (a * b + b) * b ^ l.length by rw [Int.mul_comm (b ^ l.length) b, ← Int.mul_assoc, Int.add_mul, Int.one_mul]]
    exact Int.mul_le_mul_of_nonneg_right (by omega) (Int.pow_nonneg (by omega))
theorem numL_bnd {b : Int} (hb : 1 ≤ b) {l : List Int} (h : ∀ x ∈ l, 0 ≤ x ∧ x ≤ b - 1) : 0 ≤ numL b l ∧ numL b l < b ^ l.length := by
  have := numA_bnd hb (a := 0) (by omega) h
  rw [Int.zero_add, Int.one_mul] at this
  exact this
theorem numL_bnd16 {b : Int} {l : List Int} (h0 : 1 ≤ b) (h1 : b ≤ 3) (h : ∀ x ∈ l, 0 ≤ x ∧ x ≤ b - 1) (hl : l.length ≤ 16) : 0 ≤ numL b l ∧ numL b l < 43046721 := by
  have ⟨a, c⟩ := numL_bnd h0 h
  have := (pow_le16 h0 h1 hl).2
  omega
theorem take_in {p : Int → Prop} {l : List Int} {n : Nat} (h : ∀ x ∈ l, p x) : ∀ x ∈ l.take n, p x := fun x hx => h x (List.mem_of_mem_take hx)
/-- A rule. -/
def ruleP (st rc : Int) (T : List Int) : Prop := (st = 2 ∨ st = 3) ∧ (0 ≤ rc ∧ rc ≤ 2) ∧ (T.length : Int) = pwr st (2 * rc + 1) ∧ ∀ x ∈ T, 0 ≤ x ∧ x ≤ st - 1
instance (st rc : Int) (T : List Int) : Decidable (ruleP st rc T) := by unfold ruleP; infer_instance
theorem ruleP_len {st rc : Int} {T : List Int} (h : ruleP st rc T) : 2 ≤ (T.length : Int) ∧ (T.length : Int) ≤ 243 := by
  obtain ⟨h1, h2, h3, _⟩ := h
  rw [h3]
  rcases h1 with rfl | rfl <;> (have : rc = 0 ∨ rc = 1 ∨ rc = 2 := by omega) <;> rcases this with rfl | rfl | rfl <;> decide
/-- The number of the cells around a cell, the first t of them. -/
def hdN (st rc : Int) (ring : List Int) (i : Int) : Nat → Int
  | 0 => 0
  | t + 1 => hdN st rc ring i t * st + at_ 0 ring ((i - rc + (t : Int)) % (ring.length : Int))
/-- What a cell becomes. -/
def tdN (st rc : Int) (T ring : List Int) (i : Int) : Int := at_ 0 T (hdN st rc ring i (2 * rc + 1).toNat)
/-- The next ring, its first n cells. -/
def stpF (st rc : Int) (T ring : List Int) (n : Nat) : List Int := (List.range n).map fun (i : Nat) => tdN st rc T ring i
def stpL (st rc : Int) (T ring : List Int) : List Int := stpF st rc T ring ring.length
theorem stpF_len (st rc : Int) (T ring : List Int) (n : Nat) : (stpF st rc T ring n).length = n := by simp [stpF]
theorem stpL_len (st rc : Int) (T ring : List Int) : (stpL st rc T ring).length = ring.length := stpF_len _ _ _ _ _
theorem stpF_succ (st rc : Int) (T ring : List Int) (n : Nat) : stpF st rc T ring n ++ [tdN st rc T ring n] = stpF st rc T ring (n + 1) := by simp [stpF, List.range_succ]
theorem hdN_bnd {st rc : Int} {ring : List Int} (h0 : 1 ≤ st) (hr : ∀ x ∈ ring, 0 ≤ x ∧ x ≤ st - 1) (hn : 0 < ring.length) (i : Int) : ∀ t, 0 ≤ hdN st rc ring i t ∧ hdN st rc ring i t < st ^ t
  | 0 => by simp [hdN]
  | t + 1 => by
    have ⟨a, c⟩ := hdN_bnd (rc := rc) h0 hr hn i t
    have b1 := Int.emod_nonneg (i - rc + (t : Int)) (b := (ring.length : Int)) (by omega)
    have b2 := Int.emod_lt_of_pos (i - rc + (t : Int)) (b := (ring.length : Int)) (by omega)
    have hx := hr _ (at_mem 0 ring b1 b2)
    rw [hdN, Int.pow_succ]
    have h1 : 0 ≤ hdN st rc ring i t * st := Int.mul_nonneg a (by omega)
    have h2 : (hdN st rc ring i t + 1) * st ≤ st ^ t * st := Int.mul_le_mul_of_nonneg_right (by omega) (by omega)
    rw [Int.add_mul] at h2
    omega
theorem hdN_bnd5 {st rc : Int} {ring : List Int} (h0 : 1 ≤ st) (h1 : st ≤ 3) (hr : ∀ x ∈ ring, 0 ≤ x ∧ x ≤ st - 1) (hn : 0 < ring.length) (i : Int) {t : Nat} (ht : t ≤ 16) : 0 ≤ hdN st rc ring i t ∧ hdN st rc ring i t < 43046721 := by
  have ⟨a, c⟩ := hdN_bnd (rc := rc) h0 hr hn i t
  have := (pow_le16 h0 h1 ht).2
  omega
theorem hdN_ix {st rc : Int} {T ring : List Int} (h : ruleP st rc T) (hr : ∀ x ∈ ring, 0 ≤ x ∧ x ≤ st - 1) (hn : 0 < ring.length) (i : Int) : 0 ≤ hdN st rc ring i (2 * rc + 1).toNat ∧ hdN st rc ring i (2 * rc + 1).toNat < T.length := by
  obtain ⟨h1, h2, h3, _⟩ := h
  have := hdN_bnd (rc := rc) (show 1 ≤ st by omega) hr hn i (2 * rc + 1).toNat
  rw [h3]; exact this
theorem tdN_in {st rc : Int} {T ring : List Int} (h : ruleP st rc T) (hr : ∀ x ∈ ring, 0 ≤ x ∧ x ≤ st - 1) (hn : 0 < ring.length) (i : Int) : 0 ≤ tdN st rc T ring i ∧ tdN st rc T ring i ≤ st - 1 := by
  have := hdN_ix h hr hn i
  exact h.2.2.2 _ (at_mem 0 T this.1 this.2)
theorem stpF_in {st rc : Int} {T ring : List Int} (h : ruleP st rc T) (hr : ∀ x ∈ ring, 0 ≤ x ∧ x ≤ st - 1) (hn : 0 < ring.length) (n : Nat) : ∀ x ∈ stpF st rc T ring n, 0 ≤ x ∧ x ≤ st - 1 := by
  intro x hx
  simp only [stpF, List.mem_map, List.mem_range] at hx
  obtain ⟨i, _, rfl⟩ := hx
  exact tdN_in h hr hn i
theorem fmod_eq {a n : Int} (hn : 0 < n) : (a.tmod n + n) % n = a % n ∧ 0 ≤ a.tmod n + n ∧ a.tmod n + n < 2 * n := by
  have h1 := Int.tmod_lt_of_pos a hn
  have h2 : -n < a.tmod n := by
    rcases Int.le_total 0 a with h | h
    · have := Int.tmod_nonneg n h; omega
    · have e : (-a).tmod n = - a.tmod n := Int.neg_tmod a n
      have := Int.tmod_lt_of_pos (-a) hn
      omega
  refine ⟨?_, by omega, by omega⟩
  rw [Int.add_emod_right]
  have e := Int.mul_tdiv_add_tmod a n
  conv => rhs; rw [← e]
  rw [Int.add_comm, Int.add_mul_emod_self_left]
end Go.Proofs.Ythmdmbbdjbhcoaa
/- Fields: which are valid, which are plain, and what lies where, round and round. -/
namespace Go.Proofs.Ythmdmbbdjbhcoaa
open HL
set_option maxRecDepth 100000
def sidesF (r c : Int) : Prop := (1 ≤ r ∧ r ≤ 24) ∧ (1 ≤ c ∧ c ≤ 24)
instance (r c : Int) : Decidable (sidesF r c) := by unfold sidesF; infer_instance
/-- A field whose cells are from 0 to n. -/
def fieldN (n r c : Int) (l : List Int) : Prop := sidesF r c ∧ (l.length : Int) = r * c ∧ ∀ x ∈ l, 0 ≤ x ∧ x ≤ n
instance (n r c : Int) (l : List Int) : Decidable (fieldN n r c l) := by unfold fieldN; infer_instance
theorem fm_eq {a b : Int} (hb : 0 < b) : (a.tmod b + b).tmod b = a % b := by
  have h0 : 0 ≤ a.tmod b + b := by have := Int.lt_tmod_of_pos a hb; omega
  rw [Int.tmod_eq_emod_of_nonneg h0, Int.tmod_def, show a - b * a.tdiv b + b = a + b * (1 - a.tdiv b) by rw [Int.mul_sub, Int.mul_one]; omega, Int.add_mul_emod_self_left]
theorem tmod_bnd {a b : Int} (hb : 0 < b) : -b < a.tmod b ∧ a.tmod b < b := ⟨by have := Int.lt_tmod_of_pos a hb; omega, Int.tmod_lt_of_pos a hb⟩
theorem C.floorMod {a b : Int} {H : Hp} {K : Value → Hp → Prop} (h0 : -1000000 ≤ a) (h1 : a ≤ 1000000) (h2 : 0 < b) (h3 : b ≤ 1000000) (hk : K (.int .i64 (a % b)) H) : HT prg I.impl_floorMod [.int .i64 a, .int .i64 b].toArray H K := by
 refine R.impl_floorMod ?_
 unfold F.impl_floorMod
 have t1 := tmod_bnd (a := a) (b := b) h2
 rw [vInt_rem (by omega), ob_some, vInt_add (by omega) (by omega), ob_some, vInt_rem (by omega), ob_some, fm_eq h2]
 exact hk
end Go.Proofs.Ythmdmbbdjbhcoaa
/- Fields that are made by a function of rows and columns, and fields that grow. -/
namespace Go.Proofs.Ythmdmbbdjbhcoaa
open HL
set_option maxRecDepth 100000
theorem Apart.app {H : Hp} {x u u' : Value} (hx : ∀ b, bk x = some b → ∃ o, H b = some o) (ha : Apart x u) (hb : ∀ b, bk u' = some b → bk u = some b ∨ H b = none) : Apart x u' := fun b h1 h2 => by
  rcases hb b h2 with h | h
  · exact ha b h1 h
  · obtain ⟨o, ho⟩ := hx b h1; rw [h] at ho; simp at ho
theorem Nw.app {H0 H : Hp} {u u' : Value} (hn : Nw H0 u) (hl : Le H0 H) (hb : ∀ b, bk u' = some b → bk u = some b ∨ H b = none) : Nw H0 u' := fun b h => by
  rcases hb b h with h1 | h1
  · exact hn b h1
  · cases ho : H0 b with
    | none => rfl
    | some o => rw [hl b o ho] at h1; simp at h1
theorem bS_i {α : Type} {enc : α → Value} {len : Nat} {z : Value} {e : TypeId} {parts : List (Nat × Value)} {l : List α} {H : Hp} {K : Value → Hp → Prop} (h1 : len ≤ 1000) (hl : l.length = len)
    (hf : Instr.fill (fun i => some (i * 1, 1)) (if len * 1 = 0 then #[] else zrow #[z] (len * 1)) parts = some (l.map enc).toArray) (hk : ∀ v H', Own enc H' v l → Nw H v → Le H H' → K v H') : bS 1 len #[z] e parts H K := by
  refine ⟨by omega, ?_⟩
  rw [hf]
  intro r hr
  subst hl
  refine hk _ _ ⟨some ⟨r, 0, none⟩, l.length, rfl, Nat.le_refl _, fun _ => ⟨r, 0, _, e, rfl, Hp.put_same _ _ _, by simp, fun i hi => by simp [hi]⟩⟩ ?_ (Le.put _ hr)
  intro b hb
  simp only [bk] at hb
  split at hb
  · simp at hb
  · simp only [Option.some.injEq] at hb; subst hb; exact hr
end Go.Proofs.Ythmdmbbdjbhcoaa
/- Lanes that are switched: what the program's and the reference's functions come to. -/
namespace Go.Proofs.Ythmdmbbdjbhcoaa
open HL
set_option maxRecDepth 100000
/-- May the car at i leave lane a for lane b? -/
def chg (a b : List Int) (i : Int) : Prop :=
  0 ≤ at_ 0 a i ∧ 0 ≤ at_ 0 a ((i + 1).tmod a.length) ∧ at_ 0 b i < 0 ∧ at_ 0 b ((i + 1).tmod a.length) < 0 ∧ at_ 0 b ((i + a.length - 1).tmod a.length) < 0
instance (a b : List Int) (i : Int) : Decidable (chg a b i) := by unfold chg; infer_instance
/-- Numbers from k on. -/
def ramp (k : Int) (n : Nat) : List Int := (List.range n).map fun (i : Nat) => k + i
theorem ramp_length (k : Int) (n : Nat) : (ramp k n).length = n := by simp [ramp]
theorem ramp_succ (k : Int) (n : Nat) : ramp k (n + 1) = ramp k n ++ [k + n] := by simp [ramp, List.range_succ]
theorem C.laws_markInt64S {a : Value} {l : List Int} {k : Int} {H : Hp} {K : Value → Hp → Prop} (ha : Own eI H a l) (hl : l.length ≤ 4611686018427387904) (hk0 : 0 ≤ k) (hk1 : k ≤ 4611686018427387903)
    (hk : ∀ H', Own eI H' a (ramp k l.length) → Off a H H' → K (.int .i64 (k + l.length)) H') : HT prg I.laws_markInt64S [a, .int .i64 k].toArray H K := by
 refine R.laws_markInt64S ?_
 unfold F.laws_markInt64S jn; dsimp only
 refine ⟨fun n σ H1 => ∃ i : Nat, n = l.length - i ∧ i ≤ l.length ∧ σ 0 = a ∧ σ 1 = .int .i64 (k + i) ∧ σ 5 = .int .i64 i ∧ Own eI H1 a (ramp k i ++ l.drop i) ∧ Off a H H1,
  ⟨_, 0, rfl, by omega, rfl, by show Value.int .i64 k = _; simp, rfl, by simpa [ramp] using ha, fun b o hb _ => hb⟩, ?_⟩
 rintro n σ H1 ⟨i, rfl, hi', h0, h1, h5, ho, hoff⟩
 have hlen : (ramp k i ++ l.drop i).length = l.length := by simp [ramp_length]; omega
 have hlen2 := ho.len
 rw [hlen] at hlen2
 simp only [h0, h1, h5, hlen2, vInt_lss, ob_some]
 refine cnd_d (fun hlt => ?_) (fun hge => ?_)
 ·have hlt' : i < l.length := by omega
  rw [ho.sl.ix (by omega) (by rw [hlen]; omega), ob_some]
  refine ho.st (x := k + i) (by omega) (by rw [hlen]; omega) rfl rfl (fun H2 ho2 hoff2 => ?_)
  rw [vInt_add (by omega) (by omega), ob_some, vInt_add (by omega) (by omega), ob_some]
  refine nxt (l.length - (i + 1)) (by omega) ⟨i + 1, rfl, by omega, h0, ?_, rfl, ?_, hoff.trans hoff2⟩
  ·show Value.int .i64 (k + i + 1) = _
   congr 1; omega
  ·have e : (ramp k i ++ l.drop i).set (i : Int).toNat (k + i) = ramp k (i + 1) ++ l.drop (i + 1) := by
    rw [ramp_succ, Int.toNat_natCast, List.set_append_right _ _ (by rw [ramp_length]; exact Nat.le_refl _), ramp_length, Nat.sub_self, List.drop_eq_getElem_cons hlt']
    simp only [List.set_cons_zero, List.append_assoc, List.singleton_append]
   rw [← e]; exact ho2
 ·have : i = l.length := by omega
  subst this
  refine retK (K := K) h1 (hk H1 ?_ hoff)
  simpa using ho
theorem at_ramp (k : Int) (n i : Nat) (h : i < n) : at_ 0 (ramp k n) (i : Int) = k + i := by
  rw [at_eq 0 _ (by rw [ramp_length]; exact h)]; simp [ramp]
theorem C.laws_heldInt64S {a : Value} {k : Int} {m : Nat} {H : Hp} {K : Value → Hp → Prop} (ha : Sl eI H a (ramp k m)) (hl : m ≤ 4611686018427387904) (hk0 : 0 ≤ k) (hk1 : k ≤ 4611686018427387903)
    (hk : K (.int .i64 (k + m)) H) : HT prg I.laws_heldInt64S [a, .int .i64 k].toArray H K := by
 refine R.laws_heldInt64S ?_
 unfold F.laws_heldInt64S jn; dsimp only
 have hlen := ha.len
 rw [ramp_length] at hlen
 refine ⟨fun n σ H1 => ∃ i : Nat, n = m - i ∧ i ≤ m ∧ H1 = H ∧ σ 0 = a ∧ σ 1 = .int .i64 (k + i) ∧ σ 5 = .int .i64 i,
  ⟨_, 0, rfl, by omega, rfl, rfl, by show Value.int .i64 k = _; simp, rfl⟩, ?_⟩
 rintro n σ H1 ⟨i, rfl, hi', rfl, h0, h1, h5⟩
 simp only [h0, h1, h5, hlen, vInt_lss, ob_some]
 refine cnd_d (fun hlt => ?_) (fun hge => ?_)
 ·have hlt' : i < m := by omega
  rw [ha.ix (by omega) (by rw [ramp_length]; omega), ob_some, ha.ld 0 (by omega) (by rw [ramp_length]; omega), ob_some, at_ramp k m i hlt', vInt_neq, ob_some]
  refine cnd_d (fun hne => absurd rfl hne) (fun _ => ?_)
  rw [vInt_add (by omega) (by omega), ob_some, vInt_add (by omega) (by omega), ob_some]
  refine nxt (m - (i + 1)) (by omega) ⟨i + 1, rfl, by omega, rfl, h0, ?_, rfl⟩
  show Value.int .i64 (k + i + 1) = _
  congr 1; omega
 ·have : i = m := by omega
  subst this
  exact retK (K := K) h1 hk
def okSw (l m : List Int) : Prop := isLane l ∧ isLane m ∧ l.length = m.length
instance (l m : List Int) : Decidable (okSw l m) := by unfold okSw; infer_instance
end Go.Proofs.Ythmdmbbdjbhcoaa
/- What the small functions of structs come to: copies, sizes, what is alike. -/
namespace Go.Proofs.Ythmdmbbdjbhcoaa
open HL
set_option maxRecDepth 100000
end Go.Proofs.Ythmdmbbdjbhcoaa
/- What says whether lists are equal, and whether gases are. -/
namespace Go.Proofs.Ythmdmbbdjbhcoaa
open HL
set_option maxRecDepth 100000
end Go.Proofs.Ythmdmbbdjbhcoaa
/- Rings: lists of one ring that are searched. -/
namespace Go.Proofs.Ythmdmbbdjbhcoaa
open HL
set_option maxRecDepth 100000
end Go.Proofs.Ythmdmbbdjbhcoaa
/- New slices, and places in rows, for seats without fields. -/
namespace Go.Proofs.Ythmdmbbdjbhcoaa
open HL
set_option maxRecDepth 100000
end Go.Proofs.Ythmdmbbdjbhcoaa
/- Rules on rings: tables, digits, steps. -/
namespace Go.Proofs.Ythmdmbbdjbhcoaa
open HL
set_option maxRecDepth 100000
theorem all_take {l : List Int} {i : Nat} {p : Int → Prop} (h : ∀ x ∈ l.take i, p x) (hi : i < l.length) (hp : p (at_ 0 l (i : Int))) : ∀ x ∈ l.take (i + 1), p x := by
  rw [take_at 0 l hi]
  intro x hx
  rcases List.mem_append.mp hx with hx | hx
  · exact h x hx
  · simp only [List.mem_singleton] at hx; subst hx; exact hp
theorem mul3_bnd {a b : Int} (h : 0 ≤ a) (b0 : 1 ≤ b) (b1 : b ≤ 3) : 0 ≤ a * b ∧ a * b ≤ 3 * a := by
  refine ⟨Int.mul_nonneg h (by omega), ?_⟩
  have := Int.mul_le_mul_of_nonneg_left b1 h
  omega
theorem stp_set {st rc : Int} {T l : List Int} {i : Nat} (h : i < l.length) : (stpF st rc T l i ++ List.replicate (l.length - i) (0 : Int)).set (i : Int).toNat (tdN st rc T l (i : Int)) = stpF st rc T l (i + 1) ++ List.replicate (l.length - (i + 1)) 0 := by
  rw [Int.toNat_natCast, List.set_append_right _ _ (by rw [stpF_len]; omega), ← stpF_succ, List.append_assoc]
  congr 1
  rw [show i - (stpF st rc T l i).length = 0 by rw [stpF_len]; omega, show l.length - i = (l.length - (i + 1)) + 1 by omega, List.replicate_succ]; rfl
theorem C.impl_areStates {st : Int}  {H : Hp} {K : Value → Hp → Prop}
    (hk : ∀ H', Le H H' → K (.bool (decide (st = 2 ∨ st = 3))) H') : HT prg I.impl_areStates [(.int .i64 (st))].toArray H K := by
 have lE := Le.refl H
 refine R.impl_areStates ?_
 unfold F.impl_areStates
 refine ob_i (vInt_eql _ _ _) ?_
 by_cases hc1 : st = 2
 ·skip
  refine gop_e (decide_eq_true hc1) ?_
  refine gop_st ?_
  refine gop_e (decide_eq_true hc1) ?_
  refine gop_st ?_
  refine ob_i (vPick_et (decide_eq_true hc1) _ _) ?_
  skip
  exact keq (K := K) (by rw [decide_eq_true (show (st = 2 ∨ st = 3) from by omega)]) (hk   _    lE)
 ·skip
  refine gop_e (decide_eq_false hc1) ?_
  refine gop_rf ?_
  refine gop_e (decide_eq_false hc1) ?_
  refine gop_rf ?_
  refine ob_i (vInt_eql _ _ _) ?_
  refine ob_i (vPick_ef (decide_eq_false hc1) _ _) ?_
  skip
  exact keq (K := K) (by rw [show decide (st = 3) = decide (st = 2 ∨ st = 3) from decide_eq_decide.mpr (by omega)]) (hk   _    lE)
theorem C.spec_l02Powers {b n : Int}  {H : Hp} {K : Value → Hp → Prop} (b0 : 1 ≤ b) (b1 : b ≤ 3) (n0 : 0 ≤ n) (n1 : n ≤ 16)
    (hk : ∀ H', Le H H' → K (.int .i64 (pwr b n)) H') : HT prg I.spec_l02Powers [(.int .i64 (b)), (.int .i64 (n))].toArray H K := by
 have lE := Le.refl H
 refine R.spec_l02Powers ?_
 unfold F.spec_l02Powers
 refine jn_i (fun σ' H' => σ' 5 = (.int .i64 (pwr b n)) ∧ Le H H') (fun σ1 H1 hP => ?_) (fun J1 hJ1 => ?_)
 ·skip
  obtain ⟨g5L1, lE⟩ := hP
  try simp only [g5L1]
  skip
  exact hk   _    lE
 refine ⟨fun n' σ' H' => ∃ i : Nat, n' = n.toNat - i ∧ i ≤ n.toNat ∧ σ' 0 = (.int .i64 (b)) ∧ σ' 1 = (.int .i64 (n - (i : Int))) ∧ σ' 5 = (.int .i64 (b ^ i)) ∧ Le H H',
  ⟨_, 0, rfl, by omega, rfl, (congrArg (Value.int .i64) (by first | omega | rfl | (simp; done))), (congrArg (Value.int .i64) (Int.pow_zero b).symm), lE⟩, ?_⟩
 rintro n2 σ2 H2 ⟨i, rfl, hiN, g0L2, g1L2, g5L2, lE⟩
 try simp only [g0L2, g1L2, g5L2]
 have p1 := pow_le16 b0 b1 (i := i) (by omega)
 refine ob_i (vInt_gtr _ _ _) ?_
 refine cnd_d (fun hg3 => ?_) (fun hg3 => ?_)
 ·skip
  have ti := hg3
  have p2 := pow_le16 b0 b1 (i := i + 1) (by omega)
  rw [Int.pow_succ] at p2
  refine ob_i (vInt_mul (by omega) (by omega)) ?_
  refine ob_i (vInt_sub (by omega) (by omega)) ?_
  exact nxt (n.toNat - (i + 1)) (by omega) ⟨i + 1, rfl, by omega, g0L2, (congrArg (Value.int .i64) (by first | omega | rfl | (simp; done))), (congrArg (Value.int .i64) (Int.pow_succ b i).symm), lE⟩
 ·skip
  have ti := hg3
  obtain rfl : i = n.toNat := by omega
  exact hJ1 _ _ ⟨(g5L2.trans (congrArg (Value.int .i64) (by first | omega | rfl | (simp; done)))), lE⟩
theorem C.spec_l03Power {b n : Int}  {H : Hp} {K : Value → Hp → Prop} (b0 : 1 ≤ b) (b1 : b ≤ 3) (n0 : 0 ≤ n) (n1 : n ≤ 16)
    (hk : ∀ H', Le H H' → K (.int .i64 (pwr b n)) H') : HT prg I.spec_l03Power [(.int .i64 (b)), (.int .i64 (n))].toArray H K := by
 have lE := Le.refl H
 refine R.spec_l03Power ?_
 unfold F.spec_l03Power
 refine jn_i (fun σ' H' => σ' 5 = (.int .i64 (pwr b n)) ∧ Le H H') (fun σ1 H1 hP => ?_) (fun J1 hJ1 => ?_)
 ·skip
  obtain ⟨g5L1, lE⟩ := hP
  try simp only [g5L1]
  skip
  exact hk   _    lE
 refine ⟨fun n' σ' H' => ∃ i : Nat, n' = n.toNat - i ∧ i ≤ n.toNat ∧ σ' 0 = (.int .i64 (b)) ∧ σ' 1 = (.int .i64 (n - (i : Int))) ∧ σ' 5 = (.int .i64 (b ^ i)) ∧ Le H H',
  ⟨_, 0, rfl, by omega, rfl, (congrArg (Value.int .i64) (by first | omega | rfl | (simp; done))), (congrArg (Value.int .i64) (Int.pow_zero b).symm), lE⟩, ?_⟩
 rintro n2 σ2 H2 ⟨i, rfl, hiN, g0L2, g1L2, g5L2, lE⟩
 try simp only [g0L2, g1L2, g5L2]
 have p1 := pow_le16 b0 b1 (i := i) (by omega)
 refine ob_i (vInt_gtr _ _ _) ?_
 refine cnd_d (fun hg3 => ?_) (fun hg3 => ?_)
 ·skip
  have ti := hg3
  have p2 := pow_le16 b0 b1 (i := i + 1) (by omega)
  rw [Int.pow_succ] at p2
  refine ob_i (vInt_mul (by omega) (by omega)) ?_
  refine ob_i (vInt_sub (by omega) (by omega)) ?_
  exact nxt (n.toNat - (i + 1)) (by omega) ⟨i + 1, rfl, by omega, g0L2, (congrArg (Value.int .i64) (by first | omega | rfl | (simp; done))), (congrArg (Value.int .i64) (Int.pow_succ b i).symm), lE⟩
 ·skip
  have ti := hg3
  obtain rfl : i = n.toNat := by omega
  exact hJ1 _ _ ⟨(g5L2.trans (congrArg (Value.int .i64) (by first | omega | rfl | (simp; done)))), lE⟩
theorem C.impl_raised {b n : Int}  {H : Hp} {K : Value → Hp → Prop} (b0 : 1 ≤ b) (b1 : b ≤ 3) (n0 : 0 ≤ n) (n1 : n ≤ 16)
    (hk : ∀ H', Le H H' → K (.int .i64 (pwr b n)) H') : HT prg I.impl_raised [(.int .i64 (b)), (.int .i64 (n))].toArray H K := by
 have lE := Le.refl H
 refine R.impl_raised ?_
 unfold F.impl_raised
 refine jn_i (fun σ' H' => σ' 5 = (.int .i64 (pwr b n)) ∧ Le H H') (fun σ1 H1 hP => ?_) (fun J1 hJ1 => ?_)
 ·skip
  obtain ⟨g5L1, lE⟩ := hP
  try simp only [g5L1]
  skip
  exact hk   _    lE
 refine ⟨fun n' σ' H' => ∃ i : Nat, n' = n.toNat - i ∧ i ≤ n.toNat ∧ σ' 0 = (.int .i64 (b)) ∧ σ' 5 = (.int .i64 (b ^ i)) ∧ σ' 6 = (.int .i64 (n)) ∧ σ' 7 = (.int .i64 ((i : Int))) ∧ Le H H',
  ⟨_, 0, rfl, by omega, rfl, (congrArg (Value.int .i64) (Int.pow_zero b).symm), rfl, (congrArg (Value.int .i64) (by first | omega | rfl | (simp; done))), lE⟩, ?_⟩
 rintro n2 σ2 H2 ⟨i, rfl, hiN, g0L2, g5L2, g6L2, g7L2, lE⟩
 try simp only [g0L2, g5L2, g6L2, g7L2]
 have p1 := pow_le16 b0 b1 (i := i) (by omega)
 refine ob_i (vInt_lss _ _ _) ?_
 refine cnd_d (fun hg3 => ?_) (fun hg3 => ?_)
 ·skip
  have ti := hg3
  have p2 := pow_le16 b0 b1 (i := i + 1) (by omega)
  rw [Int.pow_succ] at p2
  refine ob_i (vInt_mul (by omega) (by omega)) ?_
  refine ob_i (vInt_add (by omega) (by omega)) ?_
  exact nxt (n.toNat - (i + 1)) (by omega) ⟨i + 1, rfl, by omega, g0L2, (congrArg (Value.int .i64) (Int.pow_succ b i).symm), g6L2, (congrArg (Value.int .i64) (by first | omega | rfl | (simp; done))), lE⟩
 ·skip
  have ti := hg3
  obtain rfl : i = n.toNat := by omega
  exact hJ1 _ _ ⟨(g5L2.trans (congrArg (Value.int .i64) (by first | omega | rfl | (simp; done)))), lE⟩
theorem C.impl_Rule_cells {vt : Value} {st rc : Int} {T : List Int}  {H : Hp} {K : Value → Hp → Prop} (hvt0 : Sl eI H vt T) (c0 : -1000000 ≤ rc) (c1 : rc ≤ 1000000)
    (hk : ∀ H', Le H H' → K (.int .i64 (2 * rc + 1)) H') : HT prg I.impl_Rule_cells [(.agg #[(.int .i64 (st)), (.int .i64 (rc)), vt])].toArray H K := by
 have lE := Le.refl H
 refine R.impl_Rule_cells ?_
 unfold F.impl_Rule_cells
 refine nw_i (fun p1 H2 op1 nn3 le4 => ?_)
 replace lE := lE.trans le4
 replace op1 : Cel H2 p1 [(.int .i64 (st)), (.int .i64 (rc)), vt] := op1
 refine ob_i (op1.fa 1) ?_
 refine ob_i (op1.ld 1 rfl) ?_
 refine ob_i (vInt_mul (by omega) (by omega)) ?_
 refine ob_i (vInt_add (by omega) (by omega)) ?_
 skip
 exact keq (K := K) (by rw [show (((2 * rc) + 1) : Int) = (2 * rc + 1) from by omega]) (hk   _    lE)
theorem C.spec_l03Wide {p vt : Value} {st rc : Int} {T : List Int}  {H : Hp} {K : Value → Hp → Prop} (hp0 : Cel H p [(.int .i64 (st)), (.int .i64 (rc)), vt]) (hvt0 : Sl eI H vt T) (c0 : -1000000 ≤ rc) (c1 : rc ≤ 1000000)
    (hk : K (.int .i64 (2 * rc + 1)) H) : HT prg I.spec_l03Wide [p].toArray H K := by
 have lE := Le.refl H
 have hp := hp0
 refine R.spec_l03Wide ?_
 unfold F.spec_l03Wide
 refine ob_i (hp.nilC) ?_
 refine ob_i (hp.fa 1) ?_
 refine ob_i (hp.ld 1 rfl) ?_
 refine ob_i (vInt_mul (by omega) (by omega)) ?_
 refine ob_i (vInt_add (by omega) (by omega)) ?_
 skip
 exact keq (K := K) (by rw [show (((2 * rc) + 1) : Int) = (2 * rc + 1) from by omega]) (hk )
theorem C.impl_isReach {rc : Int}  {H : Hp} {K : Value → Hp → Prop}
    (hk : ∀ H', Le H H' → K (.bool (decide (0 ≤ rc ∧ rc ≤ 2))) H') : HT prg I.impl_isReach [(.int .i64 (rc))].toArray H K := by
 have lE := Le.refl H
 refine R.impl_isReach ?_
 unfold F.impl_isReach
 refine C.impl_within  ?_
 skip
 exact hk   _    lE
theorem C.impl_ValidRule {vt : Value} {st rc : Int} {T : List Int}  {H : Hp} {K : Value → Hp → Prop} (hvt0 : Sl eI H vt T) (k1 : T.length ≤ 9223372036854775807)
    (hk : ∀ H', Le H H' → K (.bool (decide (ruleP st rc T))) H') : HT prg I.impl_ValidRule [(.agg #[(.int .i64 (st)), (.int .i64 (rc)), vt])].toArray H K := by
 have lE := Le.refl H
 have hvt := hvt0
 refine R.impl_ValidRule ?_
 unfold F.impl_ValidRule
 refine nw_i (fun p1 H2 op1 nn3 le4 => ?_)
 replace hvt := hvt.le le4
 replace lE := lE.trans le4
 replace op1 : Cel H2 p1 [(.int .i64 (st)), (.int .i64 (rc)), vt] := op1
 refine ob_i (op1.fa 0) ?_
 refine ob_i (op1.ld 0 rfl) ?_
 refine C.impl_areStates  (fun   H5    le6 => ?_)
 replace op1 := op1.le le6
 replace hvt := hvt.le le6
 replace lE := lE.trans le6
 refine ob_nd (fun hc7 => ?_) (fun hc7 => ?_)
 ·skip
  refine gop_rf ?_
  refine ob_i (op1.fa 1) ?_
  refine gop_rf ?_
  refine ob_i (op1.ld 1 rfl) ?_
  refine gop_rf ?_
  refine C.impl_isReach  (fun   H8    le9 => ?_)
  replace op1 := op1.le le9
  replace hvt := hvt.le le9
  replace lE := lE.trans le9
  refine gop_rf ?_
  refine ob_nd (fun hc10 => ?_) (fun hc10 => ?_)
  ·skip
   have pb := pwr_bnd (b := st) (n := 2 * rc + 1) (by omega) (by omega) (by omega)
   refine ob_i (vPick_f _ _) ?_
   refine cnd_f1 ?_
   refine ob_i (op1.fa 0) ?_
   refine ob_i (op1.ld 0 rfl) ?_
   refine ob_i (op1.ldn rfl) ?_
   refine C.impl_Rule_cells hvt (by first | omega | assumption) (by first | omega | assumption) (fun   H11    le12 => ?_)
   replace op1 := op1.le le12
   replace hvt := hvt.le le12
   replace lE := lE.trans le12
   refine ⟨le12, ?_⟩
   refine C.impl_raised (by first | omega | assumption) (by first | omega | assumption) (by first | omega | assumption) (by first | omega | assumption) (fun   H13    le14 => ?_)
   replace op1 := op1.le le14
   replace hvt := hvt.le le14
   replace lE := lE.trans le14
   refine ⟨le14, ?_⟩
   refine ob_i (op1.fa 2) ?_
   refine ob_i (op1.ld 2 rfl) ?_
   refine ob_i (op1.fa 0) ?_
   refine ob_i (op1.ld 0 rfl) ?_
   refine ob_i (vInt_sub (by omega) (by omega)) ?_
   refine C.impl_areMany hvt (by first | omega | assumption) ?_
   skip
   exact keq (K := K) (by rw [show decide (((pwr st (2 * rc + 1)) ≤ (T.length : Int) ∧ (T.length : Int) ≤ (pwr st (2 * rc + 1))) ∧ ∀ x ∈ T, 0 ≤ x ∧ x ≤ (st - 1)) = decide (ruleP st rc T) from decide_eq_decide.mpr (by exact ⟨fun h => ⟨by assumption, by assumption, by omega, h.2⟩, fun h => ⟨by have := h.2.2.1; omega, h.2.2.2⟩⟩)]) (hk   _    lE)
  ·skip
   refine ob_i (vPick_f _ _) ?_
   refine cnd_t1 ?_
   skip
   exact keq (K := K) (by rw [decide_eq_false (show ¬ (ruleP st rc T) from by intro h; have h1 := h.1; have h2 := h.2.1; first | contradiction | omega)]) (hk   _    lE)
 ·skip
  refine gop_st ?_
  refine gop_st ?_
  refine gop_st ?_
  refine gop_st ?_
  refine ob_i (vPick_t _ _) ?_
  refine cnd_t1 ?_
  skip
  exact keq (K := K) (by rw [decide_eq_false (show ¬ (ruleP st rc T) from by intro h; have h1 := h.1; have h2 := h.2.1; first | contradiction | omega)]) (hk   _    lE)
theorem C.spec_l02Is {p vt : Value} {st rc : Int} {T : List Int}  {H : Hp} {K : Value → Hp → Prop} (hp0 : Cel H p [(.int .i64 (st)), (.int .i64 (rc)), vt]) (hvt0 : Sl eI H vt T) (k1 : T.length ≤ 9223372036854775807)
    (hk : ∀ H', Le H H' → K (.bool (decide (ruleP st rc T))) H') : HT prg I.spec_l02Is [p].toArray H K := by
 have lE := Le.refl H
 have hp := hp0
 have hvt := hvt0
 refine R.spec_l02Is ?_
 unfold F.spec_l02Is
 refine ob_i (hp.nilC) ?_
 refine ob_i (hp.fa 0) ?_
 refine ob_i (hp.ld 0 rfl) ?_
 refine C.spec_l00In  ?_
 refine ⟨Le.refl _, ?_⟩
 refine ob_nd (fun hc1 => ?_) (fun hc1 => ?_)
 ·skip
  refine gop_rf ?_
  refine gop_rf ?_
  refine ob_i (hp.nilC) ?_
  refine gop_rf ?_
  refine ob_i (hp.fa 1) ?_
  refine gop_rf ?_
  refine ob_i (hp.ld 1 rfl) ?_
  refine gop_rf ?_
  refine C.spec_l00In  ?_
  refine ⟨Le.refl _, ?_⟩
  refine gop_rf ?_
  refine ob_nd (fun hc2 => ?_) (fun hc2 => ?_)
  ·skip
   refine ob_i (vPick_f _ _) ?_
   refine gop_rf ?_
   refine gop_rf ?_
   refine ob_i (hp.nilC) ?_
   refine gop_rf ?_
   refine ob_i (hp.fa 2) ?_
   refine gop_rf ?_
   refine ob_i (hp.ld 2 rfl) ?_
   refine gop_rf ?_
   refine ob_i (hvt.len) ?_
   refine gop_rf ?_
   refine gop_rf ?_
   refine ob_i (hp.nilC) ?_
   refine gop_rf ?_
   refine ob_i (hp.fa 0) ?_
   refine gop_rf ?_
   refine ob_i (hp.ld 0 rfl) ?_
   refine gop_rf ?_
   refine gop_rf ?_
   refine ob_i (hp.nilC) ?_
   refine gop_rf ?_
   refine ob_i (hp.fa 1) ?_
   refine gop_rf ?_
   refine ob_i (hp.ld 1 rfl) ?_
   refine gop_rf ?_
   refine ob_i (vInt_mul (by omega) (by omega)) ?_
   refine gop_rf ?_
   refine ob_i (vInt_add (by omega) (by omega)) ?_
   refine gop_rf ?_
   refine C.spec_l02Powers (by first | omega | assumption) (by first | omega | assumption) (by first | omega | assumption) (by first | omega | assumption) (fun   H3    le4 => ?_)
   replace hp := hp.le le4
   replace hvt := hvt.le le4
   replace lE := lE.trans le4
   refine ⟨le4, ?_⟩
   refine gop_rf ?_
   refine ob_i (vInt_neq _ _ _) ?_
   refine ob_i (vPick_f _ _) ?_
   refine cnd_d (fun hg5 => ?_) (fun hg5 => ?_)
   ·skip
    skip
    exact keq (K := K) (by rw [decide_eq_false (show ¬ (ruleP st rc T) from by intro h; obtain ⟨h1, h2, h3, h4⟩ := h; first | contradiction | omega | (have h5 := h4 _ (at_mem 0 T (i := (i : Int)) (by omega) (by omega)); contradiction))]) (hk   _    lE)
   ·skip
    refine jn_i (fun σ' H' => Le H H' ∧ ∀ x ∈ T, 0 ≤ x ∧ x ≤ st - 1) (fun σ6 H6 hP => ?_) (fun J6 hJ6 => ?_)
    ·skip
     obtain ⟨lE, ho0⟩ := hP
     skip
     exact keq (K := K) (by rw [decide_eq_true (show (ruleP st rc T) from by exact ⟨by omega, by assumption, by omega, ho0⟩)]) (hk   _    lE)
    refine ⟨fun n' σ' H' => ∃ i : Nat, n' = T.length - i ∧ i ≤ T.length ∧ σ' 0 = p ∧ σ' 3 = (.int .i64 ((i : Int))) ∧ Le H H' ∧ ∀ x ∈ T.take i, 0 ≤ x ∧ x ≤ st - 1,
     ⟨_, 0, rfl, by omega, rfl, (congrArg (Value.int .i64) (by first | omega | rfl | (simp; done))), lE, (by simp)⟩, ?_⟩
    rintro n7 σ7 H7 ⟨i, rfl, hiN, g0L7, g3L7, lE, hm0⟩
    have hp := hp0.le lE
    have hvt := hvt0.le lE
    try simp only [g0L7, g3L7]
    refine ob_i (hp.nilC) ?_
    refine ob_i (hp.fa 2) ?_
    refine ob_i (hp.ld 2 rfl) ?_
    refine ob_i (hvt.len) ?_
    refine ob_i (vInt_lss _ _ _) ?_
    refine cnd_d (fun hg8 => ?_) (fun hg8 => ?_)
    ·skip
     have ti := hg8
     refine ob_i (hp.nilC) ?_
     refine ob_i (hp.fa 2) ?_
     refine ob_i (hp.ld 2 rfl) ?_
     refine ob_i (hvt.ix (by omega) (by omega)) ?_
     refine ob_i (hvt.ld 0 (by omega) (by omega)) ?_
     refine ob_i (hp.nilC) ?_
     refine ob_i (hp.fa 0) ?_
     refine ob_i (hp.ld 0 rfl) ?_
     refine ob_i (vInt_sub (by omega) (by omega)) ?_
     refine C.spec_l00In  ?_
     refine ⟨Le.refl _, ?_⟩
     refine ob_nd (fun hc9 => ?_) (fun hc9 => ?_)
     ·skip
      refine cnd_f1 ?_
      refine ob_i (vInt_add (by omega) (by omega)) ?_
      exact nxt (T.length - (i + 1)) (by omega) ⟨i + 1, rfl, by omega, g0L7, (congrArg (Value.int .i64) (by first | omega | rfl | (simp; done))), lE, (all_take hm0 (by omega) (by assumption))⟩
     ·skip
      refine cnd_t1 ?_
      refine retK (K := K) (v' := (.bool false)) rfl ?_
      skip
      exact keq (K := K) (by rw [decide_eq_false (show ¬ (ruleP st rc T) from by intro h; obtain ⟨h1, h2, h3, h4⟩ := h; first | contradiction | omega | (have h5 := h4 _ (at_mem 0 T (i := (i : Int)) (by omega) (by omega)); contradiction))]) (hk   _    lE)
    ·skip
     have ti := hg8
     exact hJ6 _ _ ⟨lE, (by rw [List.take_of_length_le (by omega)] at hm0; exact hm0)⟩
  ·skip
   refine ob_i (vPick_f _ _) ?_
   refine gop_st ?_
   refine gop_st ?_
   refine gop_st ?_
   refine gop_st ?_
   refine gop_st ?_
   refine gop_st ?_
   refine gop_st ?_
   refine gop_st ?_
   refine gop_st ?_
   refine gop_st ?_
   refine gop_st ?_
   refine gop_st ?_
   refine gop_st ?_
   refine gop_st ?_
   refine gop_st ?_
   refine gop_st ?_
   refine gop_st ?_
   refine ob_i (vPick_t _ _) ?_
   refine cnd_t1 ?_
   skip
   exact keq (K := K) (by rw [decide_eq_false (show ¬ (ruleP st rc T) from by intro h; obtain ⟨h1, h2, h3, h4⟩ := h; first | contradiction | omega | (have h5 := h4 _ (at_mem 0 T (i := (i : Int)) (by omega) (by omega)); contradiction))]) (hk   _    lE)
 ·skip
  refine gop_st ?_
  refine gop_st ?_
  refine gop_st ?_
  refine gop_st ?_
  refine gop_st ?_
  refine gop_st ?_
  refine ob_i (vPick_t _ _) ?_
  refine gop_st ?_
  refine gop_st ?_
  refine gop_st ?_
  refine gop_st ?_
  refine gop_st ?_
  refine gop_st ?_
  refine gop_st ?_
  refine gop_st ?_
  refine gop_st ?_
  refine gop_st ?_
  refine gop_st ?_
  refine gop_st ?_
  refine gop_st ?_
  refine gop_st ?_
  refine gop_st ?_
  refine gop_st ?_
  refine gop_st ?_
  refine ob_i (vPick_t _ _) ?_
  refine cnd_t1 ?_
  skip
  exact keq (K := K) (by rw [decide_eq_false (show ¬ (ruleP st rc T) from by intro h; obtain ⟨h1, h2, h3, h4⟩ := h; first | contradiction | omega | (have h5 := h4 _ (at_mem 0 T (i := (i : Int)) (by omega) (by omega)); contradiction))]) (hk   _    lE)
theorem C.impl_digitsOf {n b k : Int}  {H : Hp} {K : Value → Hp → Prop} (b0 : 1 ≤ b) (b1 : b ≤ 3) (n0 : 0 ≤ n) (n1 : n ≤ 50000000) (k0 : 0 ≤ k) (k1 : k ≤ 16)
    (hk : ∀ u1 H', Own eI H' u1 (digL n b k.toNat) → Nw H u1 → Le H H' → K u1 H') : HT prg I.impl_digitsOf [(.int .i64 (n)), (.int .i64 (b)), (.int .i64 (k))].toArray H K := by
 have lE := Le.refl H
 refine R.impl_digitsOf ?_
 unfold F.impl_digitsOf
 refine Own.mk_ (z := (0 : Int)) (by omega) (by omega) (by omega) (by omega) (fun u H1 ou nn2 le3 => ?_)
 have nu : Nw H u := nn2.le lE
 replace lE := lE.trans le3
 refine jn_i (fun σ' H' => σ' 7 = u ∧ Own eI H' u (digL n b k.toNat) ∧ Le H H') (fun σ4 H4 hP => ?_) (fun J4 hJ4 => ?_)
 ·skip
  obtain ⟨g7L4, ou, lE⟩ := hP
  try simp only [g7L4]
  skip
  exact hk  u _ ou nu  lE
 refine ob_i (vInt_sub (by omega) (by omega)) ?_
 refine ⟨fun n' σ' H' => ∃ j : Nat, n' = k.toNat - j ∧ j ≤ k.toNat ∧ σ' 0 = (.int .i64 (n / b ^ j)) ∧ σ' 1 = (.int .i64 (b)) ∧ σ' 7 = u ∧ σ' 8 = (.int .i64 (k - 1 - (j : Int))) ∧ Own eI H' u (digF n b k.toNat j) ∧ Le H H',
  ⟨_, 0, rfl, by omega, (congrArg (Value.int .i64) (by rw [Int.pow_zero, Int.ediv_one])), rfl, rfl, (congrArg (Value.int .i64) (by first | omega | rfl | (simp; done))), (Own.cast (digF_zero n b k.toNat).symm ou), lE⟩, ?_⟩
 rintro n5 σ5 H5 ⟨j, rfl, hjN, g0L5, g1L5, g7L5, g8L5, ou, lE⟩
 try simp only [g0L5, g1L5, g7L5, g8L5]
 have dl := digF_len n b k.toNat j
 have db := div_pow_bnd n0 b0 j
 refine ob_i (vInt_geq _ _ _) ?_
 refine cnd_d (fun hg6 => ?_) (fun hg6 => ?_)
 ·skip
  have tj := hg6
  have rm7 := And.intro (Int.emod_nonneg (n / b ^ j) (b := b) (by omega)) (Int.emod_lt_of_pos (n / b ^ j) (b := b) (by omega))
  refine ob_i (vInt_remN (by omega) (by omega)) ?_
  refine ob_i (ou.sl.ix (by omega) (by omega)) ?_
  refine ou.st (x := (n / b ^ j) % b) (by omega) (by omega) rfl rfl (fun H8 ou off9 => ?_)
  replace lE := off9.le lE nu
  refine ob_i (vInt_quoN (by omega) (by omega) (by omega)) ?_
  refine ob_i (vInt_sub (by omega) (by omega)) ?_
  exact nxt (k.toNat - (j + 1)) (by omega) ⟨j + 1, rfl, by omega, (congrArg (Value.int .i64) (div_pow_succ (by omega) j)), g1L5, g7L5, (congrArg (Value.int .i64) (by first | omega | rfl | (simp; done))), (Own.cast (by rw [show (k - 1 - (j : Int)).toNat = k.toNat - 1 - j by omega]; exact digF_set (by omega)) ou), lE⟩
 ·skip
  have tj := hg6
  rw [digF_end (by omega)] at ou
  exact hJ4 _ _ ⟨g7L5, ou, lE⟩
theorem C.spec_l03Cells {n b k : Int}  {H : Hp} {K : Value → Hp → Prop} (b0 : 1 ≤ b) (b1 : b ≤ 3) (n0 : 0 ≤ n) (n1 : n ≤ 50000000) (k0 : 0 ≤ k) (k1 : k ≤ 16)
    (hk : ∀ u1 H', Own eI H' u1 (digL n b k.toNat) → Nw H u1 → Le H H' → K u1 H') : HT prg I.spec_l03Cells [(.int .i64 (n)), (.int .i64 (b)), (.int .i64 (k))].toArray H K := by
 have lE := Le.refl H
 refine R.spec_l03Cells ?_
 unfold F.spec_l03Cells
 refine Own.mk_ (z := (0 : Int)) (by omega) (by omega) (by omega) (by omega) (fun u H1 ou nn2 le3 => ?_)
 have nu : Nw H u := nn2.le lE
 replace lE := lE.trans le3
 refine jn_i (fun σ' H' => σ' 7 = u ∧ Own eI H' u (digL n b k.toNat) ∧ Le H H') (fun σ4 H4 hP => ?_) (fun J4 hJ4 => ?_)
 ·skip
  obtain ⟨g7L4, ou, lE⟩ := hP
  try simp only [g7L4]
  skip
  exact hk  u _ ou nu  lE
 refine ob_i (vInt_sub (by omega) (by omega)) ?_
 refine ⟨fun n' σ' H' => ∃ j : Nat, n' = k.toNat - j ∧ j ≤ k.toNat ∧ σ' 0 = (.int .i64 (n / b ^ j)) ∧ σ' 1 = (.int .i64 (b)) ∧ σ' 7 = u ∧ σ' 8 = (.int .i64 (k - 1 - (j : Int))) ∧ Own eI H' u (digF n b k.toNat j) ∧ Le H H',
  ⟨_, 0, rfl, by omega, (congrArg (Value.int .i64) (by rw [Int.pow_zero, Int.ediv_one])), rfl, rfl, (congrArg (Value.int .i64) (by first | omega | rfl | (simp; done))), (Own.cast (digF_zero n b k.toNat).symm ou), lE⟩, ?_⟩
 rintro n5 σ5 H5 ⟨j, rfl, hjN, g0L5, g1L5, g7L5, g8L5, ou, lE⟩
 try simp only [g0L5, g1L5, g7L5, g8L5]
 have dl := digF_len n b k.toNat j
 have db := div_pow_bnd n0 b0 j
 refine ob_i (vInt_geq _ _ _) ?_
 refine cnd_d (fun hg6 => ?_) (fun hg6 => ?_)
 ·skip
  have tj := hg6
  have rm7 := And.intro (Int.emod_nonneg (n / b ^ j) (b := b) (by omega)) (Int.emod_lt_of_pos (n / b ^ j) (b := b) (by omega))
  refine ob_i (vInt_remN (by omega) (by omega)) ?_
  refine ob_i (ou.sl.ix (by omega) (by omega)) ?_
  refine ou.st (x := (n / b ^ j) % b) (by omega) (by omega) rfl rfl (fun H8 ou off9 => ?_)
  replace lE := off9.le lE nu
  refine ob_i (vInt_quoN (by omega) (by omega) (by omega)) ?_
  refine ob_i (vInt_sub (by omega) (by omega)) ?_
  exact nxt (k.toNat - (j + 1)) (by omega) ⟨j + 1, rfl, by omega, (congrArg (Value.int .i64) (div_pow_succ (by omega) j)), g1L5, g7L5, (congrArg (Value.int .i64) (by first | omega | rfl | (simp; done))), (Own.cast (by rw [show (k - 1 - (j : Int)).toNat = k.toNat - 1 - j by omega]; exact digF_set (by omega)) ou), lE⟩
 ·skip
  have tj := hg6
  rw [digF_end (by omega)] at ou
  exact hJ4 _ _ ⟨g7L5, ou, lE⟩
theorem C.impl_numberOf {va : Value} {b : Int} {l : List Int}  {H : Hp} {K : Value → Hp → Prop} (hva0 : Sl eI H va l) (b0 : 1 ≤ b) (b1 : b ≤ 3) (he : ∀ x ∈ l, 0 ≤ x ∧ x ≤ b - 1) (hl : l.length ≤ 16)
    (hk : ∀ H', Le H H' → K (.int .i64 (numL b l)) H') : HT prg I.impl_numberOf [va, (.int .i64 (b))].toArray H K := by
 have lE := Le.refl H
 have hva := hva0
 refine R.impl_numberOf ?_
 unfold F.impl_numberOf
 refine jn_i (fun σ' H' => σ' 5 = (.int .i64 (numL b l)) ∧ Le H H') (fun σ1 H1 hP => ?_) (fun J1 hJ1 => ?_)
 ·skip
  obtain ⟨g5L1, lE⟩ := hP
  try simp only [g5L1]
  skip
  exact hk   _    lE
 refine ob_i (hva.len) ?_
 refine ⟨fun n' σ' H' => ∃ i : Nat, n' = l.length - i ∧ i ≤ l.length ∧ σ' 1 = (.int .i64 (b)) ∧ σ' 5 = (.int .i64 (numL b (l.take i))) ∧ σ' 8 = va ∧ σ' 9 = (.int .i64 (((l).length : Int))) ∧ σ' 10 = (.int .i64 ((i : Int))) ∧ Le H H',
  ⟨_, 0, rfl, by omega, rfl, (congrArg (Value.int .i64) (numL_nil b).symm), rfl, rfl, (congrArg (Value.int .i64) (by first | omega | rfl | (simp; done))), lE⟩, ?_⟩
 rintro n2 σ2 H2 ⟨i, rfl, hiN, g1L2, g5L2, g8L2, g9L2, g10L2, lE⟩
 have hva := hva0.le lE
 try simp only [g1L2, g5L2, g8L2, g9L2, g10L2]
 have n1 := numL_bnd16 b0 b1 (take_in (n := i) he) (by rw [List.length_take]; omega)
 refine ob_i (vInt_lss _ _ _) ?_
 refine cnd_d (fun hg3 => ?_) (fun hg3 => ?_)
 ·skip
  have ti := hg3
  have n2 := numL_bnd16 b0 b1 (take_in (n := i + 1) he) (by rw [List.length_take]; omega)
  rw [numL_take (by omega)] at n2
  have n3 := he _ (at_mem 0 l (i := (i : Int)) (by omega) (by omega))
  have n4 := mul3_bnd n1.1 b0 b1
  refine ob_i (hva.ix (by omega) (by omega)) ?_
  refine ob_i (hva.ld 0 (by omega) (by omega)) ?_
  refine ob_i (vInt_mul (by omega) (by omega)) ?_
  refine ob_i (vInt_add (by omega) (by omega)) ?_
  refine ob_i (vInt_add (by omega) (by omega)) ?_
  exact nxt (l.length - (i + 1)) (by omega) ⟨i + 1, rfl, by omega, g1L2, (congrArg (Value.int .i64) (numL_take (by omega)).symm), g8L2, g9L2, (congrArg (Value.int .i64) (by first | omega | rfl | (simp; done))), lE⟩
 ·skip
  have ti := hg3
  obtain rfl : i = l.length := by omega
  exact hJ1 _ _ ⟨(g5L2.trans (congrArg (Value.int .i64) (by rw [List.take_of_length_le (by omega)]))), lE⟩
theorem C.spec_l03Number {va : Value} {b : Int} {l : List Int}  {H : Hp} {K : Value → Hp → Prop} (hva0 : Sl eI H va l) (b0 : 1 ≤ b) (b1 : b ≤ 3) (he : ∀ x ∈ l, 0 ≤ x ∧ x ≤ b - 1) (hl : l.length ≤ 16)
    (hk : ∀ H', Le H H' → K (.int .i64 (numL b l)) H') : HT prg I.spec_l03Number [va, (.int .i64 (b))].toArray H K := by
 have lE := Le.refl H
 have hva := hva0
 refine R.spec_l03Number ?_
 unfold F.spec_l03Number
 refine jn_i (fun σ' H' => σ' 5 = (.int .i64 (numL b l)) ∧ Le H H') (fun σ1 H1 hP => ?_) (fun J1 hJ1 => ?_)
 ·skip
  obtain ⟨g5L1, lE⟩ := hP
  try simp only [g5L1]
  skip
  exact hk   _    lE
 refine ob_i (hva.len) ?_
 refine ⟨fun n' σ' H' => ∃ i : Nat, n' = l.length - i ∧ i ≤ l.length ∧ σ' 0 = va ∧ σ' 1 = (.int .i64 (b)) ∧ σ' 5 = (.int .i64 (numL b (l.take i))) ∧ σ' 8 = (.int .i64 (((l).length : Int))) ∧ σ' 9 = (.int .i64 ((i : Int))) ∧ Le H H',
  ⟨_, 0, rfl, by omega, rfl, rfl, (congrArg (Value.int .i64) (numL_nil b).symm), rfl, (congrArg (Value.int .i64) (by first | omega | rfl | (simp; done))), lE⟩, ?_⟩
 rintro n2 σ2 H2 ⟨i, rfl, hiN, g0L2, g1L2, g5L2, g8L2, g9L2, lE⟩
 have hva := hva0.le lE
 try simp only [g0L2, g1L2, g5L2, g8L2, g9L2]
 have n1 := numL_bnd16 b0 b1 (take_in (n := i) he) (by rw [List.length_take]; omega)
 refine ob_i (vInt_lss _ _ _) ?_
 refine cnd_d (fun hg3 => ?_) (fun hg3 => ?_)
 ·skip
  have ti := hg3
  have n2 := numL_bnd16 b0 b1 (take_in (n := i + 1) he) (by rw [List.length_take]; omega)
  rw [numL_take (by omega)] at n2
  have n3 := he _ (at_mem 0 l (i := (i : Int)) (by omega) (by omega))
  have n4 := mul3_bnd n1.1 b0 b1
  refine ob_i (vInt_mul (by omega) (by omega)) ?_
  refine ob_i (hva.ix (by omega) (by omega)) ?_
  refine ob_i (hva.ld 0 (by omega) (by omega)) ?_
  refine ob_i (vInt_add (by omega) (by omega)) ?_
  refine ob_i (vInt_add (by omega) (by omega)) ?_
  exact nxt (l.length - (i + 1)) (by omega) ⟨i + 1, rfl, by omega, g0L2, g1L2, (congrArg (Value.int .i64) (numL_take (by omega)).symm), g8L2, (congrArg (Value.int .i64) (by first | omega | rfl | (simp; done))), lE⟩
 ·skip
  have ti := hg3
  obtain rfl : i = l.length := by omega
  exact hJ1 _ _ ⟨(g5L2.trans (congrArg (Value.int .i64) (by rw [List.take_of_length_le (by omega)]))), lE⟩
theorem C.impl_Rule_at {vt va : Value} {st rc i : Int} {T : List Int} {l : List Int}  {H : Hp} {K : Value → Hp → Prop} (hvt0 : Sl eI H vt T) (hva0 : Sl eI H va l) (hr : ruleP st rc T) (h0 : 0 < l.length) (h1 : l.length ≤ 64) (he : ∀ x ∈ l, 0 ≤ x ∧ x ≤ st - 1) (i0 : 0 ≤ i) (i1 : i < l.length)
    (hk : ∀ H', Le H H' → K (.int .i64 (tdN st rc T l i)) H') : HT prg I.impl_Rule_at [(.agg #[(.int .i64 (st)), (.int .i64 (rc)), vt]), va, (.int .i64 (i))].toArray H K := by
 have lE := Le.refl H
 have hvt := hvt0
 have hva := hva0
 refine R.impl_Rule_at ?_
 unfold F.impl_Rule_at
 have hr1 := hr.1
 have hr2 := hr.2.1
 have hr3 := ruleP_len hr
 have hr4 := hr.2.2.2
 have hix := hdN_ix hr he h0 i
 refine nw_i (fun p1 H2 op1 nn3 le4 => ?_)
 replace hvt := hvt.le le4
 replace hva := hva.le le4
 replace lE := lE.trans le4
 replace op1 : Cel H2 p1 [(.int .i64 (st)), (.int .i64 (rc)), vt] := op1
 refine ob_i (hva.len) ?_
 refine jn_i (fun σ' H' => σ' 3 = p1 ∧ σ' 8 = (.int .i64 (hdN st rc l i (2 * rc + 1).toNat)) ∧ Cel H' p1 [(.int .i64 (st)), (.int .i64 (rc)), vt] ∧ Le H H') (fun σ5 H5 hP => ?_) (fun J5 hJ5 => ?_)
 ·skip
  obtain ⟨g3L5, g8L5, op1, lE⟩ := hP
  have hvt := hvt0.le lE
  try simp only [g3L5, g8L5]
  refine ob_i (op1.fa 2) ?_
  refine ob_i (op1.ld 2 rfl) ?_
  refine ob_i (hvt.ix (by omega) (by omega)) ?_
  refine ob_i (hvt.ld 0 (by omega) (by omega)) ?_
  skip
  exact keq (K := K) (by rw [show ((at_ 0 (T) (hdN st rc l i (2 * rc + 1).toNat)) : Int) = (tdN st rc T l i) from by rfl]) (hk   _    lE)
 refine ob_i (op1.fa 1) ?_
 refine ob_i (op1.ld 1 rfl) ?_
 refine ob_i (vInt_sub (by omega) (by omega)) ?_
 refine ⟨fun n' σ' H' => ∃ t : Nat, n' = (2 * rc + 1).toNat - t ∧ t ≤ (2 * rc + 1).toNat ∧ σ' 1 = va ∧ σ' 2 = (.int .i64 (i)) ∧ σ' 3 = p1 ∧ σ' 7 = (.int .i64 (((l).length : Int))) ∧ σ' 8 = (.int .i64 (hdN st rc l i t)) ∧ σ' 9 = (.int .i64 (i - rc + (t : Int))) ∧ Cel H' p1 [(.int .i64 (st)), (.int .i64 (rc)), vt] ∧ Le H H',
  ⟨_, 0, rfl, by omega, rfl, rfl, rfl, rfl, (congrArg (Value.int .i64) (by first | omega | rfl | (simp; done))), (congrArg (Value.int .i64) (by first | omega | rfl | (simp; done))), op1, lE⟩, ?_⟩
 rintro n6 σ6 H6 ⟨t, rfl, htN, g1L6, g2L6, g3L6, g7L6, g8L6, g9L6, op1, lE⟩
 have hva := hva0.le lE
 try simp only [g1L6, g2L6, g3L6, g7L6, g8L6, g9L6]
 have z1 := hdN_bnd5 (st := st) (rc := rc) (by omega) (by omega) he h0 i (t := t) (by omega)
 refine ob_i (op1.fa 1) ?_
 refine ob_i (op1.ld 1 rfl) ?_
 refine ob_i (vInt_add (by omega) (by omega)) ?_
 refine ob_i (vInt_leq _ _ _) ?_
 refine cnd_d (fun hg7 => ?_) (fun hg7 => ?_)
 ·skip
  have tt := hg7
  have z2 := hdN_bnd5 (st := st) (rc := rc) (by omega) (by omega) he h0 i (t := t + 1) (by omega)
  have z3 : hdN st rc l i (t + 1) = hdN st rc l i t * st + at_ 0 l ((i - rc + (t : Int)) % (l.length : Int)) := rfl
  have z4 := Int.emod_nonneg (i - rc + (t : Int)) (b := (l.length : Int)) (by omega)
  have z5 := Int.emod_lt_of_pos (i - rc + (t : Int)) (b := (l.length : Int)) (by omega)
  have z6 := he _ (at_mem 0 l z4 z5)
  have z7 := mul3_bnd z1.1 (show 1 ≤ st by omega) (by omega)
  refine ob_i (op1.fa 0) ?_
  refine ob_i (op1.ld 0 rfl) ?_
  refine ob_i (vInt_mul (by omega) (by omega)) ?_
  refine C.floorMod (by first | omega | assumption) (by first | omega | assumption) (by first | omega | assumption) (by first | omega | assumption) ?_
  refine ⟨Le.refl _, ?_⟩
  refine ob_i (hva.ix (by omega) (by omega)) ?_
  refine ob_i (hva.ld 0 (by omega) (by omega)) ?_
  refine ob_i (vInt_add (by omega) (by omega)) ?_
  refine ob_i (vInt_add (by omega) (by omega)) ?_
  exact nxt ((2 * rc + 1).toNat - (t + 1)) (by omega) ⟨t + 1, rfl, by omega, g1L6, g2L6, g3L6, g7L6, (congrArg (Value.int .i64) (by first | omega | rfl | (simp; done))), (congrArg (Value.int .i64) (by first | omega | rfl | (simp; done))), op1, lE⟩
 ·skip
  have tt := hg7
  obtain rfl : t = (2 * rc + 1).toNat := by omega
  exact hJ5 _ _ ⟨g3L6, (g8L6.trans (congrArg (Value.int .i64) (by first | omega | rfl | (simp; done)))), op1, lE⟩
theorem C.spec_l02Told {p vt va : Value} {i st rc : Int} {T : List Int} {l : List Int}  {H : Hp} {K : Value → Hp → Prop} (hp0 : Cel H p [(.int .i64 (st)), (.int .i64 (rc)), vt]) (hvt0 : Sl eI H vt T) (hva0 : Sl eI H va l) (hr : ruleP st rc T) (h0 : 0 < l.length) (h1 : l.length ≤ 64) (he : ∀ x ∈ l, 0 ≤ x ∧ x ≤ st - 1) (i0 : 0 ≤ i) (i1 : i < l.length)
    (hk : ∀ H', Le H H' → K (.int .i64 (tdN st rc T l i)) H') : HT prg I.spec_l02Told [p, va, (.int .i64 (i))].toArray H K := by
 have lE := Le.refl H
 have hp := hp0
 have hvt := hvt0
 have hva := hva0
 refine R.spec_l02Told ?_
 unfold F.spec_l02Told
 have hr1 := hr.1
 have hr2 := hr.2.1
 have hr3 := ruleP_len hr
 have hr4 := hr.2.2.2
 have hix := hdN_ix hr he h0 i
 refine ob_i (hva.len) ?_
 refine jn_i (fun σ' H' => σ' 0 = p ∧ σ' 8 = (.int .i64 (hdN st rc l i (2 * rc + 1).toNat)) ∧ Le H H') (fun σ1 H1 hP => ?_) (fun J1 hJ1 => ?_)
 ·skip
  obtain ⟨g0L1, g8L1, lE⟩ := hP
  have hp := hp0.le lE
  have hvt := hvt0.le lE
  try simp only [g0L1, g8L1]
  refine ob_i (hp.nilC) ?_
  refine ob_i (hp.fa 2) ?_
  refine ob_i (hp.ld 2 rfl) ?_
  refine ob_i (hvt.ix (by omega) (by omega)) ?_
  refine ob_i (hvt.ld 0 (by omega) (by omega)) ?_
  skip
  exact keq (K := K) (by rw [show ((at_ 0 (T) (hdN st rc l i (2 * rc + 1).toNat)) : Int) = (tdN st rc T l i) from by rfl]) (hk   _    lE)
 refine ob_i (hp.nilC) ?_
 refine ob_i (hp.fa 1) ?_
 refine ob_i (hp.ld 1 rfl) ?_
 refine ob_i (vInt_sub (by omega) (by omega)) ?_
 refine ⟨fun n' σ' H' => ∃ t : Nat, n' = (2 * rc + 1).toNat - t ∧ t ≤ (2 * rc + 1).toNat ∧ σ' 0 = p ∧ σ' 1 = va ∧ σ' 2 = (.int .i64 (i)) ∧ σ' 7 = (.int .i64 (((l).length : Int))) ∧ σ' 8 = (.int .i64 (hdN st rc l i t)) ∧ σ' 9 = (.int .i64 (i - rc + (t : Int))) ∧ Le H H',
  ⟨_, 0, rfl, by omega, rfl, rfl, rfl, rfl, (congrArg (Value.int .i64) (by first | omega | rfl | (simp; done))), (congrArg (Value.int .i64) (by first | omega | rfl | (simp; done))), lE⟩, ?_⟩
 rintro n2 σ2 H2 ⟨t, rfl, htN, g0L2, g1L2, g2L2, g7L2, g8L2, g9L2, lE⟩
 have hp := hp0.le lE
 have hva := hva0.le lE
 try simp only [g0L2, g1L2, g2L2, g7L2, g8L2, g9L2]
 have z1 := hdN_bnd5 (st := st) (rc := rc) (by omega) (by omega) he h0 i (t := t) (by omega)
 refine ob_i (hp.nilC) ?_
 refine ob_i (hp.fa 1) ?_
 refine ob_i (hp.ld 1 rfl) ?_
 refine ob_i (vInt_add (by omega) (by omega)) ?_
 refine ob_i (vInt_leq _ _ _) ?_
 refine cnd_d (fun hg3 => ?_) (fun hg3 => ?_)
 ·skip
  have tt := hg3
  have z2 := hdN_bnd5 (st := st) (rc := rc) (by omega) (by omega) he h0 i (t := t + 1) (by omega)
  have z3 : hdN st rc l i (t + 1) = hdN st rc l i t * st + at_ 0 l ((i - rc + (t : Int)) % (l.length : Int)) := rfl
  have z4 := Int.emod_nonneg (i - rc + (t : Int)) (b := (l.length : Int)) (by omega)
  have z5 := Int.emod_lt_of_pos (i - rc + (t : Int)) (b := (l.length : Int)) (by omega)
  have z6 := he _ (at_mem 0 l z4 z5)
  have z7 := mul3_bnd z1.1 (show 1 ≤ st by omega) (by omega)
  refine ob_i (hp.nilC) ?_
  refine ob_i (hp.fa 0) ?_
  refine ob_i (hp.ld 0 rfl) ?_
  refine ob_i (vInt_mul (by omega) (by omega)) ?_
  have tm4 := (fmod_eq (a := i - rc + (t : Int)) (n := ((l).length : Int)) (by omega)).2
  refine ob_i (vInt_rem (by omega)) ?_
  refine ob_i (vInt_add (by omega) (by omega)) ?_
  have rm5 := And.intro (Int.emod_nonneg (i - rc + (t : Int)) (b := ((l).length : Int)) (by omega)) (Int.emod_lt_of_pos (i - rc + (t : Int)) (b := ((l).length : Int)) (by omega))
  refine ob_i (a := .int .i64 ((i - rc + (t : Int)) % (((l).length : Int)))) (by rw [vInt_remN (by omega) (by omega), (fmod_eq (a := i - rc + (t : Int)) (n := ((l).length : Int)) (by omega)).1]) ?_
  refine ob_i (hva.ix (by omega) (by omega)) ?_
  refine ob_i (hva.ld 0 (by omega) (by omega)) ?_
  refine ob_i (vInt_add (by omega) (by omega)) ?_
  refine ob_i (vInt_add (by omega) (by omega)) ?_
  exact nxt ((2 * rc + 1).toNat - (t + 1)) (by omega) ⟨t + 1, rfl, by omega, g0L2, g1L2, g2L2, g7L2, (congrArg (Value.int .i64) (by first | omega | rfl | (simp; done))), (congrArg (Value.int .i64) (by first | omega | rfl | (simp; done))), lE⟩
 ·skip
  have tt := hg3
  obtain rfl : t = (2 * rc + 1).toNat := by omega
  exact hJ1 _ _ ⟨g0L2, (g8L2.trans (congrArg (Value.int .i64) (by first | omega | rfl | (simp; done)))), lE⟩
theorem C.impl_Rule_step {vt va : Value} {st rc : Int} {T : List Int} {l : List Int}  {H : Hp} {K : Value → Hp → Prop} (hvt0 : Sl eI H vt T) (hva0 : Sl eI H va l) (hr : ruleP st rc T) (h0 : 0 < l.length) (h1 : l.length ≤ 64) (he : ∀ x ∈ l, 0 ≤ x ∧ x ≤ st - 1)
    (hk : ∀ u1 H', Own eI H' u1 (stpL st rc T l) → Nw H u1 → Le H H' → K u1 H') : HT prg I.impl_Rule_step [(.agg #[(.int .i64 (st)), (.int .i64 (rc)), vt]), va].toArray H K := by
 have lE := Le.refl H
 have hvt := hvt0
 have hva := hva0
 refine R.impl_Rule_step ?_
 unfold F.impl_Rule_step
 have hr1 := hr.1
 have hr2 := hr.2.1
 have hr3 := ruleP_len hr
 have hr4 := hr.2.2.2
 refine nw_i (fun p1 H2 op1 nn3 le4 => ?_)
 replace hvt := hvt.le le4
 replace hva := hva.le le4
 replace lE := lE.trans le4
 replace op1 : Cel H2 p1 [(.int .i64 (st)), (.int .i64 (rc)), vt] := op1
 refine ob_i (hva.len) ?_
 refine Own.mk_ (z := (0 : Int)) (by omega) (by omega) (by omega) (by omega) (fun u H5 ou nn6 le7 => ?_)
 have ap1Xu : Apart p1 u := op1.apart nn6
 have nu : Nw H u := nn6.le lE
 replace op1 := op1.le le7
 replace hvt := hvt.le le7
 replace hva := hva.le le7
 replace lE := lE.trans le7
 refine jn_i (fun σ' H' => σ' 5 = u ∧ Cel H' p1 [(.int .i64 (st)), (.int .i64 (rc)), vt] ∧ Own eI H' u (stpL st rc T l) ∧ Le H H') (fun σ8 H8 hP => ?_) (fun J8 hJ8 => ?_)
 ·skip
  obtain ⟨g5L8, op1, ou, lE⟩ := hP
  try simp only [g5L8]
  skip
  exact hk  u _ ou nu  lE
 refine ob_i (ou.len) ?_
 refine ⟨fun n' σ' H' => ∃ i : Nat, n' = l.length - i ∧ i ≤ l.length ∧ σ' 1 = va ∧ σ' 2 = p1 ∧ σ' 5 = u ∧ σ' 11 = (.int .i64 (((List.replicate (((l).length : Int) : Int).toNat 0).length : Int))) ∧ σ' 12 = (.int .i64 ((i : Int))) ∧ Cel H' p1 [(.int .i64 (st)), (.int .i64 (rc)), vt] ∧ Own eI H' u (stpF st rc T l i ++ List.replicate (l.length - i) 0) ∧ Le H H',
  ⟨_, 0, rfl, by omega, rfl, rfl, rfl, rfl, (congrArg (Value.int .i64) (by first | omega | rfl | (simp; done))), op1, (Own.cast (by simp [stpF]) ou), lE⟩, ?_⟩
 rintro n9 σ9 H9 ⟨i, rfl, hiN, g1L9, g2L9, g5L9, g11L9, g12L9, op1, ou, lE⟩
 have hvt := hvt0.le lE
 have hva := hva0.le lE
 try simp only [g1L9, g2L9, g5L9, g11L9, g12L9]
 have rl : (List.replicate ((l.length : Int)).toNat (0 : Int)).length = l.length := by simp
 have sl : (stpF st rc T l i ++ List.replicate (l.length - i) (0 : Int)).length = l.length := by simp [stpF]; omega
 refine ob_i (vInt_lss _ _ _) ?_
 refine cnd_d (fun hg10 => ?_) (fun hg10 => ?_)
 ·skip
  have ti := hg10
  refine ob_i (op1.ldn rfl) ?_
  refine C.impl_Rule_at hvt hva (by first | omega | assumption) (by first | omega | assumption) (by first | omega | assumption) (by first | omega | assumption) (by first | omega | assumption) (by first | omega | assumption) (fun   H11    le12 => ?_)
  replace op1 := op1.le le12
  replace ou := ou.le le12
  replace hvt := hvt.le le12
  replace hva := hva.le le12
  replace lE := lE.trans le12
  refine ob_i (ou.sl.ix (by omega) (by omega)) ?_
  refine ou.st (x := tdN st rc T l (i : Int)) (by omega) (by omega) rfl rfl (fun H13 ou off14 => ?_)
  replace op1 := op1.off off14 ap1Xu
  replace hvt := hvt0.le (off14.le lE nu)
  replace hva := hva0.le (off14.le lE nu)
  replace lE := off14.le lE nu
  refine ob_i (vInt_add (by omega) (by omega)) ?_
  exact nxt (l.length - (i + 1)) (by omega) ⟨i + 1, rfl, by omega, g1L9, g2L9, g5L9, g11L9, (congrArg (Value.int .i64) (by first | omega | rfl | (simp; done))), op1, (Own.cast (stp_set (by omega)) ou), lE⟩
 ·skip
  have ti := hg10
  rw [show i = l.length by omega, Nat.sub_self, List.replicate_zero, List.append_nil] at ou
  exact hJ8 _ _ ⟨g5L9, op1, ou, lE⟩
theorem C.spec_l02Step {p vt va : Value} {st rc : Int} {T : List Int} {l : List Int}  {H : Hp} {K : Value → Hp → Prop} (hp0 : Cel H p [(.int .i64 (st)), (.int .i64 (rc)), vt]) (hvt0 : Sl eI H vt T) (hva0 : Sl eI H va l) (hr : ruleP st rc T) (h0 : 0 < l.length) (h1 : l.length ≤ 64) (he : ∀ x ∈ l, 0 ≤ x ∧ x ≤ st - 1)
    (hk : ∀ u1 H', Own eI H' u1 (stpL st rc T l) → Nw H u1 → Le H H' → K u1 H') : HT prg I.spec_l02Step [p, va].toArray H K := by
 have lE := Le.refl H
 have hp := hp0
 have hvt := hvt0
 have hva := hva0
 refine R.spec_l02Step ?_
 unfold F.spec_l02Step
 have hr1 := hr.1
 have hr2 := hr.2.1
 have hr3 := ruleP_len hr
 have hr4 := hr.2.2.2
 refine bS_nil (enc := eI) (fun u1 H2 ou1 nn3 kk4 le5 => ?_)
 have nu1 : Nw H u1 := nn3.le lE
 replace hp := hp.le le5
 replace hvt := hvt.le le5
 replace hva := hva.le le5
 replace lE := lE.trans le5
 refine jn_i (fun σ' H' => ∃ u, σ' 5 = u ∧ Own eI H' u (stpL st rc T l) ∧ Nw H u ∧ Le H H') (fun σ6 H6 hP => ?_) (fun J6 hJ6 => ?_)
 ·skip
  obtain ⟨u, g5L6, ou, nu, lE⟩ := hP
  try simp only [g5L6]
  skip
  exact hk  u _ ou nu  lE
 refine ⟨fun n' σ' H' => ∃ i : Nat, n' = l.length - i ∧ i ≤ l.length ∧ ∃ u, σ' 0 = p ∧ σ' 1 = va ∧ σ' 5 = u ∧ σ' 6 = (.int .i64 ((i : Int))) ∧ Own eI H' u (stpF st rc T l i) ∧ Nw H u ∧ Le H H',
  ⟨_, 0, rfl, by omega, u1, rfl, rfl, rfl, (congrArg (Value.int .i64) (by first | omega | rfl | (simp; done))), (Own.cast (by first | rfl | (simp; done)) ou1), nu1, lE⟩, ?_⟩
 rintro n7 σ7 H7 ⟨i, rfl, hiN, u, g0L7, g1L7, g5L7, g6L7, ou, nu, lE⟩
 have hp := hp0.le lE
 have hvt := hvt0.le lE
 have hva := hva0.le lE
 try simp only [g0L7, g1L7, g5L7, g6L7]
 have sl := stpF_len st rc T l i
 refine ob_i (hva.len) ?_
 refine ob_i (vInt_lss _ _ _) ?_
 refine cnd_d (fun hg8 => ?_) (fun hg8 => ?_)
 ·skip
  have ti := hg8
  refine C.spec_l02Told hp hvt hva (by first | omega | assumption) (by first | omega | assumption) (by first | omega | assumption) (by first | omega | assumption) (by first | omega | assumption) (by first | omega | assumption) (fun   H9    le10 => ?_)
  replace ou := ou.le le10
  replace hp := hp.le le10
  replace hvt := hvt.le le10
  replace hva := hva.le le10
  replace lE := lE.trans le10
  refine bS_i (enc := eI) (l := [tdN st rc T l (i : Int)]) (by omega) rfl (by kernel_rfl) (fun u11 H12 ou11 nn13 le15 => ?_)
  replace ou := ou.le le15
  replace hp := hp.le le15
  replace hvt := hvt.le le15
  replace hva := hva.le le15
  replace lE := lE.trans le15
  refine apd_any ou ou11.sl (fun _ => rfl) (by omega) (by first | omega | (simp only [List.length_cons, List.length_nil, List.length_append, List.length_replicate, List.length_map, List.length_range]; omega)) (fun u19 H16 ou19 off17 hb18 => ?_)
  have nu19 : Nw H u19 := Nw.ap2 nu lE hb18
  replace hp := hp0.le (off17.le lE nu)
  replace hvt := hvt0.le (off17.le lE nu)
  replace hva := hva0.le (off17.le lE nu)
  replace lE := off17.le lE nu
  refine ob_i (vInt_add (by omega) (by omega)) ?_
  exact nxt (l.length - (i + 1)) (by omega) ⟨i + 1, rfl, by omega, u19, g0L7, g1L7, rfl, (congrArg (Value.int .i64) (by first | omega | rfl | (simp; done))), (Own.cast (stpF_succ st rc T l i) ou19), nu19, lE⟩
 ·skip
  have ti := hg8
  rw [show i = l.length by omega] at ou
  exact hJ6 _ _ ⟨u, g5L7, ou, nu, lE⟩
end Go.Proofs.Ythmdmbbdjbhcoaa
/- Copies from slice to slice; slices of one thing many times. -/
namespace Go.Proofs.Ythmdmbbdjbhcoaa
open HL
set_option maxRecDepth 100000
namespace HL
end HL
end Go.Proofs.Ythmdmbbdjbhcoaa
/- Ranges over functions: a rule by an invariant; slices.Chunk. -/
namespace Go.Proofs.Ythmdmbbdjbhcoaa
open HL
set_option maxRecDepth 100000
namespace HL
end HL
end Go.Proofs.Ythmdmbbdjbhcoaa
/- Ranges over slices.Backward. -/
namespace Go.Proofs.Ythmdmbbdjbhcoaa
open HL
set_option maxRecDepth 100000
end Go.Proofs.Ythmdmbbdjbhcoaa
/- Cycles of a list of steps, by plain law: how long each is, how far it is to one. -/
namespace Go.Proofs.Ythmdmbbdjbhcoaa
open HL
/-- Steps again and again. -/
def itF (F : Nat → Nat) : Nat → Nat → Nat
  | 0, x => x
  | k + 1, x => F (itF F k x)
/-- The first number, from one on, that has something. -/
def fstB (p : Nat → Bool) : Nat → Nat → Nat
  | a, 0 => a
  | a, f + 1 => if p a = true then a else fstB p (a + 1) f
theorem fstB_at {p : Nat → Bool} : ∀ {f a m : Nat}, (∀ j, a ≤ j → j < m → p j = false) → p m = true → a ≤ m → m ≤ a + f → fstB p a f = m
  | 0, a, m, _, _, h1, h2 => by unfold fstB; omega
  | f + 1, a, m, h, hp, h1, h2 => by
    unfold fstB
    by_cases e : a = m
    · subst e; rw [if_pos hp]
    · rw [if_neg (by rw [h a (by omega) (by omega)]; simp)]
      exact fstB_at (fun j hj hm => h j (by omega) hm) hp (by omega) (by omega)
theorem fstB_no {p : Nat → Bool} : ∀ {f a : Nat}, (∀ j, a ≤ j → j < a + f → p j = false) → fstB p a f = a + f
  | 0, a, _ => rfl
  | f + 1, a, h => by
    unfold fstB
    rw [if_neg (by rw [h a (by omega) (by omega)]; simp), fstB_no (fun j h1 h2 => h j (by omega) (by omega))]
    omega
theorem fstB_spec {p : Nat → Bool} : ∀ {f a : Nat}, fstB p a f < a + f → p (fstB p a f) = true ∧ a ≤ fstB p a f ∧ ∀ j, a ≤ j → j < fstB p a f → p j = false
  | 0, a, h => by unfold fstB at h; omega
  | f + 1, a, h => by
    by_cases hp : p a = true
    · have e : fstB p a (f + 1) = a := by unfold fstB; rw [if_pos hp]
      rw [e]; exact ⟨hp, Nat.le_refl _, fun j h1 h2 => by omega⟩
    · have e : fstB p a (f + 1) = fstB p (a + 1) f := by rw [fstB, if_neg hp]
      rw [e] at h ⊢
      obtain ⟨h1, h2, h3⟩ := fstB_spec (p := p) (f := f) (a := a + 1) (by omega)
      refine ⟨h1, by omega, fun j g1 g2 => ?_⟩
      by_cases ej : j = a
      · subst ej; simpa using hp
      · exact h3 j (by omega) g2
/-- Fewer places than things: two lie in one. -/
theorem pig : ∀ (N : Nat) {n : Nat} {f : Nat → Nat}, (∀ i, i < n → f i < N) → (∀ i j, i < j → j < n → f i ≠ f j) → n ≤ N
  | 0, n, f, h, _ => by
    by_cases e : n = 0
    · omega
    · exact absurd (h 0 (by omega)) (by omega)
  | N + 1, n, f, h, hd => by
    by_cases hx : ∃ i, i < n ∧ f i = N
    · obtain ⟨i0, hi0, e0⟩ := hx
      have := pig N (n := n - 1) (f := fun i => if i = i0 then f (n - 1) else f i) (fun i hi => by
        have hne : ∀ j, j < n → j ≠ i0 → f j < N := fun j hj hj0 => by
          have h1 := h j hj
          have : f j ≠ N := fun e => by
            rcases Nat.lt_or_gt_of_ne hj0 with g | g
            · exact hd j i0 g hi0 (by rw [e, e0])
            · exact hd i0 j g hj (by rw [e, e0])
          omega
        by_cases e : i = i0
        · simp only [if_pos e]; exact hne _ (by omega) (by omega)
        · simp only [if_neg e]; exact hne _ (by omega) e)
        (fun i j hij hj => by
          by_cases e : i = i0
          · have e' : j ≠ i0 := by omega
            simp only [if_pos e, if_neg e']
            exact (hd j (n - 1) (by omega) (by omega)).symm
          · by_cases e' : j = i0
            · simp only [if_neg e, if_pos e']
              exact hd i (n - 1) (by omega) (by omega)
            · simp only [if_neg e, if_neg e']
              exact hd i j hij (by omega))
      omega
    · exact Nat.le_succ_of_le (pig N (fun i hi => by
        have h1 := h i hi
        have : f i ≠ N := fun e => hx ⟨i, hi, e⟩
        omega) hd)
section
variable {F : Nat → Nat} {N : Nat}
theorem itF_add (a b x : Nat) : itF F (a + b) x = itF F a (itF F b x) := by
  induction a with
  | zero => rw [Nat.zero_add]; rfl
  | succ a ih => rw [Nat.succ_add]; show F _ = F _; rw [ih]
theorem itF_succ' (k x : Nat) : itF F (k + 1) x = itF F k (F x) := itF_add k 1 x
theorem itF_lt (hF : ∀ x, x < N → F x < N) {x : Nat} (hx : x < N) : ∀ k, itF F k x < N
  | 0 => hx
  | k + 1 => hF _ (itF_lt hF hx k)
/-- How long a number's cycle is, 0 where it is in none. -/
def perN (F : Nat → Nat) (N x : Nat) : Nat := if fstB (fun p => decide (itF F (p + 1) x = x)) 0 N < N then fstB (fun p => decide (itF F (p + 1) x = x)) 0 N + 1 else 0
theorem perN_at {x p : Nat} (h0 : 1 ≤ p) (h1 : p ≤ N) (he : itF F p x = x) (hd : ∀ q, 0 < q → q < p → itF F q x ≠ x) : perN F N x = p := by
  have e : fstB (fun p => decide (itF F (p + 1) x = x)) 0 N = p - 1 := fstB_at (fun j _ hj => decide_eq_false (hd _ (by omega) (by omega))) (decide_eq_true (by rw [show p - 1 + 1 = p by omega]; exact he)) (by omega) (by omega)
  unfold perN
  rw [e, if_pos (by omega)]
  omega
theorem perN_no {x : Nat} (hd : ∀ q, 0 < q → q ≤ N → itF F q x ≠ x) : perN F N x = 0 := by
  have e := fstB_no (p := fun p => decide (itF F (p + 1) x = x)) (a := 0) (f := N) (fun j _ hj => decide_eq_false (hd _ (by omega) (by omega)))
  unfold perN
  rw [e, if_neg (by omega)]
theorem perN_le (x : Nat) : perN F N x ≤ N := by unfold perN; split <;> omega
/-! ### one walk, from s on -/
variable {s n p : Nat}
/-- Where a walk comes upon itself. -/
theorem walk_back (hd : ∀ i j, i < j → j < n → itF F i s ≠ itF F j s) (hp : p < n) (he : itF F n s = itF F p s) {j : Nat} : ∀ q, p ≤ j → j < n → (∃ i, p ≤ i ∧ i < n ∧ itF F (j + q) s = itF F i s ∧ ((j + q - i) % (n - p) = 0 ∧ i ≤ j + q))
  | 0, h1, h2 => ⟨j, h1, h2, rfl, by simp⟩
  | q + 1, h1, h2 => by
    obtain ⟨i, g1, g2, g3, g4, g5⟩ := walk_back hd hp he q h1 h2
    by_cases e : i + 1 = n
    · refine ⟨p, Nat.le_refl _, hp, ?_, ?_, by omega⟩
      · rw [show j + (q + 1) = (j + q) + 1 by omega]
        show F _ = _
        rw [g3, ← he, ← e]; rfl
      · rw [show j + (q + 1) - p = (j + q - i) + (n - p) by omega, Nat.add_mod_right]; exact g4
    · refine ⟨i + 1, by omega, by omega, ?_, ?_, by omega⟩
      · rw [show j + (q + 1) = (j + q) + 1 by omega]
        show F _ = F _
        rw [g3]
      · rw [show j + (q + 1) - (i + 1) = j + q - i by omega]; exact g4
theorem walk_lt (hF : ∀ x, x < N → F x < N) (hs : s < N) (hd : ∀ i j, i < j → j < n → itF F i s ≠ itF F j s) : n ≤ N := pig N (f := fun i => itF F i s) (fun i _ => itF_lt hF hs i) hd
theorem walk_per (hd : ∀ i j, i < j → j < n → itF F i s ≠ itF F j s) (hp : p < n) (he : itF F n s = itF F p s) (hN : n ≤ N) {j : Nat} (h1 : p ≤ j) (h2 : j < n) : perN F N (itF F j s) = n - p := by
  refine perN_at (by omega) (by omega) ?_ (fun q g1 g2 => ?_)
  · rw [← itF_add, show n - p + j = (j - p) + n by omega, itF_add, he, ← itF_add, show j - p + p = j by omega]
  · rw [← itF_add, Nat.add_comm]
    obtain ⟨i, k1, k2, k3, k4, k5⟩ := walk_back hd hp he q h1 h2
    rw [k3]
    have hne : i ≠ j := fun e => by
      rw [e, show j + q - j = q by omega, Nat.mod_eq_of_lt g2] at k4; omega
    rcases Nat.lt_or_gt_of_ne hne with g | g
    · exact hd i j g h2
    · exact (hd j i g k2).symm
theorem walk_tail (hd : ∀ i j, i < j → j < n → itF F i s ≠ itF F j s) (hp : p < n) (he : itF F n s = itF F p s) {j : Nat} (h1 : j < p) : perN F N (itF F j s) = 0 := by
  refine perN_no (fun q g1 g2 => ?_)
  rw [← itF_add, Nat.add_comm]
  by_cases hq : j + q < p
  · exact (hd j (j + q) (by omega) (by omega)).symm
  · obtain ⟨i, k1, k2, k3, _⟩ := walk_back hd hp he (j := p) (j + q - p) (Nat.le_refl _) hp
    rw [show p + (j + q - p) = j + q by omega] at k3
    rw [k3]
    exact (hd j i (by omega) k2).symm
/-- A walk that comes upon what was there before. -/
theorem walk_out {V : Nat → Prop} (hV : ∀ x, x < N → V x → V (F x)) (hF : ∀ x, x < N → F x < N) (hs : s < N) (hd : ∀ i j, i < j → j < n → itF F i s ≠ itF F j s) (hn : V (itF F n s)) (hv : ∀ j, j < n → ¬ V (itF F j s)) {j : Nat} (hj : j < n) : perN F N (itF F j s) = 0 := by
  have hk : ∀ k, V (itF F (n + k) s) := fun k => by
    induction k with
    | zero => exact hn
    | succ k ih => exact hV _ (itF_lt hF hs _) ih
  refine perN_no (fun q g1 g2 => ?_)
  rw [← itF_add, Nat.add_comm]
  by_cases hq : j + q < n
  · exact (hd j (j + q) (by omega) hq).symm
  · intro e
    have := hk (j + q - n)
    rw [show n + (j + q - n) = j + q by omega, e] at this
    exact hv j hj this
/-- Each number comes to a cycle. -/
theorem comes_round (hF : ∀ x, x < N → F x < N) (hs : s < N) : ∃ t, t < N ∧ perN F N (itF F t s) ≠ 0 := by
  have hex : ∃ n, n ≤ N ∧ (∀ i j, i < j → j < n → itF F i s ≠ itF F j s) ∧ ∃ p, p < n ∧ itF F n s = itF F p s := by
    have hno : ¬ (∀ m, m ≤ N + 1 → ∀ i j, i < j → j < m → itF F i s ≠ itF F j s) := fun h => by
      have := pig N (n := N + 1) (f := fun i => itF F i s) (fun i _ => itF_lt hF hs i) (h (N + 1) (Nat.le_refl _))
      omega
    have key : ∀ m, m ≤ N + 1 → (∀ i j, i < j → j < m → itF F i s ≠ itF F j s) ∨ ∃ n, n < m ∧ (∀ i j, i < j → j < n → itF F i s ≠ itF F j s) ∧ ∃ p, p < n ∧ itF F n s = itF F p s := by
      intro m
      induction m with
      | zero => intro _; exact .inl (fun i j _ h => by omega)
      | succ m ih =>
        intro hm
        rcases ih (by omega) with h | ⟨n, h1, h2⟩
        · by_cases hp : ∃ p, p < m ∧ itF F m s = itF F p s
          · exact .inr ⟨m, by omega, h, hp⟩
          · refine .inl (fun i j h1 h2 => ?_)
            by_cases e : j = m
            · subst e; exact fun e => hp ⟨i, h1, e.symm⟩
            · exact h i j h1 (by omega)
        · exact .inr ⟨n, by omega, h2⟩
    rcases key (N + 1) (Nat.le_refl _) with h | ⟨n, h1, h2⟩
    · exact absurd (fun m hm i j g1 g2 => h i j g1 (by omega)) hno
    · exact ⟨n, by omega, h2⟩
  obtain ⟨n, h1, h2, p, h3, h4⟩ := hex
  refine ⟨p, by omega, ?_⟩
  rw [walk_per h2 h3 h4 h1 (Nat.le_refl _) h3]
  omega
/-- How many steps it takes to a cycle. -/
def dpN (F : Nat → Nat) (N x : Nat) : Nat := fstB (fun t => decide (perN F N (itF F t x) ≠ 0)) 0 N
theorem dpN_spec (hF : ∀ x, x < N → F x < N) {x : Nat} (hx : x < N) : dpN F N x < N ∧ perN F N (itF F (dpN F N x) x) ≠ 0 ∧ ∀ j, j < dpN F N x → perN F N (itF F j x) = 0 := by
  obtain ⟨t, ht, h⟩ := comes_round hF hx
  have hlt : dpN F N x < 0 + N := by
    unfold dpN
    by_cases hh : fstB (fun t => decide (perN F N (itF F t x) ≠ 0)) 0 N < 0 + N
    · exact hh
    · exfalso
      have : ∀ (f a : Nat), a ≤ t → t < a + f → fstB (fun t => decide (perN F N (itF F t x) ≠ 0)) a f ≤ t := by
        intro f
        induction f with
        | zero => intro a h1 h2; omega
        | succ f ih =>
          intro a h1 h2
          unfold fstB
          split
          · exact h1
          · rename_i hp
            have : a ≠ t := fun e => hp (by rw [e]; exact decide_eq_true h)
            exact ih (a + 1) (by omega) (by omega)
      have := this N 0 (by omega) (by omega)
      omega
  obtain ⟨h1, _, h3⟩ := fstB_spec hlt
  exact ⟨by omega, of_decide_eq_true h1, fun j hj => by
    have := of_decide_eq_false (h3 j (Nat.zero_le _) hj)
    simpa using this⟩
theorem dpN_succ (hF : ∀ x, x < N → F x < N) {x : Nat} (hx : x < N) (h : perN F N x = 0) : dpN F N x = dpN F N (F x) + 1 := by
  obtain ⟨h1, h2, h3⟩ := dpN_spec hF hx
  obtain ⟨g1, g2, g3⟩ := dpN_spec hF (hF x hx)
  have e0 : dpN F N x ≠ 0 := fun e => by rw [e] at h2; exact h2 h
  rcases Nat.lt_trichotomy (dpN F N x) (dpN F N (F x) + 1) with g | g | g
  · have := g3 (dpN F N x - 1) (by omega)
    rw [← itF_succ', show dpN F N x - 1 + 1 = dpN F N x by omega] at this
    exact absurd this h2
  · exact g
  · have := h3 (dpN F N (F x) + 1) g
    rw [itF_succ'] at this
    exact absurd this g2
theorem dpN_walk (hF : ∀ x, x < N → F x < N) {x : Nat} (hx : x < N) : ∀ {j : Nat}, (∀ i, i < j → perN F N (itF F i x) = 0) → dpN F N x = dpN F N (itF F j x) + j
  | 0, _ => rfl
  | j + 1, h => by
    rw [dpN_walk hF hx (j := j) (fun i hi => h i (by omega)), dpN_succ hF (itF_lt hF hx j) (h j (by omega))]
    show _ = dpN F N (F _) + _
    omega
end
theorem at_setI {l : List Int} {i j : Nat} {x : Int} (hi : i < l.length) : at_ 0 (l.set i x) (j : Int) = if i = j then x else at_ 0 l (j : Int) := by
  unfold at_
  rw [List.getD_eq_getElem?_getD, List.getD_eq_getElem?_getD, Int.toNat_natCast, List.getElem?_set]
  by_cases e : i = j
  · subst e; rw [if_pos rfl, if_pos hi, if_pos rfl]; rfl
  · rw [if_neg e, if_neg e]
/-- The next number, by a list. -/
def nxF (nx : List Int) (x : Nat) : Nat := (at_ 0 nx (x : Int)).toNat
def nxP (nx : List Int) : Prop := ∀ x ∈ nx, 0 ≤ x ∧ x < (nx.length : Int)
/-- How long each number's cycle is. -/
def cyL (nx : List Int) : List Int := (List.range nx.length).map fun x => ((perN (nxF nx) nx.length x : Nat) : Int)
section
variable {nx fi fi0 lo lo0 pl dp : List Int} {s n p : Nat}
theorem nxF_lt (h : nxP nx) : ∀ x, x < nx.length → nxF nx x < nx.length := fun x hx => by
  have := h _ (at_mem 0 nx (i := (x : Int)) (by omega) (by omega))
  unfold nxF
  omega
theorem nxF_at (h : nxP nx) {x : Nat} (hx : x < nx.length) : at_ 0 nx (x : Int) = ((nxF nx x : Nat) : Int) := by
  have := h _ (at_mem 0 nx (i := (x : Int)) (by omega) (by omega))
  unfold nxF
  omega
theorem nxW_at (h : nxP nx) (hs : s < nx.length) (j : Nat) : at_ 0 nx ((itF (nxF nx) j s : Nat) : Int) = ((itF (nxF nx) (j + 1) s : Nat) : Int) := nxF_at h (itF_lt (nxF_lt h) hs j)
theorem cyL_len (nx : List Int) : (cyL nx).length = nx.length := by simp [cyL]
theorem cyL_at {x : Nat} (hx : x < nx.length) : at_ 0 (cyL nx) (x : Int) = ((perN (nxF nx) nx.length x : Nat) : Int) := by
  rw [at_eq 0 _ (by rw [cyL_len]; exact hx)]; simp [cyL]
/-- What holds ahead of a walk from s on. -/
structure CyI (nx : List Int) (s : Nat) (fi lo : List Int) : Prop where
  lf : fi.length = nx.length
  ll : lo.length = nx.length
  bd : ∀ x : Nat, x < nx.length → 0 ≤ at_ 0 fi (x : Int) ∧ at_ 0 fi (x : Int) ≤ (s : Int)
  cl : ∀ x : Nat, x < nx.length → at_ 0 fi (x : Int) ≠ 0 → at_ 0 fi ((nxF nx x : Nat) : Int) ≠ 0
  cv : ∀ x : Nat, x < s → at_ 0 fi (x : Int) ≠ 0
  lv : ∀ x : Nat, x < nx.length → at_ 0 lo (x : Int) = if at_ 0 fi (x : Int) = 0 then 0 else ((perN (nxF nx) nx.length x : Nat) : Int)
/-- A walk from s on: n numbers are marked. -/
structure CyW (nx : List Int) (s n : Nat) (fi0 fi : List Int) : Prop where
  lf : fi.length = nx.length
  un : ∀ j, j < n → at_ 0 fi0 ((itF (nxF nx) j s : Nat) : Int) = 0
  mkd : ∀ j, j < n → at_ 0 fi ((itF (nxF nx) j s : Nat) : Int) = (s : Int) + 1
  kp : ∀ x : Nat, x < nx.length → (∀ j, j < n → itF (nxF nx) j s ≠ x) → at_ 0 fi (x : Int) = at_ 0 fi0 (x : Int)
  ds : ∀ i j, i < j → j < n → itF (nxF nx) i s ≠ itF (nxF nx) j s
/-- The places of a walk. -/
def plP (nx : List Int) (s n : Nat) (pl : List Int) : Prop := pl.length = nx.length ∧ ∀ j, j < n → at_ 0 pl ((itF (nxF nx) j s : Nat) : Int) = (j : Int)
theorem at_repl (m : Nat) (x : Nat) : at_ 0 (List.replicate m (0 : Int)) (x : Int) = 0 := by
  unfold at_
  rw [List.getD_eq_getElem?_getD, Int.toNat_natCast]
  by_cases h : x < m
  · rw [List.getElem?_eq_getElem (by simpa using h)]; simp
  · rw [List.getElem?_eq_none (by simp; omega)]; rfl
theorem CyI.start (nx : List Int) {m : Nat} (hm : m = nx.length) : CyI nx 0 (List.replicate m 0) (List.replicate m 0) := by
  subst hm
  exact ⟨by simp, by simp, fun x _ => by rw [at_repl]; omega, fun x _ h => absurd (at_repl _ _) h, fun x hx => by omega, fun x _ => by rw [at_repl, if_pos rfl]⟩
theorem CyW.start (h : fi.length = nx.length) : CyW nx s 0 fi fi := ⟨h, fun j hj => by omega, fun j hj => by omega, fun _ _ _ => rfl, fun i j _ hj => by omega⟩
theorem plP.start (h : pl.length = nx.length) : plP nx s 0 pl := ⟨h, fun j hj => by omega⟩
theorem CyW.fresh (hw : CyW nx s n fi0 fi) (hz : at_ 0 fi ((itF (nxF nx) n s : Nat) : Int) = 0) : ∀ j, j < n → itF (nxF nx) j s ≠ itF (nxF nx) n s := fun j hj e => by
  have := hw.mkd j hj
  rw [e, hz] at this
  omega
theorem CyW.next (hx : nxP nx) (hs : s < nx.length) (hw : CyW nx s n fi0 fi) (hz : at_ 0 fi ((itF (nxF nx) n s : Nat) : Int) = 0) {i : Nat} (hi : i = itF (nxF nx) n s) : CyW nx s (n + 1) fi0 (fi.set i ((s : Int) + 1)) := by
  subst hi
  have hlt := itF_lt (nxF_lt hx) hs n
  have hlt' : itF (nxF nx) n s < fi.length := by rw [hw.lf]; exact hlt
  have hf := hw.fresh hz
  refine ⟨by rw [List.length_set, hw.lf], fun j hj => ?_, fun j hj => ?_, fun x hx' hn => ?_, fun i j hij hj => ?_⟩
  · by_cases e : j = n
    · subst e; rw [← hw.kp _ hlt hf]; exact hz
    · exact hw.un j (by omega)
  · rw [at_setI hlt']
    by_cases e : j = n
    · subst e; rw [if_pos rfl]
    · rw [if_neg (hf j (by omega)).symm]; exact hw.mkd j (by omega)
  · rw [at_setI hlt', if_neg (hn n (by omega))]
    exact hw.kp x hx' (fun j hj => hn j (by omega))
  · by_cases e : j = n
    · subst e; exact hf i hij
    · exact hw.ds i j hij (by omega)
theorem plP.next (hx : nxP nx) (hs : s < nx.length) (hw : CyW nx s n fi0 fi) (hz : at_ 0 fi ((itF (nxF nx) n s : Nat) : Int) = 0) (hp : plP nx s n pl) {i : Nat} (hi : i = itF (nxF nx) n s) : plP nx s (n + 1) (pl.set i (n : Int)) := by
  subst hi
  have hlt := itF_lt (nxF_lt hx) hs n
  refine ⟨by rw [List.length_set, hp.1], fun j hj => ?_⟩
  rw [at_setI (by rw [hp.1]; exact hlt)]
  by_cases e : j = n
  · subst e; rw [if_pos rfl]
  · rw [if_neg (hw.fresh hz j (by omega)).symm]; exact hp.2 j (by omega)
theorem CyW.lt (hx : nxP nx) (hs : s < nx.length) (hw : CyW nx s n fi0 fi) : n ≤ nx.length := walk_lt (nxF_lt hx) hs hw.ds
theorem CyW.lt' (hx : nxP nx) (hs : s < nx.length) (hw : CyW nx s n fi0 fi) (hz : at_ 0 fi ((itF (nxF nx) n s : Nat) : Int) = 0) : n + 1 ≤ nx.length := (hw.next hx hs hz rfl).lt hx hs
theorem CyW.dec (hw : CyW nx s n fi0 fi) (x : Nat) : (∃ j, j < n ∧ itF (nxF nx) j s = x) ∨ ∀ j, j < n → itF (nxF nx) j s ≠ x := by
  by_cases h : ∃ j, j < n ∧ itF (nxF nx) j s = x
  · exact .inl h
  · exact .inr (fun j hj e => h ⟨j, hj, e⟩)
/-- All that is marked, closed under steps: what holds of marks behind a walk. -/
theorem CyW.marks (hx : nxP nx) (hs : s < nx.length) (hi : CyI nx s fi0 lo) (hw : CyW nx s n fi0 fi) (hz : at_ 0 fi ((itF (nxF nx) n s : Nat) : Int) ≠ 0) :
    (∀ x : Nat, x < nx.length → 0 ≤ at_ 0 fi (x : Int) ∧ at_ 0 fi (x : Int) ≤ ((s + 1 : Nat) : Int)) ∧ (∀ x : Nat, x < nx.length → at_ 0 fi (x : Int) ≠ 0 → at_ 0 fi ((nxF nx x : Nat) : Int) ≠ 0) ∧ ∀ x : Nat, x < s + 1 → at_ 0 fi (x : Int) ≠ 0 := by
  have keep : ∀ x : Nat, x < nx.length → at_ 0 fi0 (x : Int) ≠ 0 → at_ 0 fi (x : Int) ≠ 0 := fun x hx' h => by
    rcases hw.dec x with ⟨j, hj, rfl⟩ | hn
    · rw [hw.mkd j hj]; omega
    · rw [hw.kp x hx' hn]; exact h
  refine ⟨fun x hx' => ?_, fun x hx' h => ?_, fun x hx' => ?_⟩
  · rcases hw.dec x with ⟨j, hj, rfl⟩ | hn
    · rw [hw.mkd j hj]; omega
    · rw [hw.kp x hx' hn]; have := hi.bd x hx'; omega
  · rcases hw.dec x with ⟨j, hj, rfl⟩ | hn
    · show at_ 0 fi ((itF (nxF nx) (j + 1) s : Nat) : Int) ≠ 0
      by_cases e : j + 1 = n
      · rw [e]; exact hz
      · rw [hw.mkd (j + 1) (by omega)]; omega
    · rw [hw.kp x hx' hn] at h
      exact keep _ (nxF_lt hx x hx') (hi.cl x hx' h)
  · by_cases e : x = s
    · subst e
      by_cases e0 : n = 0
      · subst e0; exact hz
      · have := hw.mkd 0 (by omega)
        show at_ 0 fi ((itF (nxF nx) 0 x : Nat) : Int) ≠ 0
        rw [this]; omega
    · exact keep x (by omega) (hi.cv x (by omega))
/-- A walk that came upon an earlier one. -/
theorem CyI.skip (hx : nxP nx) (hs : s < nx.length) (hi : CyI nx s fi0 lo) (hw : CyW nx s n fi0 fi) (hz : at_ 0 fi ((itF (nxF nx) n s : Nat) : Int) ≠ 0) (hne : at_ 0 fi ((itF (nxF nx) n s : Nat) : Int) ≠ (s : Int) + 1) : CyI nx (s + 1) fi lo := by
  obtain ⟨m1, m2, m3⟩ := hw.marks hx hs hi hz
  refine ⟨hw.lf, hi.ll, m1, m2, m3, fun x hx' => ?_⟩
  rw [hi.lv x hx']
  rcases hw.dec x with ⟨j, hj, rfl⟩ | hn
  · rw [if_pos (hw.un j hj), if_neg (by rw [hw.mkd j hj]; omega)]
    have hnV : at_ 0 fi0 ((itF (nxF nx) n s : Nat) : Int) ≠ 0 := by
      rw [← hw.kp _ (itF_lt (nxF_lt hx) hs n) (fun j hj e => hne (by rw [← e]; exact hw.mkd j hj))]; exact hz
    rw [walk_out (V := fun x => at_ 0 fi0 (x : Int) ≠ 0) (fun x h1 h2 => hi.cl x h1 h2) (nxF_lt hx) hs hw.ds hnV (fun j hj h => h (hw.un j hj)) hj]
    rfl
  · rw [hw.kp x hx' hn]
/-- A walk that came upon itself. -/
theorem CyW.back (hx : nxP nx) (hs : s < nx.length) (hi : CyI nx s fi0 lo) (hw : CyW nx s n fi0 fi) (he : at_ 0 fi ((itF (nxF nx) n s : Nat) : Int) = (s : Int) + 1) : ∃ p, p < n ∧ itF (nxF nx) n s = itF (nxF nx) p s := by
  rcases hw.dec (itF (nxF nx) n s) with ⟨j, hj, e⟩ | hn
  · exact ⟨j, hj, e.symm⟩
  · have hlt := itF_lt (nxF_lt hx) hs n
    rw [hw.kp _ hlt hn] at he
    have := hi.bd _ hlt
    omega
/-- A cycle's lengths, told one after the other. -/
structure CyS (nx : List Int) (s n p j : Nat) (lo0 lo : List Int) : Prop where
  ll : lo.length = nx.length
  st : ∀ i, i < j → at_ 0 lo ((itF (nxF nx) (p + i) s : Nat) : Int) = ((n - p : Nat) : Int)
  kp : ∀ x : Nat, x < nx.length → (∀ i, i < j → itF (nxF nx) (p + i) s ≠ x) → at_ 0 lo (x : Int) = at_ 0 lo0 (x : Int)
theorem CyS.start (h : lo.length = nx.length) : CyS nx s n p 0 lo lo := ⟨h, fun i hi => by omega, fun _ _ _ => rfl⟩
theorem CyS.next {j : Nat} (hx : nxP nx) (hs : s < nx.length) (hw : CyW nx s n fi0 fi) (h : CyS nx s n p j lo0 lo) (hj : p + j < n) {i : Nat} (hi : i = itF (nxF nx) (p + j) s) : CyS nx s n p (j + 1) lo0 (lo.set i ((n - p : Nat) : Int)) := by
  subst hi
  have hlt := itF_lt (nxF_lt hx) hs (p + j)
  have hlt' : itF (nxF nx) (p + j) s < lo.length := by rw [h.ll]; exact hlt
  refine ⟨by rw [List.length_set, h.ll], fun i hi => ?_, fun x hx' hn => ?_⟩
  · rw [at_setI hlt']
    by_cases e : i = j
    · subst e; rw [if_pos rfl]
    · rw [if_neg (hw.ds (p + i) (p + j) (by omega) hj).symm]; exact h.st i (by omega)
  · rw [at_setI hlt', if_neg (hn j (by omega))]
    exact h.kp x hx' (fun i hi => hn i (by omega))
theorem CyS.zero {j : Nat} (hx : nxP nx) (hs : s < nx.length) (hi : CyI nx s fi0 lo0) (hw : CyW nx s n fi0 fi) (h : CyS nx s n p j lo0 lo) (hj : p + j < n) : at_ 0 lo ((itF (nxF nx) (p + j) s : Nat) : Int) = 0 := by
  have hlt := itF_lt (nxF_lt hx) hs (p + j)
  rw [h.kp _ hlt (fun i hi' => hw.ds (p + i) (p + j) (by omega) hj), hi.lv _ hlt, if_pos (hw.un _ hj)]
theorem CyS.full {j : Nat} (he : itF (nxF nx) n s = itF (nxF nx) p s) (h : CyS nx s n p j lo0 lo) (hj : j = n - p) (hp : p < n) : at_ 0 lo ((itF (nxF nx) (p + j) s : Nat) : Int) ≠ 0 := by
  rw [show p + j = n by omega, he]
  have := h.st 0 (by omega)
  rw [Nat.add_zero] at this
  rw [this]; omega
theorem CyI.told (hx : nxP nx) (hs : s < nx.length) (hi : CyI nx s fi0 lo0) (hw : CyW nx s n fi0 fi) (hp : p < n) (he : itF (nxF nx) n s = itF (nxF nx) p s) {j : Nat} (h : CyS nx s n p j lo0 lo) (hj : j = n - p) : CyI nx (s + 1) fi lo := by
  have hz : at_ 0 fi ((itF (nxF nx) n s : Nat) : Int) ≠ 0 := by rw [he, hw.mkd p hp]; omega
  obtain ⟨m1, m2, m3⟩ := hw.marks hx hs hi hz
  refine ⟨hw.lf, h.ll, m1, m2, m3, fun x hx' => ?_⟩
  rcases hw.dec x with ⟨i, hi', rfl⟩ | hn
  · rw [if_neg (by rw [hw.mkd i hi']; omega)]
    by_cases hip : i < p
    · rw [h.kp _ hx' (fun k hk => (hw.ds i (p + k) (by omega) (by omega)).symm), hi.lv _ hx', if_pos (hw.un i hi'), walk_tail hw.ds hp he hip]; rfl
    · have := h.st (i - p) (by omega)
      rw [show p + (i - p) = i by omega] at this
      rw [this, walk_per hw.ds hp he (hw.lt hx hs) (by omega) hi']
  · rw [h.kp x hx' (fun k hk => hn (p + k) (by omega)), hi.lv x hx', hw.kp x hx' hn]
theorem CyI.done (hi : CyI nx nx.length fi lo) : lo = cyL nx := by
  apply List.ext_getElem (by rw [hi.ll, cyL_len])
  intro x h1 h2
  have hx : x < nx.length := by rw [← hi.ll]; exact h1
  rw [← at_eq 0 lo h1, ← at_eq 0 (cyL nx) h2, hi.lv x hx, if_neg (hi.cv x hx), cyL_at hx]
/-- The cycle's length, counted. -/
theorem cyc_ne (hw : CyW nx s n fi0 fi) (he : itF (nxF nx) n s = itF (nxF nx) p s) {m : Nat} (hm : m + 1 ≤ n - p) : (itF (nxF nx) (p + 1 + m) s = itF (nxF nx) p s ↔ m + 1 = n - p) := by
  constructor
  · intro e
    rcases Nat.lt_or_ge (p + 1 + m) n with g | g
    · exact absurd e.symm (hw.ds p (p + 1 + m) (by omega) g)
    · omega
  · intro e
    rw [show p + 1 + m = n by omega, he]
/-! ### depths -/
/-- How many steps it takes to a cycle, by a list. -/
def dpF (nx : List Int) (x : Nat) : Nat := dpN (nxF nx) nx.length x
/-- What is told of depths, o more each (o - 1 where nothing is told). -/
def DpI (nx : List Int) (o : Int) (dp : List Int) : Prop := dp.length = nx.length ∧ ∀ x : Nat, x < nx.length → at_ 0 dp (x : Int) = o - 1 ∨ (at_ 0 dp (x : Int) = (dpF nx x : Int) + o ∧ perN (nxF nx) nx.length x = 0)
theorem at_replX {m x : Nat} {y : Int} (h : x < m) : at_ 0 (List.replicate m y) (x : Int) = y := by rw [at_eq 0 _ (by simpa using h)]; simp
theorem DpI.start {m : Nat} {o y : Int} (hm : m = nx.length) (hy : y = o - 1) : DpI nx o (List.replicate m y) := by
  subst hm hy; exact ⟨by simp, fun x hx => .inl (at_replX hx)⟩
theorem dpF_walk (hx : nxP nx) (hs : s < nx.length) {j : Nat} (h : ∀ i, i < j → perN (nxF nx) nx.length (itF (nxF nx) i s) = 0) : dpF nx s = dpF nx (itF (nxF nx) j s) + j := dpN_walk (nxF_lt hx) hs h
theorem dpF_back (hx : nxP nx) (hs : s < nx.length) (h : ∀ i, i < n → perN (nxF nx) nx.length (itF (nxF nx) i s) = 0) {t : Nat} (ht : t < n) : dpF nx (itF (nxF nx) (n - 1 - t) s) = dpF nx (itF (nxF nx) n s) + t + 1 := by
  have h1 := dpF_walk hx hs h
  have h2 := dpF_walk hx hs (j := n - 1 - t) (fun i hi => h i (by omega))
  omega
theorem DpI.next {o : Int} (hx : nxP nx) (hs : s < nx.length) (h : ∀ i, i < n → perN (nxF nx) nx.length (itF (nxF nx) i s) = 0) {t : Nat} (ht : t < n) (hd : DpI nx o dp) {i : Nat} {y : Int} (hi : i = itF (nxF nx) (n - 1 - t) s) (hy : y = (dpF nx (itF (nxF nx) n s) : Int) + (t : Int) + 1 + o) : DpI nx o (dp.set i y) := by
  subst hi hy
  have hlt := itF_lt (nxF_lt hx) hs (n - 1 - t)
  refine ⟨by rw [List.length_set, hd.1], fun x hx' => ?_⟩
  rw [at_setI (by rw [hd.1]; exact hlt)]
  by_cases e : itF (nxF nx) (n - 1 - t) s = x
  · subst e
    rw [if_pos rfl]
    refine .inr ⟨?_, h _ (by omega)⟩
    rw [dpF_back hx hs h ht]; omega
  · rw [if_neg e]; exact hd.2 x hx'
end
end Go.Proofs.Ythmdmbbdjbhcoaa
/- Slices whose elements have some cells each: what is read, what is owned. -/
namespace Go.Proofs.Ythmdmbbdjbhcoaa.HL
theorem add_add (a : Addr) (x y : Nat) : (a.add x).add y = a.add (x + y) := by
  unfold Addr.add
  by_cases hx : x = 0
  · subst hx; simp
  · by_cases hy : y = 0
    · subst hy; simp
    · rw [if_neg hx, if_neg hy, if_neg (by omega)]; simp [Nat.add_assoc]
theorem add_block (a : Addr) (x : Nat) : (a.add x).block = a.block := by unfold Addr.add; split <;> rfl
section
variable {α : Type} {enc : α → List Value} {n : Nat} {H H' : Hp} {u v : Value} {l m : List α}
theorem flat_len (hn : ∀ x, (enc x).length = n) : ∀ l : List α, (l.flatMap enc).length = l.length * n
  | [] => by simp
  | x :: r => by rw [List.flatMap_cons, List.length_append, hn, flat_len hn r, List.length_cons, Nat.add_mul, Nat.one_mul]; omega
theorem flat_get (hn : ∀ x, (enc x).length = n) : ∀ (l : List α) (i j : Nat) (h : i < l.length), j < n → (l.flatMap enc)[i * n + j]? = (enc l[i])[j]?
  | x :: r, 0, j, h, hj => by rw [List.flatMap_cons, Nat.zero_mul, Nat.zero_add, List.getElem?_append_left (by rw [hn]; exact hj)]; rfl
  | x :: r, i + 1, j, h, hj => by
    rw [List.flatMap_cons, List.getElem?_append_right (by rw [hn, Nat.add_mul]; omega), hn, show (i + 1) * n + j - n = i * n + j by rw [Nat.add_mul]; omega, flat_get hn r i j (by simpa using h) hj]
    rfl
theorem flat_ix {i j N : Nat} (h : i < N) (hj : j < n) : i * n + j < N * n := by
  have := Nat.mul_le_mul_right n (show i + 1 ≤ N by omega)
  rw [Nat.add_mul] at this; omega
/-- A slice of elements of n cells that reads so. -/
def SlE (n : Nat) (enc : α → List Value) (H : Hp) (v : Value) (l : List α) : Prop :=
  ∃ a c, v = .slice a l.length c ∧ l.length ≤ c ∧ ∀ t (h : t < (l.flatMap enc).length), ∃ ad, a = some ad ∧ H.cell? (ad.add t) = some (l.flatMap enc)[t]
/-- One whose block is known whole, and may be written. -/
def OwnE (n : Nat) (enc : α → List Value) (H : Hp) (v : Value) (l : List α) : Prop :=
  ∃ a c, v = .slice a l.length c ∧ l.length ≤ c ∧ (0 < c → ∃ b off cs e, a = some ⟨b, off, none⟩ ∧ H b = some (.cells cs e (0, 0)) ∧ off + c * n ≤ cs.size ∧ ∀ t (h : t < (l.flatMap enc).length), cs[off + t]? = some (l.flatMap enc)[t])
/-- The pointer to an element. -/
def ptrE (n : Nat) (v : Value) (i : Int) : Value := match v with | .slice (some a) _ _ => .pointer (some (a.add (i.toNat * n))) | _ => undef
theorem SlE.le (h : SlE n enc H v l) (hl : Le H H') : SlE n enc H' v l := by
  obtain ⟨a, c, rfl, hc, hr⟩ := h
  exact ⟨a, c, rfl, hc, fun i hi => by obtain ⟨ad, e, hh⟩ := hr i hi; exact ⟨ad, e, hl.cell hh⟩⟩
theorem SlE.len (h : SlE n enc H v l) : vLenSl v = some (.int .i64 l.length) := by
  obtain ⟨a, c, rfl, hc, hr⟩ := h; rfl
theorem SlE.base (h : SlE n enc H v l) (hn : ∀ x, (enc x).length = n) (n0 : 0 < n) {i : Nat} (hi : i < l.length) : ∃ a c, v = .slice (some a) l.length c ∧ ∀ j (hj : j < n), H.cell? (a.add (i * n + j)) = (enc l[i])[j]? := by
  obtain ⟨a, c, rfl, hc, hr⟩ := h
  have hb := flat_ix (n := n) hi n0
  obtain ⟨ad, rfl, _⟩ := hr (i * n + 0) (by rw [flat_len hn]; exact hb)
  refine ⟨ad, c, rfl, fun j hj => ?_⟩
  have hk := flat_ix (n := n) hi hj
  obtain ⟨ad', e, hh⟩ := hr (i * n + j) (by rw [flat_len hn]; exact hk)
  cases e
  rw [hh, ← flat_get hn l i j hi hj, List.getElem?_eq_getElem]
theorem SlE.ix (h : SlE n enc H v l) (hn : ∀ x, (enc x).length = n) (n0 : 0 < n) {k : IntKind} {i : Int} (h0 : 0 ≤ i) (h1 : i < l.length) : vIx n v (.int k i) = some (ptrE n v i) := by
  obtain ⟨a, c, rfl, _⟩ := h.base hn n0 (i := i.toNat) (by omega)
  simp only [vIx, ptrE]
  rw [if_pos ⟨h0, by simpa using h1⟩]
theorem SlE.ldn (h : SlE n enc H v l) (hn : ∀ x, (enc x).length = n) (n0 : 0 < n) (d : α) {i : Int} (h0 : 0 ≤ i) (h1 : i < l.length) : vLoadN n (ptrE n v i) H = some (.agg (enc (at_ d l i)).toArray) := by
  have hi : i.toNat < l.length := by omega
  obtain ⟨a, c, rfl, hr⟩ := h.base hn n0 hi
  have e : at_ d l i = l[i.toNat] := by unfold at_; rw [List.getD_eq_getElem?_getD, List.getElem?_eq_getElem hi]; rfl
  simp only [vLoadN, ptrE]
  rw [rd_cells (enc := id) _ n 0 (enc l[i.toNat]) (hn _) (fun j hj => by
    rw [add_add, Nat.zero_add, hr j (by rw [hn] at hj; exact hj), List.getElem?_eq_getElem hj]; rfl), e]
  simp
theorem SlE.fa (h : SlE n enc H v l) (hn : ∀ x, (enc x).length = n) (n0 : 0 < n) {i : Int} (h0 : 0 ≤ i) (h1 : i < l.length) (k : Nat) : vFa k (ptrE n v i) = some (fp (ptrE n v i) k) := by
  obtain ⟨a, c, rfl, _⟩ := h.base hn n0 (i := i.toNat) (by omega)
  rfl
theorem SlE.nilC (h : SlE n enc H v l) (hn : ∀ x, (enc x).length = n) (n0 : 0 < n) {i : Int} (h0 : 0 ≤ i) (h1 : i < l.length) : vNilC (ptrE n v i) = some (ptrE n v i) := by
  obtain ⟨a, c, rfl, _⟩ := h.base hn n0 (i := i.toNat) (by omega)
  rfl
theorem SlE.ld (h : SlE n enc H v l) (hn : ∀ x, (enc x).length = n) (n0 : 0 < n) (d : α) {i : Int} (h0 : 0 ≤ i) (h1 : i < l.length) {k : Nat} (hk : k < n) {x : Value} (hx : (enc (at_ d l i))[k]? = some x) : vLoad (fp (ptrE n v i) k) H = some x := by
  have hi : i.toNat < l.length := by omega
  obtain ⟨a, c, rfl, hr⟩ := h.base hn n0 hi
  have e : at_ d l i = l[i.toNat] := by unfold at_; rw [List.getD_eq_getElem?_getD, List.getElem?_eq_getElem hi]; rfl
  simp only [vLoad, fp, ptrE, add_add]
  rw [hr k hk, ← e, hx]
theorem SlE.firstC (h : SlE n enc H v l) (hn : ∀ x, (enc x).length = n) : firstC H n l.length v = some (l.flatMap enc) := by
  obtain ⟨a, c, rfl, hc, hr⟩ := h
  by_cases h0 : (l.flatMap enc).length = 0
  · have e : l.flatMap enc = [] := List.length_eq_zero_iff.mp h0
    have e2 : l.length * n = 0 := by rw [← flat_len hn]; exact h0
    cases a with
    | none => rw [e]; rfl
    | some ad => simp only [HL.firstC, e2, e]; rfl
  · obtain ⟨ad, rfl, _⟩ := hr 0 (by omega)
    simp only [HL.firstC]
    have := rd_cells (H := H) (enc := id) ad (l.length * n) 0 (l.flatMap enc) (flat_len hn l) (fun i hi => by obtain ⟨ad', e, hh⟩ := hr i hi; cases e; simpa using hh)
    rw [this]; simp
theorem SlE.lenO (h : SlE n enc H v l) : lenO v = some l.length := by
  obtain ⟨a, c, rfl, hc, hr⟩ := h; rfl
theorem OwnE.len (h : OwnE n enc H v l) : vLenSl v = some (.int .i64 l.length) := by
  obtain ⟨a, c, rfl, hc, hr⟩ := h; rfl
theorem OwnE.sl (h : OwnE n enc H v l) (hn : ∀ x, (enc x).length = n) : SlE n enc H v l := by
  obtain ⟨a, c, rfl, hc, hr⟩ := h
  refine ⟨a, c, rfl, hc, fun i hi => ?_⟩
  have h1 := flat_len hn l
  have hc0 : 0 < c := by
    rcases Nat.eq_zero_or_pos c with h | h
    · have : l.length = 0 := by omega
      rw [this, Nat.zero_mul] at h1; omega
    · exact h
  obtain ⟨b, off, cs, e, rfl, hb, hs, hcs⟩ := hr hc0
  exact ⟨_, rfl, by simp only [Hp.cell?, add_none, hb, hcs i hi]; rfl⟩
theorem OwnE.off (h : OwnE n enc H u l) (ho : Off v H H') (ha : Apart u v) : OwnE n enc H' u l := by
  obtain ⟨a, c, rfl, hc, hr⟩ := h
  refine ⟨a, c, rfl, hc, fun h0 => ?_⟩
  obtain ⟨b, off, cs, e, rfl, hb, hs, hcs⟩ := hr h0
  refine ⟨b, off, cs, e, rfl, ho b _ hb (ha b ?_), hs, hcs⟩
  simp only [bk]
  rw [if_neg (by omega)]
theorem OwnE.le (h : OwnE n enc H u l) (hl : Le H H') : OwnE n enc H' u l := by
  obtain ⟨a, c, rfl, hc, hr⟩ := h
  refine ⟨a, c, rfl, hc, fun h0 => ?_⟩
  obtain ⟨b, off, cs, e, rfl, hb, hs, hcs⟩ := hr h0
  exact ⟨b, off, cs, e, rfl, hl b _ hb, hs, hcs⟩
theorem OwnE.known (h : OwnE n enc H u l) : ∀ b, bk u = some b → ∃ o, H b = some o := by
  obtain ⟨a, c, rfl, hc, hr⟩ := h
  intro b hb
  cases a with
  | none => simp [bk] at hb
  | some ad =>
    simp only [bk] at hb
    by_cases h0 : c = 0
    · rw [if_pos h0] at hb; simp at hb
    · rw [if_neg h0] at hb
      obtain ⟨b', off, cs, e, he, hbb, _⟩ := hr (by omega)
      simp only [Option.some.injEq] at hb he
      subst he
      simp only at hb
      subst hb
      exact ⟨_, hbb⟩
theorem OwnE.apart (h : OwnE n enc H u l) (hn : Nw H v) : Apart u v := Apart.of_nw h.known hn
theorem OwnE.one (h : OwnE n enc H v l) : oneCell v = true := by
  obtain ⟨a, c, rfl, _⟩ := h; rfl
theorem OwnE.cells (h : OwnE n enc H v l) : v.cells = #[v] := by
  obtain ⟨a, c, rfl, _⟩ := h; rfl
theorem OwnE.cast {l' : List α} (e : l = l') (h : OwnE n enc H v l) : OwnE n enc H v l' := e ▸ h
theorem OwnE.nil_of (a : Option Addr) : OwnE n enc H (.slice a 0 0) ([] : List α) := ⟨a, 0, rfl, by simp, fun h0 => absurd h0 (by simp)⟩
theorem SlE.nil (c : Nat) (a : Option Addr) : SlE n enc H (.slice a 0 c) ([] : List α) := ⟨a, c, rfl, by simp, fun i hi => absurd hi (by simp)⟩
theorem SlE.one (h : SlE n enc H v l) : oneCell v = true := by
  obtain ⟨a, c, rfl, _⟩ := h; rfl
theorem SlE.cells (h : SlE n enc H v l) : v.cells = #[v] := by
  obtain ⟨a, c, rfl, _⟩ := h; rfl
theorem SlE.cast {l' : List α} (e : l = l') (h : SlE n enc H v l) : SlE n enc H v l' := e ▸ h
/-- An append. -/
theorem OwnE.apd {bytes : Nat} {z : Array Value} {e : TypeId} {w : Value} {K : Value → Hp → Prop} (h : OwnE n enc H v l) (hn : ∀ x, (enc x).length = n) (hz : z.size = n) (hm : SlE n enc H w m) (ho : ∀ x ∈ m, ∀ y ∈ enc x, oneCell y = true)
    (hb : bytes ≤ 64) (hlm : l.length + m.length ≤ 68719476736)
    (hk : ∀ v' H', OwnE n enc H' v' (l ++ m) → Off v H H' → (∀ b, bk v' = some b → bk v = some b ∨ H b = none) → K v' H') : apd n bytes z e v w H K := by
  have hmf := hm.firstC hn
  have hml := hm.lenO
  have hlf := (h.sl hn).firstC hn
  have fl := flat_len hn l
  have fm := flat_len hn m
  have hap : (l ++ m).flatMap enc = l.flatMap enc ++ m.flatMap enc := List.flatMap_append
  obtain ⟨a, c, rfl, hlc, hr⟩ := h
  simp only [HL.apd, hml]
  by_cases hcap : l.length + m.length ≤ c
  · rw [if_pos hcap]
    simp only [hmf]
    by_cases hc0 : c = 0
    · have hl : l = [] := List.length_eq_zero_iff.mp (by omega)
      have hm' : m = [] := List.length_eq_zero_iff.mp (by omega)
      subst hl hm' hc0
      have : K (.slice a (([] : List α).length + ([] : List α).length) 0) H := hk _ H ⟨a, 0, rfl, by simp, fun h0 => absurd h0 (by simp)⟩ (fun b o hb _ => hb) (fun b hb => by cases a <;> simp [bk] at hb)
      cases a with
      | none => exact this
      | some ad => exact this
    · obtain ⟨b, off, cs, e', rfl, hbb, hs, hcs⟩ := hr (by omega)
      have hmul : (l.length + m.length) * n ≤ c * n := Nat.mul_le_mul_right n hcap
      rw [Nat.add_mul] at hmul
      simp only [add_none]
      refine stC_run (b := b) (e := e') (m.flatMap enc) _ 0 cs H rfl rfl hbb (by simp only [Nat.add_zero]; omega) (fun x hx => by
        obtain ⟨y, hy, hxy⟩ := List.mem_flatMap.mp hx; exact ho y hy x hxy) ?_
      intro H' cs' h1 h2 h3 h4 h5
      simp only [Nat.add_zero] at h3 h4
      refine hk _ H' ⟨some ⟨b, off, none⟩, c, by simp, by simpa using hcap, fun _ => ⟨b, off, cs', e', rfl, h1, by omega, ?_⟩⟩ ?_ ?_
      · simp only [hap]
        intro t ht
        rw [List.length_append] at ht
        by_cases htl : t < (l.flatMap enc).length
        · rw [h3 _ (by omega), hcs t htl, List.getElem_append_left htl]
        · have := h4 (t - (l.flatMap enc).length) (by omega)
          rw [show off + l.length * n + (t - (l.flatMap enc).length) = off + t by omega] at this
          rw [this, List.getElem_append_right (by omega)]
      · intro x o hx hne
        simp only [bk, if_neg hc0] at hne
        rw [h5 x (by rintro rfl; exact hne rfl)]; exact hx
      · intro x hx
        left; exact hx
  · rw [if_neg hcap]
    refine ⟨by omega, ?_, ?_⟩
    · have := nsc_le (n := l.length + m.length) (c := c) (by omega)
      exact Nat.le_trans (Nat.mul_le_mul this hb) (by omega)
    simp only [hlf, hmf]
    intro c' hc1 hc2 r hr'
    have hmul : (l.length + m.length) * n ≤ c' * n := Nat.mul_le_mul_right n hc1
    have hsub : (c' - (l.length + m.length)) * n = c' * n - (l.length + m.length) * n := Nat.sub_mul _ _ _
    rw [Nat.add_mul] at hmul hsub
    refine hk _ _ ⟨some ⟨r, 0, none⟩, c', by simp, by simpa using hc1, fun _ => ⟨r, 0, _, e, rfl, Hp.put_same _ _ _, ?_, ?_⟩⟩ ?_ ?_
    · have : (Builtin.zeroCells z (c' - (l.length + m.length))).size = (c' - (l.length + m.length)) * n := by simp [Builtin.zeroCells, hz]
      simp only [Nat.zero_add, Array.size_append, List.size_toArray, this, fl, fm]; omega
    · simp only [hap]
      intro t ht
      rw [Nat.zero_add, Array.getElem?_append_left (by simpa using ht)]
      rw [← Array.getElem?_toList]
      simp only [Array.toList_append]
      rw [List.getElem?_eq_getElem ht]
    · intro x o hx _
      rw [Hp.put_ne _ _ (by rintro rfl; rw [hr'] at hx; exact absurd hx (by simp))]; exact hx
    · intro x hx
      right
      simp only [bk] at hx
      split at hx
      · simp at hx
      · simp only [Option.some.injEq] at hx; subst hx; exact hr'
end
end Go.Proofs.Ythmdmbbdjbhcoaa.HL
/- Fields in slices: one of them. -/
namespace Go.Proofs.Ythmdmbbdjbhcoaa
open HL
/-- A field as it lies in cells. -/
structure Fv where
  r : Int
  c : Int
  v : Value
def encFv (x : Fv) : List Value := [.int .i64 x.r, .int .i64 x.c, x.v]
theorem encFv_n (x : Fv) : (encFv x).length = 3 := rfl
end Go.Proofs.Ythmdmbbdjbhcoaa
/- Slices of fields whose cells are owned. -/
namespace Go.Proofs.Ythmdmbbdjbhcoaa
open HL
set_option maxRecDepth 100000
namespace HL
/-- What has blocks: a slice or a pointer, or a set of blocks. -/
class Bks (α : Type) where inb : α → Nat → Prop
instance instBV : Bks Value := ⟨fun v b => bk v = some b⟩
def Rg : Type := Nat → Prop
instance instBR : Bks Rg := ⟨fun S b => S b⟩
def Apt {α β : Type} [Bks α] [Bks β] (u : α) (v : β) : Prop := ∀ b, Bks.inb u b → ¬ Bks.inb v b
def Kn {α : Type} [Bks α] (H : Hp) (u : α) : Prop := ∀ b, Bks.inb u b → ∃ o, H b = some o
def Nws (H : Hp) (S : Rg) : Prop := ∀ b, S b → H b = none
def OffS (S : Rg) (H H' : Hp) : Prop := ∀ b o, H b = some o → ¬ S b → H' b = some o
section
variable {α β : Type} [Bks α] [Bks β] {u : α} {v : β} {H H' : Hp} {S : Rg}
theorem Apt.symm (h : Apt u v) : Apt v u := fun b h1 h2 => h b h2 h1
theorem Apt.of_nws (hu : Kn H u) (hn : Nws H S) : Apt u S := fun b h1 h2 => by
  obtain ⟨o, ho⟩ := hu b h1
  rw [hn b h2] at ho; exact absurd ho (by simp)
theorem Apt.of_nw {w : Value} (hu : Kn H u) (hn : Nw H w) : Apt u w := fun b h1 h2 => by
  obtain ⟨o, ho⟩ := hu b h1
  rw [hn b h2] at ho; exact absurd ho (by simp)
theorem Nws.le (h : Nws H' S) (hl : Le H H') : Nws H S := fun b hb => by
  cases ho : H b with
  | none => rfl
  | some o => have := hl b o ho; rw [h b hb] at this; exact absurd this (by simp)
theorem OffS.le {H0 : Hp} (h : OffS S H H') (hl : Le H0 H) (hn : Nws H0 S) : Le H0 H' := fun b o hb =>
  h b o (hl b o hb) (fun e => by rw [hn b e] at hb; exact absurd hb (by simp))
theorem OffS.trans {A B C : Hp} (h : OffS S A B) (h' : OffS S B C) : OffS S A C := fun b o hb hv => h' b o (h b o hb hv) hv
/-- What has no block of a set stays. -/
theorem OffS.off {w x : Value} (h : OffS S H H') (ha : Apt w S) : ∀ b o, bk w = some b → H b = some o → H' b = some o := fun b o hb ho => h b o ho (ha b hb)
end
theorem Own.offS {α : Type} {enc : α → Value} {H H' : Hp} {u : Value} {l : List α} {S : Rg} (h : Own enc H u l) (ho : OffS S H H') (ha : Apt u S) : Own enc H' u l := by
  obtain ⟨a, c, rfl, hc, hr⟩ := h
  refine ⟨a, c, rfl, hc, fun h0 => ?_⟩
  obtain ⟨b, off, cs, e, rfl, hb, hs, hcs⟩ := hr h0
  refine ⟨b, off, cs, e, rfl, ho b _ hb (ha b ?_), hs, hcs⟩
  show bk _ = some b
  simp only [bk]
  rw [if_neg (by omega)]
theorem Cel.offS {H H' : Hp} {p : Value} {cs : List Value} {S : Rg} (h : Cel H p cs) (ho : OffS S H H') (ha : Apt p S) : Cel H' p cs := by
  obtain ⟨r, e, rfl, hr⟩ := h
  exact ⟨r, e, rfl, ho r _ hr (ha r rfl)⟩
theorem Ro.offS {α : Type} {enc : α → Value} {H H' : Hp} {u : Value} {l : List α} {S : Rg} (h : Ro enc H u l) (ho : OffS S H H') (ha : Apt u S) : Ro enc H' u l := by
  obtain ⟨⟨a, c, rfl, hc, hr⟩, hk⟩ := h
  have key : ∀ b, bk (.slice a l.length c) = some b → H' b = H b := fun b hb => by
    obtain ⟨o, hbo⟩ := hk b hb
    rw [ho b o hbo (ha b hb), hbo]
  refine ⟨⟨a, c, rfl, hc, fun i hi => ?_⟩, fun b hb => by rw [key b hb]; exact hk b hb⟩
  obtain ⟨ad, rfl, hh⟩ := hr i hi
  refine ⟨ad, rfl, ?_⟩
  have e : H' (ad.add i).block = H (ad.add i).block := by
    rw [add_block]
    exact key _ (by simp only [bk]; rw [if_neg (by omega)])
  unfold Hp.cell? at hh ⊢
  rw [e]; exact hh
/-- A field. -/
structure FdL where
  r : Int
  c : Int
  l : List Int
  deriving DecidableEq
def RelF (P : Value → List Int → Prop) : List Fv → List FdL → Prop
  | [], [] => True
  | x :: L, f :: fs => (x.r = f.r ∧ x.c = f.c ∧ P x.v f.l) ∧ RelF P L fs
  | _, _ => False
section
variable {P Q : Value → List Int → Prop}
theorem RelF.len : ∀ {L : List Fv} {fs : List FdL}, RelF P L fs → L.length = fs.length
  | [], [], _ => rfl
  | x :: L, f :: fs, h => congrArg (· + 1) (RelF.len h.2)
  | [], _ :: _, h => h.elim
  | _ :: _, [], h => h.elim
theorem RelF.imp : ∀ {L : List Fv} {fs : List FdL}, RelF P L fs → (∀ x ∈ L, ∀ l, P x.v l → Q x.v l) → RelF Q L fs
  | [], [], _, _ => trivial
  | x :: L, f :: fs, h, g => ⟨⟨h.1.1, h.1.2.1, g x (by simp) _ h.1.2.2⟩, RelF.imp h.2 (fun y hy => g y (by simp [hy]))⟩
  | [], _ :: _, h, _ => h.elim
  | _ :: _, [], h, _ => h.elim
theorem RelF.app : ∀ {L M : List Fv} {fs gs : List FdL}, RelF P L fs → RelF P M gs → RelF P (L ++ M) (fs ++ gs)
  | [], M, [], gs, _, h => h
  | x :: L, M, f :: fs, gs, h1, h2 => ⟨h1.1, RelF.app h1.2 h2⟩
  | [], _, _ :: _, _, h, _ => h.elim
  | _ :: _, _, [], _, h, _ => h.elim
end
/-- A slice of fields, whose blocks and those of its fields are owned. -/
def Fam (H : Hp) (v : Value) (S : Rg) (fs : List FdL) : Prop :=
  ∃ L, OwnE 3 encFv H v L ∧ RelF (Own eI H) L fs ∧ (∀ x ∈ L, Apart v x.v) ∧ L.Pairwise (fun x y => Apart x.v y.v) ∧ ∀ b, S b ↔ (bk v = some b ∨ ∃ x ∈ L, bk x.v = some b)
theorem RelF.mem {P : Value → List Int → Prop} : ∀ {L : List Fv} {fs : List FdL}, RelF P L fs → ∀ x ∈ L, ∃ l, P x.v l
  | [], [], _ => by simp
  | x :: L, f :: fs, h => fun y hy => by
    rcases List.mem_cons.mp hy with rfl | hy
    · exact ⟨_, h.1.2.2⟩
    · exact RelF.mem h.2 y hy
  | [], _ :: _, h => h.elim
  | _ :: _, [], h => h.elim
section
variable {H H' : Hp} {v : Value} {S : Rg} {fs : List FdL}
theorem Fam.known (h : Fam H v S fs) : Kn H S := by
  obtain ⟨L, h1, h2, h3, h4, h5⟩ := h
  intro b hb
  rcases (h5 b).mp hb with e | ⟨x, hx, e⟩
  · exact h1.known b e
  · obtain ⟨l, hl⟩ := h2.mem x hx
    exact hl.known b e
theorem Fam.le (h : Fam H v S fs) (hl : Le H H') : Fam H' v S fs := by
  obtain ⟨L, h1, h2, h3, h4, h5⟩ := h
  exact ⟨L, h1.le hl, h2.imp (fun _ _ _ h => h.le hl), h3, h4, h5⟩
theorem Fam.off {w : Value} (h : Fam H v S fs) (ho : Off w H H') (ha : Apt S w) : Fam H' v S fs := by
  obtain ⟨L, h1, h2, h3, h4, h5⟩ := h
  exact ⟨L, h1.off ho (fun b hb => ha b ((h5 b).mpr (.inl hb))), h2.imp (fun x hx _ h => h.off ho (fun b hb => ha b ((h5 b).mpr (.inr ⟨x, hx, hb⟩)))), h3, h4, h5⟩
theorem OwnE.offS {n : Nat} {α : Type} {enc : α → List Value} {u : Value} {l : List α} (h : OwnE n enc H u l) (ho : OffS S H H') (ha : Apt u S) : OwnE n enc H' u l := by
  obtain ⟨a, c, rfl, hc, hr⟩ := h
  refine ⟨a, c, rfl, hc, fun h0 => ?_⟩
  obtain ⟨b, off, cs, e, rfl, hb, hs, hcs⟩ := hr h0
  refine ⟨b, off, cs, e, rfl, ho b _ hb (ha b ?_), hs, hcs⟩
  show bk _ = some b
  simp only [bk]
  rw [if_neg (by omega)]
theorem Fam.offS {T : Rg} (h : Fam H v S fs) (ho : OffS T H H') (ha : Apt S T) : Fam H' v S fs := by
  obtain ⟨L, h1, h2, h3, h4, h5⟩ := h
  exact ⟨L, h1.offS ho (fun b hb => ha b ((h5 b).mpr (.inl hb))), h2.imp (fun x hx _ h => h.offS ho (fun b hb => ha b ((h5 b).mpr (.inr ⟨x, hx, hb⟩)))), h3, h4, h5⟩
theorem Fam.len (h : Fam H v S fs) : vLenSl v = some (.int .i64 fs.length) := by
  obtain ⟨L, h1, h2, _⟩ := h
  rw [h1.len, h2.len]
theorem Fam.one (h : Fam H v S fs) : oneCell v = true := by obtain ⟨L, h1, _⟩ := h; exact h1.one
theorem Fam.cells (h : Fam H v S fs) : v.cells = #[v] := by obtain ⟨L, h1, _⟩ := h; exact h1.cells
theorem Fam.cast {gs : List FdL} (e : fs = gs) (h : Fam H v S fs) : Fam H v S gs := e ▸ h
theorem Fam.nil_of (a : Option Addr) : Fam H (.slice a 0 0) (fun _ => False) [] :=
  ⟨[], OwnE.nil_of a, trivial, by simp, List.Pairwise.nil, fun b => ⟨fun h => h.elim, fun h => by
    rcases h with h | ⟨x, hx, _⟩
    · cases a <;> simp [bk] at h
    · simp at hx⟩⟩
/-- One more. -/
theorem Fam.push {bytes : Nat} {z : Array Value} {e : TypeId} {w x : Value} {r c : Int} {l : List Int} {K : Value → Hp → Prop} (h : Fam H v S fs) (hz : z.size = 3) (hw : SlE 3 encFv H w [⟨r, c, x⟩]) (hx : Own eI H x l) (ax : Apt x S)
    (hb : bytes ≤ 64) (hl : fs.length < 1000000)
    (hk : ∀ v' S' H', Fam H' v' S' (fs ++ [⟨r, c, l⟩]) → OffS S H H' → (∀ b, S' b → S b ∨ bk x = some b ∨ H b = none) → (∀ b, bk x = some b → S' b) → Own eI H' x l → K v' H') : apd 3 bytes z e v w H K := by
  obtain ⟨L, h1, h2, h3, h4, h5⟩ := h
  have hlen := h2.len
  have axv : Apart x v := fun b hb hv => ax b hb ((h5 b).mpr (.inl hv))
  refine OwnE.apd h1 encFv_n hz hw (fun y hy t ht => ?_) hb (by simp; omega) (fun v' H' ov off hb' => ?_)
  · simp only [List.mem_singleton] at hy
    subst hy
    simp only [encFv, List.mem_cons, List.not_mem_nil, or_false] at ht
    rcases ht with rfl | rfl | rfl
    · rfl
    · rfl
    · exact hx.one
  have ax' : ∀ y ∈ L, Apart v' y.v := fun y hy b e1 e2 => by
    rcases hb' b e1 with e3 | e3
    · exact h3 y hy b e3 e2
    · obtain ⟨m, hm⟩ := h2.mem y hy
      obtain ⟨o, ho⟩ := hm.known b e2
      rw [e3] at ho; simp at ho
  have axx : Apart v' x := fun b e1 e2 => by
    rcases hb' b e1 with e3 | e3
    · exact axv b e2 e3
    · obtain ⟨o, ho⟩ := hx.known b e2
      rw [e3] at ho; simp at ho
  have hx' := hx.off off axv
  refine hk v' (fun b => bk v' = some b ∨ ∃ y ∈ L ++ [⟨r, c, x⟩], bk y.v = some b) H' ⟨_, ov, ?_, ?_, ?_, fun b => Iff.rfl⟩ (fun b o hbo hn => off b o hbo (fun e => hn ((h5 b).mpr (.inl e)))) ?_ (fun b hb => .inr ⟨⟨r, c, x⟩, by simp, hb⟩) hx'
  · exact (h2.imp (fun y hy m h => h.off off (h3 y hy).symm)).app ⟨⟨rfl, rfl, hx'⟩, trivial⟩
  · intro y hy
    rcases List.mem_append.mp hy with hy | hy
    · exact ax' y hy
    · simp only [List.mem_singleton] at hy; subst hy; exact axx
  · rw [List.pairwise_append]
    refine ⟨h4, List.pairwise_singleton _ _, fun y hy t ht => ?_⟩
    simp only [List.mem_singleton] at ht
    subst ht
    exact fun b e1 e2 => ax b e2 ((h5 b).mpr (.inr ⟨y, hy, e1⟩))
  · intro b hb
    rcases hb with hb | ⟨y, hy, e⟩
    · rcases hb' b hb with e3 | e3
      · exact .inl ((h5 b).mpr (.inl e3))
      · exact .inr (.inr e3)
    · rcases List.mem_append.mp hy with hy | hy
      · exact .inl ((h5 b).mpr (.inr ⟨y, hy, e⟩))
      · simp only [List.mem_singleton] at hy; subst hy; exact .inr (.inl e)
/-- Apart from what was pushed to. -/
theorem Apt.push {α : Type} [Bks α] {u : α} {S' : Rg} {x : Value} (hu : Kn H u) (hS : Apt u S) (hx : Apt u x) (hb : ∀ b, S' b → S b ∨ bk x = some b ∨ H b = none) : Apt u S' := fun b h1 h2 => by
  rcases hb b h2 with h | h | h
  · exact hS b h1 h
  · exact hx b h1 h
  · obtain ⟨o, ho⟩ := hu b h1
    rw [h] at ho; simp at ho
theorem Nws.push {H0 : Hp} {S' : Rg} {x : Value} (hl : Le H0 H) (hS : Nws H0 S) (hx : Nw H0 x) (hb : ∀ b, S' b → S b ∨ bk x = some b ∨ H b = none) : Nws H0 S' := fun b h2 => by
  rcases hb b h2 with h | h | h
  · exact hS b h
  · exact hx b h
  · cases ho : H0 b with
    | none => rfl
    | some o => rw [hl b o ho] at h; simp at h
end
end HL
end Go.Proofs.Ythmdmbbdjbhcoaa
