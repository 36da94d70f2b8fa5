/- Several texts in one. -/
import Derived.Test.YthmdmbbdjbhcoaaHI
import Derived.Test.YthmdmbbdjbhcoaaG0
/- Slices over a partial heap: what is read, what is owned, and what stays when something else is written. -/
namespace Go.Proofs.Ythmdmbbdjbhcoaa.HL
abbrev eI : Int → Value := .int .i64
abbrev eB : Bool → Value := .bool
/-- The pointer to a slice's cell, where its elements have one cell each. -/
def ptr (v : Value) (i : Int) : Value := match v with | .slice (some a) _ _ => .pointer (some (a.add (i.toNat * 1))) | _ => undef
/-- The block that a slice or a pointer may write. -/
def bk (v : Value) : Option Nat := match v with | .slice (some a) _ c => if c = 0 then none else some a.block | .pointer (some a) => some a.block | _ => none
/-- The element at an index. -/
def at_ {α : Type} (d : α) (l : List α) (i : Int) : α := l.getD i.toNat d

/-- A slice that reads so. -/
def Sl {α : Type} (enc : α → Value) (H : Hp) (v : Value) (l : List α) : Prop :=
  ∃ a c, v = .slice a l.length c ∧ l.length ≤ c ∧ ∀ i (h : i < l.length), ∃ ad, a = some ad ∧ H.cell? (ad.add i) = some (enc l[i])
/-- A slice whose block is known whole, and may be written. -/
def Own {α : Type} (enc : α → Value) (H : Hp) (v : Value) (l : List α) : Prop :=
  ∃ a c, v = .slice a l.length c ∧ l.length ≤ c ∧ (0 < c → ∃ b off cs e, a = some ⟨b, off, none⟩ ∧ H b = some (.cells cs e (0, 0)) ∧ off + c ≤ cs.size ∧ ∀ i (h : i < l.length), cs[off + i]? = some (enc l[i]))
/-- A slice whose block is not known in a heap. -/
def Nw (H : Hp) (v : Value) : Prop := ∀ b, bk v = some b → H b = none
def Apart (u v : Value) : Prop := ∀ b, bk u = some b → bk v ≠ some b
/-- All that is known stays, but for a slice's block. -/
def Off (v : Value) (H H' : Hp) : Prop := ∀ b o, H b = some o → bk v ≠ some b → H' b = some o

theorem add_none (b off i : Nat) : (⟨b, off, none⟩ : Addr).add i = ⟨b, off + i, none⟩ := by
  unfold Addr.add
  split
  · rename_i h; subst h; rfl
  · rfl
theorem Apart.symm {u v : Value} (h : Apart u v) : Apart v u := fun b hb hu => h b hu hb
theorem Nw.le {H H' : Hp} {v : Value} (h : Nw H' v) (hl : Le H H') : Nw H v := fun b hb => by
  cases ho : H b with
  | none => rfl
  | some o => have := hl b o ho; rw [h b hb] at this; exact absurd this (by simp)
theorem Off.le {H0 H H' : Hp} {v : Value} (h : Off v H H') (hl : Le H0 H) (hn : Nw H0 v) : Le H0 H' := fun b o hb =>
  h b o (hl b o hb) (fun e => by rw [hn b e] at hb; exact absurd hb (by simp))
theorem Off.of_le {H H' : Hp} {v : Value} (h : Le H H') : Off v H H' := fun b o hb _ => h b o hb
theorem Off.trans {A B C : Hp} {v : Value} (h : Off v A B) (h' : Off v B C) : Off v A C := fun b o hb hv => h' b o (h b o hb hv) hv

section
variable {α : Type} {enc : α → Value} {H H' : Hp} {u v : Value} {l : List α}
theorem Sl.le (h : Sl enc H v l) (hl : Le H H') : Sl enc H' v l := by
  obtain ⟨a, c, rfl, hc, hr⟩ := h
  exact ⟨a, c, rfl, hc, fun i hi => by obtain ⟨ad, e, hh⟩ := hr i hi; exact ⟨ad, e, hl.cell hh⟩⟩
theorem Sl.len (h : Sl enc H v l) : vLenSl v = some (.int .i64 l.length) := by
  obtain ⟨a, c, rfl, hc, hr⟩ := h; rfl
theorem Sl.ix (h : Sl enc H v l) {k : IntKind} {i : Int} (h0 : 0 ≤ i) (h1 : i < l.length) : vIx 1 v (.int k i) = some (ptr v i) := by
  obtain ⟨a, c, rfl, hc, hr⟩ := h
  obtain ⟨ad, rfl, hh⟩ := hr i.toNat (by omega)
  simp only [vIx, ptr]
  rw [if_pos ⟨h0, by simpa using h1⟩]
theorem Sl.ld (h : Sl enc H v l) (d : α) {i : Int} (h0 : 0 ≤ i) (h1 : i < l.length) : vLoad (ptr v i) H = some (enc (at_ d l i)) := by
  obtain ⟨a, c, rfl, hc, hr⟩ := h
  have hi : i.toNat < l.length := by omega
  obtain ⟨ad, rfl, hh⟩ := hr i.toNat hi
  simp only [vLoad, ptr, Nat.mul_one, hh, at_, List.getD_eq_getElem?_getD, List.getElem?_eq_getElem hi, Option.getD_some]
theorem Sl.nil (c : Nat) (a : Option Addr) : Sl enc H (.slice a 0 c) [] := ⟨a, c, rfl, by simp, fun i hi => absurd hi (by simp)⟩

theorem Own.len (h : Own enc H v l) : vLenSl v = some (.int .i64 l.length) := by
  obtain ⟨a, c, rfl, hc, hr⟩ := h; rfl
theorem Own.sl (h : Own enc H v l) : Sl enc H v l := by
  obtain ⟨a, c, rfl, hc, hr⟩ := h
  refine ⟨a, c, rfl, hc, fun i hi => ?_⟩
  obtain ⟨b, off, cs, e, rfl, hb, hs, hcs⟩ := hr (by omega)
  exact ⟨_, rfl, by simp only [Hp.cell?, add_none, hb, hcs i hi]; rfl⟩
theorem Own.off (h : Own enc H u l) (ho : Off v H H') (ha : Apart u v) : Own enc H' u l := by
  obtain ⟨a, c, rfl, hc, hr⟩ := h
  refine ⟨a, c, rfl, hc, fun h0 => ?_⟩
  obtain ⟨b, off, cs, e, rfl, hb, hs, hcs⟩ := hr h0
  refine ⟨b, off, cs, e, rfl, ho b _ hb (ha b ?_), hs, hcs⟩
  simp only [bk]
  rw [if_neg (by omega)]
theorem Own.le (h : Own enc H u l) (hl : Le H H') : Own enc H' u l := by
  obtain ⟨a, c, rfl, hc, hr⟩ := h
  refine ⟨a, c, rfl, hc, fun h0 => ?_⟩
  obtain ⟨b, off, cs, e, rfl, hb, hs, hcs⟩ := hr h0
  exact ⟨b, off, cs, e, rfl, hl b _ hb, hs, hcs⟩
theorem Own.known (h : Own enc H u l) : ∀ b, bk u = some b → ∃ o, H b = some o := by
  obtain ⟨a, c, rfl, hc, hr⟩ := h
  intro b hb
  cases a with
  | none => simp [bk] at hb
  | some ad =>
    simp only [bk] at hb
    by_cases h0 : c = 0
    · rw [if_pos h0] at hb; simp at hb
    · rw [if_neg h0] at hb
      obtain ⟨b', off, cs, e, he, hbb, _⟩ := hr (by omega)
      simp only [Option.some.injEq] at hb he
      subst he
      simp only at hb
      subst hb
      exact ⟨_, hbb⟩
theorem Own.apart (h : Own enc H u l) (hn : Nw H v) : Apart u v := fun b hb hv => by
  obtain ⟨o, ho⟩ := h.known b hb
  rw [hn b hv] at ho
  exact absurd ho (by simp)
theorem Apart.of_nw {H : Hp} {u v : Value} (hu : ∀ b, bk u = some b → ∃ o, H b = some o) (hn : Nw H v) : Apart u v := fun b hb hv => by
  obtain ⟨o, ho⟩ := hu b hb
  rw [hn b hv] at ho
  exact absurd ho (by simp)
theorem Own.nil_of (a : Option Addr) : Own enc H (.slice a 0 0) [] := ⟨a, 0, rfl, by simp, fun h0 => absurd h0 (by simp)⟩

/-- A write of one cell. -/
theorem Own.st (h : Own enc H v l) {x : α} {K : Hp → Prop} {i : Int} (h0 : 0 ≤ i) (h1 : i < l.length) (hx : oneCell (enc x) = true) (hz : (enc x).cells = #[enc x])
    (hk : ∀ H', Own enc H' v (l.set i.toNat x) → Off v H H' → K H') : st 1 (ptr v i) (enc x) H K := by
  obtain ⟨a, c, rfl, hc, hr⟩ := h
  obtain ⟨b, off, cs, e, rfl, hb, hs, hcs⟩ := hr (by omega)
  have hi : i.toNat < l.length := by omega
  simp only [HL.st, ptr, hz, List.toList_toArray, Nat.mul_one, List.size_toArray, List.length_singleton, true_and, stC]
  refine ⟨hx, ?_, ?_, ?_⟩
  · simp only [Hp.cell?, add_none, hb, hcs _ hi, Nat.add_zero]; rfl
  · simp only [Hp.frozen?, add_none, hb]; simp
  · refine hk _ ⟨_, c, by simp, by simpa using hc, fun _ => ⟨b, off, cs.setIfInBounds (off + i.toNat) (enc x), e, rfl, ?_, by simpa using hs, ?_⟩⟩ ?_
    · simp only [Hp.setCell, add_none, hb, Nat.add_zero, Hp.put_same]; rfl
    · intro j hj
      have hj' : j < l.length := by simpa using hj
      rw [Array.getElem?_setIfInBounds]
      by_cases e1 : off + i.toNat = off + j
      · have : i.toNat = j := by omega
        subst this
        rw [if_pos rfl, if_pos (by omega)]; simp
      · have : i.toNat ≠ j := by omega
        rw [if_neg e1, hcs j hj', List.getElem_set_ne this]
    · intro x' o ho hv
      simp only [bk, if_neg (by omega : ¬ c = 0)] at hv
      simp only [Hp.setCell, add_none, hb]
      rw [Hp.put_ne _ _ (by rintro rfl; exact hv rfl)]
      exact ho

theorem zrow_get (z : Value) (n i : Nat) (h : i < n) : (zrow #[z] n)[i]? = some z := by
  simp only [zrow, List.size_toArray, List.length_singleton, Nat.mod_one]
  simp [h]
theorem zrow_size (zs : Array Value) (n : Nat) : (zrow zs n).size = n := by simp [zrow]

/-- A new row. -/
theorem Own.mk_ {bytes : Nat} {z : α} {e : TypeId} {k k' : IntKind} {n c : Int} {K : Value → Hp → Prop} (h0 : 0 ≤ n) (h1 : n ≤ c) (h2 : c ≤ 281474976710656) (h3 : bytes * c ≤ 281474976710656)
    (hk : ∀ v H', Own enc H' v (List.replicate n.toNat z) → Nw H v → Le H H' → K v H') : mkS 1 bytes #[enc z] e (.int k n) (.int k' c) H K := by
  refine ⟨h0, h1, h2, h3, fun r hr => hk _ _ ⟨some ⟨r, 0, none⟩, c.toNat, by simp, by simp; omega, fun h4 => ⟨r, 0, _, e, rfl, Hp.put_same _ _ _, ?_, ?_⟩⟩ ?_ (Le.put _ hr)⟩
  · rw [Nat.mul_one, if_neg (by omega), zrow_size]; omega
  · intro i hi
    have : i < n.toNat := by simpa using hi
    rw [Nat.mul_one, if_neg (by omega), Nat.zero_add, zrow_get _ _ _ (by omega)]; simp
  · intro b hb
    simp only [bk] at hb
    split at hb
    · simp at hb
    · simp only [Option.some.injEq] at hb; subst hb; exact hr

theorem rd_cells (ad : Addr) : ∀ (n s : Nat) (l : List α), l.length = n → (∀ i (h : i < l.length), H.cell? (ad.add (s + i)) = some (enc l[i])) → rdCells H ad s n = some (l.map enc)
  | 0, s, l, hn, _ => by have : l = [] := List.length_eq_zero_iff.mp hn; subst this; rfl
  | n + 1, s, l, hn, h => by
    cases l with
    | nil => simp at hn
    | cons x r =>
      simp only [rdCells]
      have h0 := h 0 (by simp)
      simp only [Nat.add_zero, List.getElem_cons_zero] at h0
      rw [h0, rd_cells ad n (s + 1) r (by simpa using hn) (fun i hi => by
        have := h (i + 1) (by simpa using hi)
        rw [show s + 1 + i = s + (i + 1) by omega]
        simpa using this)]
      rfl
theorem Sl.firstC (h : Sl enc H v l) : firstC H 1 l.length v = some (l.map enc) := by
  obtain ⟨a, c, rfl, hc, hr⟩ := h
  cases l with
  | nil => cases a <;> rfl
  | cons x r =>
    obtain ⟨ad, rfl, _⟩ := hr 0 (by simp)
    simp only [HL.firstC, Nat.mul_one]
    exact rd_cells ad _ 0 _ rfl (fun i hi => by obtain ⟨ad', e, hh⟩ := hr i hi; cases e; simpa using hh)
theorem Sl.lenO (h : Sl enc H v l) : lenO v = some l.length := by
  obtain ⟨a, c, rfl, hc, hr⟩ := h; rfl

theorem stC_run {K : Hp → Prop} {b : Nat} {e : TypeId} : ∀ (m : List Value) (ad : Addr) (i : Nat) (cs : Array Value) (H : Hp), ad.block = b → ad.spot = none → H b = some (.cells cs e (0, 0)) → ad.off + i + m.length ≤ cs.size →
    (∀ x ∈ m, oneCell x = true) →
    (∀ H' cs', H' b = some (.cells cs' e (0, 0)) → cs'.size = cs.size → (∀ j, j < ad.off + i → cs'[j]? = cs[j]?) → (∀ j (h : j < m.length), cs'[ad.off + i + j]? = some m[j]) → (∀ x, x ≠ b → H' x = H x) → K H') → stC ad K m i H
  | [], ad, i, cs, H, hb, hsp, hH, hs, ho, hk => hk H cs hH rfl (fun _ _ => rfl) (fun j h => absurd h (by simp)) (fun _ _ => rfl)
  | x :: m, ad, i, cs, H, hb, hsp, hH, hs, ho, hk => by
    obtain ⟨abk, aoff, asp⟩ := ad
    simp only at hb hsp hs hk
    subst hb hsp
    simp only [List.length_cons] at hs
    refine ⟨ho x (by simp), ?_, ?_, ?_⟩
    · simp only [Hp.cell?, add_none, hH]
      rw [Array.getElem?_eq_getElem (by omega)]; rfl
    · simp only [Hp.frozen?, add_none, hH]; simp
    · refine stC_run (b := abk) (e := e) m _ (i + 1) (cs.setIfInBounds (aoff + i) x) _ rfl rfl ?_ (by simp; omega) (fun y hy => ho y (by simp [hy])) ?_
      · simp only [Hp.setCell, add_none, hH, Hp.put_same]; rfl
      · intro H' cs' h1 h2 h3 h4 h5
        refine hk H' cs' h1 (by simpa using h2) ?_ ?_ ?_
        · intro j hj
          rw [h3 j (by simp only; omega), Array.getElem?_setIfInBounds_ne (by omega)]
        · intro j hj
          cases j with
          | zero =>
            rw [Nat.add_zero, h3 _ (by simp only; omega), Array.getElem?_setIfInBounds_self_of_lt (by omega)]; rfl
          | succ j =>
            have := h4 j (by simpa using hj)
            simp only at this
            rw [show aoff + i + (j + 1) = aoff + (i + 1) + j by omega, this]; rfl
        · intro x' hx'
          rw [h5 x' hx']
          simp only [Hp.setCell, add_none, hH]
          rw [Hp.put_ne _ _ hx']

/-- An append. -/
theorem Own.apd {bytes : Nat} {z : Value} {e : TypeId} {w : Value} {m : List α} {K : Value → Hp → Prop} (h : Own enc H v l) (hm : Sl enc H w m) (ho : ∀ x, oneCell (enc x) = true)
    (hb : l.length + m.length < 9223372036854775808) (hc : ∀ c, l.length + m.length > c → Builtin.nextslicecap (l.length + m.length) c * bytes ≤ 281474976710656)
    (hk : ∀ v' H', Own enc H' v' (l ++ m) → Off v H H' → (∀ b, bk v' = some b → bk v = some b ∨ H b = none) → K v' H') : apd 1 bytes #[z] e v w H K := by
  have hmf := hm.firstC
  have hml := hm.lenO
  have hlf := h.sl.firstC
  obtain ⟨a, c, rfl, hlc, hr⟩ := h
  simp only [HL.apd, hml]
  by_cases hcap : l.length + m.length ≤ c
  · rw [if_pos hcap]
    simp only [hmf]
    by_cases hc0 : c = 0
    · have hl : l = [] := List.length_eq_zero_iff.mp (by omega)
      have hm' : m = [] := List.length_eq_zero_iff.mp (by omega)
      subst hl hm' hc0
      have : K (.slice a (([] : List α).length + ([] : List α).length) 0) H := hk _ H ⟨a, 0, rfl, by simp, fun h0 => absurd h0 (by simp)⟩ (fun b o hb _ => hb) (fun b hb => by cases a <;> simp [bk] at hb)
      cases a with
      | none => exact this
      | some ad => exact this
    · obtain ⟨b, off, cs, e', rfl, hbb, hs, hcs⟩ := hr (by omega)
      simp only [add_none, Nat.mul_one]
      refine stC_run (b := b) (e := e') (m.map enc) _ 0 cs H rfl rfl hbb (by simp; omega) (by simp; intro x _; exact ho x) ?_
      intro H' cs' h1 h2 h3 h4 h5
      simp only [Nat.add_zero] at h3 h4
      refine hk _ H' ⟨some ⟨b, off, none⟩, c, by simp, by simpa using hcap, fun _ => ⟨b, off, cs', e', rfl, h1, by omega, ?_⟩⟩ ?_ ?_
      · intro i hi
        by_cases hil : i < l.length
        · rw [h3 _ (by omega), hcs i hil, List.getElem_append_left hil]
        · have := h4 (i - l.length) (by simp at hi ⊢; omega)
          rw [show off + l.length + (i - l.length) = off + i by omega] at this
          rw [this, List.getElem_append_right (by omega)]; simp
      · intro x o hx hne
        simp only [bk, if_neg hc0] at hne
        rw [h5 x (by rintro rfl; exact hne rfl)]; exact hx
      · intro x hx
        left; exact hx
  · rw [if_neg hcap]
    refine ⟨hb, hc c (by omega), ?_⟩
    simp only [hlf, hmf]
    intro c' hc1 hc2 r hr'
    refine hk _ _ ⟨some ⟨r, 0, none⟩, c', by simp, by simpa using hc1, fun _ => ⟨r, 0, _, e, rfl, Hp.put_same _ _ _, ?_, ?_⟩⟩ ?_ ?_
    · have : (Builtin.zeroCells #[z] (c' - (l.length + m.length))).size = c' - (l.length + m.length) := by simp [Builtin.zeroCells]
      simp [this]; omega
    · intro i hi
      rw [Nat.zero_add, Array.getElem?_append_left (by simpa using hi)]
      rw [← Array.getElem?_toList]
      simp only [Array.toList_append, ← List.map_append, List.getElem?_map]
      rw [List.getElem?_eq_getElem hi]; rfl
    · intro x o hx _
      rw [Hp.put_ne _ _ (by rintro rfl; rw [hr'] at hx; exact absurd hx (by simp))]; exact hx
    · intro x hx
      right
      simp only [bk] at hx
      split at hx
      · simp at hx
      · simp only [Option.some.injEq] at hx; subst hx; exact hr'
end
end Go.Proofs.Ythmdmbbdjbhcoaa.HL
/- Values and loops over a partial heap: the rules that a proof of a function's text uses. -/
namespace Go.Proofs.Ythmdmbbdjbhcoaa.HL
theorem cnd_i {b : Bool} {A B : Prop} (h1 : b = true → A) (h2 : b = false → B) : cnd (.bool b) A B := by
  cases b
  · exact h2 rfl
  · exact h1 rfl
theorem cnd_d {p : Prop} [Decidable p] {A B : Prop} (h1 : p → A) (h2 : ¬ p → B) : cnd (.bool (decide p)) A B := by
  by_cases h : p
  · rw [decide_eq_true h]; exact h1 h
  · rw [decide_eq_false h]; exact h2 h
theorem gop_tt (F : (Value → Hp → Prop) → Prop) (H : Hp) (K : Value → Hp → Prop) : gop (.bool true) true F H K = F K := rfl
theorem gop_ft (F : (Value → Hp → Prop) → Prop) (H : Hp) (K : Value → Hp → Prop) : gop (.bool false) true F H K = K undef H := rfl
theorem vPick_t (a b : Value) : vPick (.bool true) a b = some a := rfl
theorem vPick_f (a b : Value) : vPick (.bool false) a b = some b := rfl
theorem vExt_20 (a b : Value) : vExt (.tuple #[a, b]) 0 = some a := rfl
theorem vExt_21 (a b : Value) : vExt (.tuple #[a, b]) 1 = some b := rfl
theorem vExt_30 (a b c : Value) : vExt (.tuple #[a, b, c]) 0 = some a := rfl
theorem vExt_31 (a b c : Value) : vExt (.tuple #[a, b, c]) 1 = some b := rfl
theorem vExt_32 (a b c : Value) : vExt (.tuple #[a, b, c]) 2 = some c := rfl
theorem vUn_not (b : Bool) : vUn .not (.bool b) = some (.bool !b) := rfl
theorem vInt_lss (k : IntKind) (a b : Int) : vInt .lss (.int k a) (.int k b) = some (.bool (decide (a < b))) := by simp [vInt]
theorem vInt_leq (k : IntKind) (a b : Int) : vInt .leq (.int k a) (.int k b) = some (.bool (decide (a ≤ b))) := by simp [vInt]
theorem vInt_gtr (k : IntKind) (a b : Int) : vInt .gtr (.int k a) (.int k b) = some (.bool (decide (b < a))) := by simp [vInt]
theorem vInt_geq (k : IntKind) (a b : Int) : vInt .geq (.int k a) (.int k b) = some (.bool (decide (b ≤ a))) := by simp [vInt]
theorem vInt_eql (k : IntKind) (a b : Int) : vInt .eql (.int k a) (.int k b) = some (.bool (decide (a = b))) := by
  simp only [vInt, if_true]; rfl
theorem vInt_neq (k : IntKind) (a b : Int) : vInt .neq (.int k a) (.int k b) = some (.bool (decide (a ≠ b))) := by
  simp only [vInt, if_true, bne, ne_eq, decide_not]; rfl
theorem wrap64 {x : Int} (h : -9223372036854775808 ≤ x) (h' : x < 9223372036854775808) : IntKind.i64.wrap x = x := by
  unfold IntKind.wrap; simp [IntKind.signed, IntKind.bits]; omega
theorem vInt_add {a b : Int} (h : -9223372036854775808 ≤ a + b) (h' : a + b < 9223372036854775808) : vInt .add (.int .i64 a) (.int .i64 b) = some (.int .i64 (a + b)) := by
  simp only [vInt, if_true, wrap64 h h']
theorem vInt_sub {a b : Int} (h : -9223372036854775808 ≤ a - b) (h' : a - b < 9223372036854775808) : vInt .sub (.int .i64 a) (.int .i64 b) = some (.int .i64 (a - b)) := by
  simp only [vInt, if_true, wrap64 h h']
theorem vInt_mul {a b : Int} (h : -9223372036854775808 ≤ a * b) (h' : a * b < 9223372036854775808) : vInt .mul (.int .i64 a) (.int .i64 b) = some (.int .i64 (a * b)) := by
  simp only [vInt, if_true, wrap64 h h']
theorem vInt_rem {a b : Int} (h : b ≠ 0) : vInt .rem (.int .i64 a) (.int .i64 b) = some (.int .i64 (a.tmod b)) := by
  simp only [vInt]; rw [if_pos ⟨trivial, h⟩]
theorem vInt_quo {a b : Int} (h : 0 < b) (h1 : -9223372036854775808 ≤ a) (h2 : a < 9223372036854775808) : vInt .quo (.int .i64 a) (.int .i64 b) = some (.int .i64 (a.tdiv b)) := by
  have e : IntKind.i64.wrap (a.tdiv b) = a.tdiv b := by
    have h3 := Int.natAbs_tdiv_le_natAbs a b
    by_cases h0 : 0 ≤ a
    · have := Int.tdiv_nonneg h0 (Int.le_of_lt h)
      exact wrap64 (by omega) (by omega)
    · have h4 := Int.tdiv_nonneg (a := -a) (by omega) (Int.le_of_lt h)
      rw [Int.neg_tdiv] at h4
      exact wrap64 (by omega) (by omega)
  simp only [vInt]; rw [if_pos ⟨trivial, by omega⟩, e]
theorem vCI_64 (k : IntKind) {a : Int} (h : -9223372036854775808 ≤ a) (h' : a < 9223372036854775808) : vCI .i64 (.int k a) = some (.int .i64 a) := by
  simp only [vCI, wrap64 h h']

theorem ob_i {α : Type} {x : Option α} {a : α} {K : α → Prop} (h : x = some a) (hk : K a) : ob x K := by rw [h]; exact hk
theorem cnd_t1 {A B : Prop} (h : A) : cnd (.bool true) A B := h
theorem cnd_f1 {A B : Prop} (h : B) : cnd (.bool false) A B := h
theorem gop_rt {F : (Value → Hp → Prop) → Prop} {H : Hp} {K : Value → Hp → Prop} (h : F K) : gop (.bool true) true F H K := h
theorem gop_rf {F : (Value → Hp → Prop) → Prop} {H : Hp} {K : Value → Hp → Prop} (h : F K) : gop (.bool false) false F H K := h
theorem gop_st {F : (Value → Hp → Prop) → Prop} {H : Hp} {K : Value → Hp → Prop} (h : K undef H) : gop (.bool true) false F H K := h
theorem gop_sf {F : (Value → Hp → Prop) → Prop} {H : Hp} {K : Value → Hp → Prop} (h : K undef H) : gop (.bool false) true F H K := h
theorem Own.one {α : Type} {enc : α → Value} {H : Hp} {v : Value} {l : List α} (h : Own enc H v l) : oneCell v = true := by
  obtain ⟨a, c, rfl, _⟩ := h; rfl
theorem Own.cells {α : Type} {enc : α → Value} {H : Hp} {v : Value} {l : List α} (h : Own enc H v l) : v.cells = #[v] := by
  obtain ⟨a, c, rfl, _⟩ := h; rfl
theorem Sl.one {α : Type} {enc : α → Value} {H : Hp} {v : Value} {l : List α} (h : Sl enc H v l) : oneCell v = true := by
  obtain ⟨a, c, rfl, _⟩ := h; rfl
theorem Sl.cells {α : Type} {enc : α → Value} {H : Hp} {v : Value} {l : List α} (h : Sl enc H v l) : v.cells = #[v] := by
  obtain ⟨a, c, rfl, _⟩ := h; rfl

/-- A loop's next round. -/
theorem nxt {I : Nat → S → Hp → Prop} {Q : Exit → S → Hp → Prop} {σ : S} {H : Hp} {n : Nat} (m : Nat) (hm : m < n) (h : I m σ H) : thenQ (fun σ' H' => ∃ m, m < n ∧ I m σ' H') Q .normal σ H := ⟨m, hm, h⟩
theorem vCI_u64 {k : IntKind} {a : Int} (h : 0 ≤ a) (h' : a < 18446744073709551616) : vCI .u64 (.int k a) = some (.int .u64 a) := by
  simp only [vCI]
  unfold IntKind.wrap
  simp [IntKind.signed, IntKind.bits]
  omega
theorem retK {K : Value → Hp → Prop} {v v' : Value} {H : Hp} (e : v = v') (h : K v' H) : K v H := e ▸ h

/-- Several ways that meet: what holds where they meet. -/
theorem jn_i {K : S → Hp → Prop} {F : (S → Hp → Prop) → Prop} (P : S → Hp → Prop) (h : ∀ σ H, P σ H → K σ H) (hf : ∀ J : S → Hp → Prop, (∀ σ H, P σ H → J σ H) → F J) : jn K F := hf K h

/-! ### copies -/
theorem growBy_le (n : Nat) : ∀ (r c : Nat), Builtin.growBy n r c ≤ max c (n + (n + 768) / 4)
  | 0, c => by simp only [Builtin.growBy]; omega
  | r + 1, c => by
    simp only [Builtin.growBy]
    split
    · omega
    · have := growBy_le n r (c + (c + 768) / 4)
      omega
theorem nsc_le {n c : Nat} (h : n > c) : Builtin.nextslicecap n c ≤ 2 * n + 1024 := by
  unfold Builtin.nextslicecap
  split
  · omega
  · split
    · omega
    · have := growBy_le n 4 c; omega
theorem bS_nil {α : Type} {enc : α → Value} {z : Value} {sz : Nat} {e : TypeId} {H : Hp} {K : Value → Hp → Prop} (hk : ∀ v H', Own enc H' v [] → Nw H v → bk v = none → Le H H' → K v H') : bS sz 0 #[z] e [] H K := by
  refine ⟨by simp, ?_⟩
  rw [if_pos (by simp)]
  show match some (#[] : Array Value) with
    | some cells => ∀ r, H r = none → K (.slice (some ⟨r, 0, none⟩) 0 0) (H.put r (.cells cells e))
    | none => False
  intro r hr
  refine hk _ _ ⟨some ⟨r, 0, none⟩, 0, rfl, by simp, fun h0 => absurd h0 (by simp)⟩ ?_ rfl (Le.put _ hr)
  intro b hb
  simp [bk] at hb
/-- An append to an empty slice of its own: a copy. -/
theorem apd_nil {α : Type} {enc : α → Value} {z : Value} {b : Nat} {e : TypeId} {a v1 : Value} {l : List α} {H : Hp} {K : Value → Hp → Prop} (o1 : Own enc H v1 []) (k1 : bk v1 = none) (ha : Sl enc H a l) (ho : ∀ x, oneCell (enc x) = true) (hb : b ≤ 64) (hl : l.length ≤ 68719476736)
    (hk : ∀ v H', Own enc H' v l → Nw H v → Le H H' → K v H') : apd 1 b #[z] e v1 a H K := by
  refine o1.apd ha ho (by simp; omega) (fun c hc => ?_) (fun v2 H2 o2 off2 hbk => ?_)
  · have := nsc_le hc
    simp only [List.length_nil, Nat.zero_add] at this ⊢
    exact Nat.le_trans (Nat.mul_le_mul this hb) (by omega)
  · rw [List.nil_append] at o2
    refine hk v2 H2 o2 (fun x hx => ?_) (fun x o hx => off2 x o hx (by rw [k1]; simp))
    rcases hbk x hx with h | h
    · rw [k1] at h; simp at h
    · exact h
theorem Own.isSl {α : Type} {enc : α → Value} {H : Hp} {v : Value} {l : List α} (h : Own enc H v l) : ∃ a n c, v = .slice a n c := by
  obtain ⟨a, c, h, _⟩ := h; exact ⟨_, _, _, h⟩
theorem Sl.isSl {α : Type} {enc : α → Value} {H : Hp} {v : Value} {l : List α} (h : Sl enc H v l) : ∃ a n c, v = .slice a n c := by
  obtain ⟨a, c, h, _⟩ := h; exact ⟨_, _, _, h⟩
/-! ### lists by index -/
theorem at_eq {α : Type} (d : α) (l : List α) {i : Nat} (h : i < l.length) : at_ d l (i : Int) = l[i] := by
  unfold at_; rw [Int.toNat_natCast, List.getD_eq_getElem?_getD, List.getElem?_eq_getElem h]; rfl
theorem take_at {α : Type} (d : α) (l : List α) {i : Nat} (h : i < l.length) : l.take (i + 1) = l.take i ++ [at_ d l (i : Int)] := by
  rw [at_eq d l h, List.take_append_getElem h]
theorem at_mem {α : Type} (d : α) (l : List α) {i : Int} (h0 : 0 ≤ i) (h : i < l.length) : at_ d l i ∈ l := by
  have hn : i.toNat < l.length := by omega
  unfold at_; rw [List.getD_eq_getElem?_getD, List.getElem?_eq_getElem hn]; exact List.getElem_mem hn
end Go.Proofs.Ythmdmbbdjbhcoaa.HL
/- Rules for contracts that are told once. -/
namespace Go.Proofs.Ythmdmbbdjbhcoaa.HL
theorem keq {K : Value → Hp → Prop} {v v' : Value} {H : Hp} (e : v = v') (h : K v' H) : K v H := e ▸ h
theorem Own.cast {α : Type} {enc : α → Value} {H : Hp} {v : Value} {l l' : List α} (e : l = l') (h : Own enc H v l) : Own enc H v l' := e ▸ h
theorem Sl.cast {α : Type} {enc : α → Value} {H : Hp} {v : Value} {l l' : List α} (e : l = l') (h : Sl enc H v l) : Sl enc H v l' := e ▸ h
/-- A slice that reads so, and whose block is known. -/
def Ro {α : Type} (enc : α → Value) (H : Hp) (v : Value) (l : List α) : Prop := Sl enc H v l ∧ ∀ b, bk v = some b → ∃ o, H b = some o
section
variable {α : Type} {enc : α → Value} {H H' : Hp} {u v : Value} {l l' : List α}
theorem Ro.sl (h : Ro enc H v l) : Sl enc H v l := h.1
theorem Ro.known (h : Ro enc H v l) : ∀ b, bk v = some b → ∃ o, H b = some o := h.2
theorem Ro.le (h : Ro enc H v l) (hl : Le H H') : Ro enc H' v l := ⟨h.1.le hl, fun b hb => by obtain ⟨o, ho⟩ := h.2 b hb; exact ⟨o, hl b o ho⟩⟩
theorem Sl.off (h : Sl enc H u l) (ho : Off v H H') (ha : Apart u v) : Sl enc H' u l := by
  obtain ⟨a, c, rfl, hc, hr⟩ := h
  refine ⟨a, c, rfl, hc, fun i hi => ?_⟩
  obtain ⟨ad, rfl, hh⟩ := hr i hi
  refine ⟨ad, rfl, ?_⟩
  have hb : (ad.add i).block = ad.block := by unfold Addr.add; split <;> rfl
  have hne : bk v ≠ some ad.block := ha ad.block (by simp only [bk]; rw [if_neg (by omega)])
  unfold Hp.cell? at hh ⊢
  rw [hb] at hh ⊢
  cases hc' : H ad.block with
  | none => simp [hc'] at hh
  | some o => rw [ho _ _ hc' hne]; rw [hc'] at hh; exact hh
theorem Ro.off (h : Ro enc H u l) (ho : Off v H H') (ha : Apart u v) : Ro enc H' u l := ⟨h.1.off ho ha, fun b hb => by obtain ⟨o, hh⟩ := h.2 b hb; exact ⟨o, ho b o hh (ha b hb)⟩⟩
theorem Ro.apart (h : Ro enc H u l) (hn : Nw H v) : Apart u v := Apart.of_nw h.2 hn
theorem Ro.cast (e : l = l') (h : Ro enc H v l) : Ro enc H v l' := e ▸ h
theorem Ro.len (h : Ro enc H v l) : vLenSl v = some (.int .i64 l.length) := h.1.len
theorem Ro.one (h : Ro enc H v l) : oneCell v = true := h.1.one
theorem Ro.cells (h : Ro enc H v l) : v.cells = #[v] := h.1.cells
theorem Ro.isSl (h : Ro enc H v l) : ∃ a n c, v = .slice a n c := h.1.isSl
theorem Own.ro (h : Own enc H v l) : Ro enc H v l := ⟨h.sl, h.known⟩
end
theorem gop_e {b c g : Bool} {F : (Value → Hp → Prop) → Prop} {H : Hp} {K : Value → Hp → Prop} (e : b = c) (h : gop (.bool c) g F H K) : gop (.bool b) g F H K := by rw [e]; exact h
theorem vPick_et {b : Bool} (e : b = true) (x y : Value) : vPick (.bool b) x y = some x := by rw [e]; rfl
theorem vPick_ef {b : Bool} (e : b = false) (x y : Value) : vPick (.bool b) x y = some y := by rw [e]; rfl
/-- A number, or 0 where something does not hold. -/
def selI (p : Prop) [Decidable p] (x : Int) : Int := if p then x else 0
/-- A list, or none where something does not hold. -/
def selL {α : Type} (p : Prop) [Decidable p] (l : List α) : List α := if p then l else []
theorem selI_t {p : Prop} [Decidable p] {x : Int} (h : p) : selI p x = x := if_pos h
theorem selI_f {p : Prop} [Decidable p] {x : Int} (h : ¬ p) : selI p x = 0 := if_neg h
theorem selL_t {α : Type} {p : Prop} [Decidable p] {l : List α} (h : p) : selL p l = l := if_pos h
theorem selL_f {α : Type} {p : Prop} [Decidable p] {l : List α} (h : ¬ p) : selL p l = [] := if_neg h
end Go.Proofs.Ythmdmbbdjbhcoaa.HL
/- Functions' texts over a partial heap. -/
namespace Go.Proofs.Ythmdmbbdjbhcoaa
open HL
set_option linter.unusedVariables false
set_option maxRecDepth 100000
set_option maxHeartbeats 4000000
/-! loop.example/g01381/spec.l00In: function 59 -/
def F.spec_l00In (a0 a1 a2 : Value) (H : Hp) (K : Value → Hp → Prop) : Prop :=
  ob (vInt .geq a0 a1) fun v9x1 =>
  gop v9x1 true (fun K2 => K2 a0 H) H fun v11x3 H4 =>
  gop v9x1 true (fun K5 => K5 a2 H4) H4 fun v12x6 H7 =>
  gop v9x1 true (fun K8 => ob (vInt .leq v11x3 v12x6) fun u => K8 u H7) H7 fun v13x9 H10 =>
  ob (vPick v9x1 v13x9 (.bool false)) fun v14x11 =>
  K v14x11 H10
def O.spec_l00In : Nat → Nat × List Nat := fun i => (0, [])
theorem R.spec_l00In {a0 a1 a2 : Value} {H : Hp} {K : Value → Hp → Prop} (h : F.spec_l00In a0 a1 a2 H K) : HT prg I.spec_l00In [a0, a1, a2].toArray H K :=
  HT_of_fev O.spec_l00In mixed Try.func59 (by kernel_rfl) (Eq.mpr (by kernel_rfl : fev prg O.spec_l00In Try.f59 [a0, a1, a2] H K = F.spec_l00In a0 a1 a2 H K) h)

/-! loop.example/g01381/spec.l02Powers: function 120 -/
def F.spec_l02Powers (a0 a1 : Value) (H : Hp) (K : Value → Hp → Prop) : Prop :=
  jn (fun σ1 H1 =>
    K (σ1 5) H1) fun J1 =>
  lpE (fun Q2 σ2 H2 =>
    ob (vInt .gtr (σ2 1) (.int .i64 0)) fun v7x3 =>
    cnd v7x3
      (ob (vInt .mul (σ2 5) (σ2 0)) fun v12x4 =>
    ob (vInt .sub (σ2 1) (.int .i64 1)) fun v9x5 =>
    Q2 .normal (up (up (up (up (up (up (up (up (up σ2 6 (σ2 1)) 7 v7x3) 10 (σ2 5)) 11 (σ2 0)) 12 v12x4) 5 v12x4) 8 (σ2 1)) 9 v9x5) 1 v9x5) H2)
      (Q2 (.exit 0) (up (up σ2 6 (σ2 1)) 7 v7x3) H2)) (blkQ 0 (thenQ J1 (retQ prg [(.tmp 4)] K))) (up (up (S0 [a0, a1]) 4 (.int .i64 0)) 5 (.int .i64 1)) H
def O.spec_l02Powers : Nat → Nat × List Nat := fun i => (0, [])
theorem R.spec_l02Powers {a0 a1 : Value} {H : Hp} {K : Value → Hp → Prop} (h : F.spec_l02Powers a0 a1 H K) : HT prg I.spec_l02Powers [a0, a1].toArray H K :=
  HT_of_fev O.spec_l02Powers mixed Try.func120 (by kernel_rfl) (Eq.mpr (by kernel_rfl : fev prg O.spec_l02Powers Try.f120 [a0, a1] H K = F.spec_l02Powers a0 a1 H K) h)

/-! loop.example/g01381/spec.l02Is: function 88 -/
def F.spec_l02Is (a0 : Value) (H : Hp) (K : Value → Hp → Prop) : Prop :=
  ob (vNilC a0) fun v5x1 =>
  ob (vFa 0 v5x1) fun v6x2 =>
  ob (vLoad v6x2 H) fun v7x3 =>
  HT prg I.spec_l00In [v7x3, (.int .i64 2), (.int .i64 3)].toArray H fun v8x4 H5 =>
  Le H H5 ∧ (ob (vUn .not v8x4) fun v9x6 =>
  gop v9x6 false (fun K7 => K7 a0 H5) H5 fun v11x8 H9 =>
  gop v9x6 false (fun K10 => ob (vNilC v11x8) fun u => K10 u H9) H9 fun v12x11 H12 =>
  gop v9x6 false (fun K13 => ob (vFa 1 v12x11) fun u => K13 u H12) H12 fun v13x14 H15 =>
  gop v9x6 false (fun K16 => ob (vLoad v13x14 H15) fun u => K16 u H15) H15 fun v14x17 H18 =>
  gop v9x6 false (fun K19 => HT prg I.spec_l00In [v14x17, (.int .i64 0), (.int .i64 2)].toArray H18 fun v15x20 H21 =>
  Le H18 H21 ∧ K19 v15x20 H21) H18 fun v15x22 H23 =>
  gop v9x6 false (fun K24 => ob (vUn .not v15x22) fun u => K24 u H23) H23 fun v16x25 H26 =>
  ob (vPick v9x6 (.bool true) v16x25) fun v17x27 =>
  gop v17x27 false (fun K28 => K28 a0 H26) H26 fun v19x29 H30 =>
  gop v17x27 false (fun K31 => ob (vNilC v19x29) fun u => K31 u H30) H30 fun v20x32 H33 =>
  gop v17x27 false (fun K34 => ob (vFa 2 v20x32) fun u => K34 u H33) H33 fun v21x35 H36 =>
  gop v17x27 false (fun K37 => ob (vLoad v21x35 H36) fun u => K37 u H36) H36 fun v22x38 H39 =>
  gop v17x27 false (fun K40 => ob (vLenSl v22x38) fun u => K40 u H39) H39 fun v23x41 H42 =>
  gop v17x27 false (fun K43 => K43 a0 H42) H42 fun v24x44 H45 =>
  gop v17x27 false (fun K46 => ob (vNilC v24x44) fun u => K46 u H45) H45 fun v25x47 H48 =>
  gop v17x27 false (fun K49 => ob (vFa 0 v25x47) fun u => K49 u H48) H48 fun v26x50 H51 =>
  gop v17x27 false (fun K52 => ob (vLoad v26x50 H51) fun u => K52 u H51) H51 fun v27x53 H54 =>
  gop v17x27 false (fun K55 => K55 a0 H54) H54 fun v28x56 H57 =>
  gop v17x27 false (fun K58 => ob (vNilC v28x56) fun u => K58 u H57) H57 fun v29x59 H60 =>
  gop v17x27 false (fun K61 => ob (vFa 1 v29x59) fun u => K61 u H60) H60 fun v30x62 H63 =>
  gop v17x27 false (fun K64 => ob (vLoad v30x62 H63) fun u => K64 u H63) H63 fun v31x65 H66 =>
  gop v17x27 false (fun K67 => ob (vInt .mul (.int .i64 2) v31x65) fun u => K67 u H66) H66 fun v32x68 H69 =>
  gop v17x27 false (fun K70 => ob (vInt .add v32x68 (.int .i64 1)) fun u => K70 u H69) H69 fun v33x71 H72 =>
  gop v17x27 false (fun K73 => HT prg I.spec_l02Powers [v27x53, v33x71].toArray H72 fun v34x74 H75 =>
  Le H72 H75 ∧ K73 v34x74 H75) H72 fun v34x76 H77 =>
  gop v17x27 false (fun K78 => ob (vInt .neq v23x41 v34x76) fun u => K78 u H77) H77 fun v35x79 H80 =>
  ob (vPick v17x27 (.bool true) v35x79) fun v36x81 =>
  cnd v36x81
    (K (.bool false) H80)
    (jn (fun σ82 H82 =>
    K (.bool true) H82) fun J82 =>
  lpE (fun Q83 σ83 H83 =>
    ob (vNilC (σ83 0)) fun v39x84 =>
    ob (vFa 2 v39x84) fun v40x85 =>
    ob (vLoad v40x85 H83) fun v41x86 =>
    ob (vLenSl v41x86) fun v42x87 =>
    ob (vInt .lss (σ83 3) v42x87) fun v43x88 =>
    cnd v43x88
      (ob (vNilC (σ83 0)) fun v47x89 =>
    ob (vFa 2 v47x89) fun v48x90 =>
    ob (vLoad v48x90 H83) fun v49x91 =>
    ob (vIx 1 v49x91 (σ83 3)) fun v51x92 =>
    ob (vLoad v51x92 H83) fun v52x93 =>
    ob (vNilC (σ83 0)) fun v54x94 =>
    ob (vFa 0 v54x94) fun v55x95 =>
    ob (vLoad v55x95 H83) fun v56x96 =>
    ob (vInt .sub v56x96 (.int .i64 1)) fun v57x97 =>
    HT prg I.spec_l00In [v52x93, (.int .i64 0), v57x97].toArray H83 fun v58x98 H99 =>
    Le H83 H99 ∧ (ob (vUn .not v58x98) fun v59x100 =>
    cnd v59x100
      (Q83 .ret (up (up (up (up (up (up (up (up (up (up (up (up (up (up (up (up (up (up (up (up (up (up σ83 37 (σ83 3)) 38 (σ83 0)) 39 v39x84) 40 v40x85) 41 v41x86) 42 v42x87) 43 v43x88) 46 (σ83 0)) 47 v47x89) 48 v48x90) 49 v49x91) 50 (σ83 3)) 51 v51x92) 52 v52x93) 53 (σ83 0)) 54 v54x94) 55 v55x95) 56 v56x96) 57 v57x97) 58 v58x98) 59 v59x100) 2 (.bool false)) H99)
      (ob (vInt .add (σ83 3) (.int .i64 1)) fun v45x101 =>
    Q83 .normal (up (up (up (up (up (up (up (up (up (up (up (up (up (up (up (up (up (up (up (up (up (up (up (up σ83 37 (σ83 3)) 38 (σ83 0)) 39 v39x84) 40 v40x85) 41 v41x86) 42 v42x87) 43 v43x88) 46 (σ83 0)) 47 v47x89) 48 v48x90) 49 v49x91) 50 (σ83 3)) 51 v51x92) 52 v52x93) 53 (σ83 0)) 54 v54x94) 55 v55x95) 56 v56x96) 57 v57x97) 58 v58x98) 59 v59x100) 44 (σ83 3)) 45 v45x101) 3 v45x101) H99)))
      (Q83 (.exit 0) (up (up (up (up (up (up (up σ83 37 (σ83 3)) 38 (σ83 0)) 39 v39x84) 40 v40x85) 41 v41x86) 42 v42x87) 43 v43x88) H83)) (blkQ 0 (thenQ J82 (retQ prg [(.tmp 2)] K))) (up (up (up (up (up (up (up (up (up (up (up (up (up (up (up (up (up (up (up (up (up (up (up (up (up (up (up (up (up (up (up (up (up (up (up (S0 [a0]) 2 (.bool false)) 4 a0) 5 v5x1) 6 v6x2) 7 v7x3) 8 v8x4) 9 v9x6) 10 v9x6) 11 v11x8) 12 v12x11) 13 v13x14) 14 v14x17) 15 v15x22) 16 v16x25) 17 v17x27) 18 v17x27) 19 v19x29) 20 v20x32) 21 v21x35) 22 v22x38) 23 v23x41) 24 v24x44) 25 v25x47) 26 v26x50) 27 v27x53) 28 v28x56) 29 v29x59) 30 v30x62) 31 v31x65) 32 v32x68) 33 v33x71) 34 v34x76) 35 v35x79) 36 v36x81) 3 (.int .i64 0)) H80))
def O.spec_l02Is : Nat → Nat × List Nat := fun i => bif Nat.beq i 1 then (0, [0, 1, 2, 3, 4, 5, 6, 7, 8, 9, 10, 11, 12, 13, 14, 15, 16, 17, 18, 19, 20, 21, 22, 23, 24, 25, 26, 27, 28, 29, 30, 31, 32]) else bif Nat.beq i 6 then (0, [0, 1, 2, 3, 4, 5, 6, 7, 8, 9, 10, 11, 12, 13]) else (0, [])
theorem R.spec_l02Is {a0 : Value} {H : Hp} {K : Value → Hp → Prop} (h : F.spec_l02Is a0 H K) : HT prg I.spec_l02Is [a0].toArray H K :=
  HT_of_fev O.spec_l02Is mixed Try.func88 (by kernel_rfl) (Eq.mpr (by kernel_rfl : fev prg O.spec_l02Is Try.f88 [a0] H K = F.spec_l02Is a0 H K) h)

/-! loop.example/g01381/spec.l03Wide: function 89 -/
def F.spec_l03Wide (a0 : Value) (H : Hp) (K : Value → Hp → Prop) : Prop :=
  ob (vNilC a0) fun v4x1 =>
  ob (vFa 1 v4x1) fun v5x2 =>
  ob (vLoad v5x2 H) fun v6x3 =>
  ob (vInt .mul (.int .i64 2) v6x3) fun v7x4 =>
  ob (vInt .add v7x4 (.int .i64 1)) fun v8x5 =>
  K v8x5 H
def O.spec_l03Wide : Nat → Nat × List Nat := fun i => (0, [])
theorem R.spec_l03Wide {a0 : Value} {H : Hp} {K : Value → Hp → Prop} (h : F.spec_l03Wide a0 H K) : HT prg I.spec_l03Wide [a0].toArray H K :=
  HT_of_fev O.spec_l03Wide mixed Try.func89 (by kernel_rfl) (Eq.mpr (by kernel_rfl : fev prg O.spec_l03Wide Try.f89 [a0] H K = F.spec_l03Wide a0 H K) h)

/-! loop.example/g01381/spec.l03Small: function 44 -/
def F.spec_l03Small (a0 a1 a2 a3 : Value) (H : Hp) (K : Value → Hp → Prop) : Prop :=
  HT prg I.spec_l02Is [a0].toArray H fun v11x1 H2 =>
  ob (vUn .not v11x1) fun v12x3 =>
  cnd v12x3
    (K (.bool false) H2)
    (ob (vNilC a0) fun v15x4 =>
  ob (vFa 0 v15x4) fun v16x5 =>
  ob (vLoad v16x5 H2) fun v17x6 =>
  ob (vInt .eql v17x6 (.int .i64 3)) fun v18x7 =>
  cnd v18x7
    (HT prg I.spec_l03Wide [a0].toArray H2 fun v22x8 H9 =>
  HT prg I.spec_l00In [a1, v22x8, a3].toArray H9 fun v24x10 H11 =>
  K v24x10 H11)
    (HT prg I.spec_l03Wide [a0].toArray H2 fun v22x12 H13 =>
  HT prg I.spec_l00In [a1, v22x12, a2].toArray H13 fun v24x14 H15 =>
  K v24x14 H15))
def O.spec_l03Small : Nat → Nat × List Nat := fun i => (0, [])
theorem R.spec_l03Small {a0 a1 a2 a3 : Value} {H : Hp} {K : Value → Hp → Prop} (h : F.spec_l03Small a0 a1 a2 a3 H K) : HT prg I.spec_l03Small [a0, a1, a2, a3].toArray H K :=
  HT_of_fev O.spec_l03Small mixed Try.func44 (by kernel_rfl) (Eq.mpr (by kernel_rfl : fev prg O.spec_l03Small Try.f44 [a0, a1, a2, a3] H K = F.spec_l03Small a0 a1 a2 a3 H K) h)

/-! loop.example/g01381/spec.l02Told: function 105 -/
def F.spec_l02Told (a0 a1 a2 : Value) (H : Hp) (K : Value → Hp → Prop) : Prop :=
  ob (vLenSl a1) fun v11x1 =>
  jn (fun σ2 H2 =>
    ob (vNilC (σ2 0)) fun v46x3 =>
    ob (vFa 2 v46x3) fun v47x4 =>
    ob (vLoad v47x4 H2) fun v48x5 =>
    ob (vIx 1 v48x5 (σ2 8)) fun v50x6 =>
    ob (vLoad v50x6 H2) fun v51x7 =>
    K v51x7 H2) fun J2 =>
  ob (vNilC a0) fun v14x8 =>
  ob (vFa 1 v14x8) fun v15x9 =>
  ob (vLoad v15x9 H) fun v16x10 =>
  ob (vInt .sub a2 v16x10) fun v17x11 =>
  lpE (fun Q12 σ12 H12 =>
    ob (vNilC (σ12 0)) fun v21x13 =>
    ob (vFa 1 v21x13) fun v22x14 =>
    ob (vLoad v22x14 H12) fun v23x15 =>
    ob (vInt .add (σ12 2) v23x15) fun v24x16 =>
    ob (vInt .leq (σ12 9) v24x16) fun v25x17 =>
    cnd v25x17
      (ob (vNilC (σ12 0)) fun v30x18 =>
    ob (vFa 0 v30x18) fun v31x19 =>
    ob (vLoad v31x19 H12) fun v32x20 =>
    ob (vInt .mul (σ12 8) v32x20) fun v33x21 =>
    ob (vInt .rem (σ12 9) (σ12 7)) fun v37x22 =>
    ob (vInt .add v37x22 (σ12 7)) fun v39x23 =>
    ob (vInt .rem v39x23 (σ12 7)) fun v41x24 =>
    ob (vIx 1 (σ12 1) v41x24) fun v42x25 =>
    ob (vLoad v42x25 H12) fun v43x26 =>
    ob (vInt .add v33x21 v43x26) fun v44x27 =>
    ob (vInt .add (σ12 9) (.int .i64 1)) fun v27x28 =>
    Q12 .normal (up (up (up (up (up (up (up (up (up (up (up (up (up (up (up (up (up (up (up (up (up (up (up (up (up (up (up (up (up σ12 18 (σ12 9)) 19 (σ12 2)) 20 (σ12 0)) 21 v21x13) 22 v22x14) 23 v23x15) 24 v24x16) 25 v25x17) 28 (σ12 8)) 29 (σ12 0)) 30 v30x18) 31 v31x19) 32 v32x20) 33 v33x21) 34 (σ12 1)) 35 (σ12 9)) 36 (σ12 7)) 37 v37x22) 38 (σ12 7)) 39 v39x23) 40 (σ12 7)) 41 v41x24) 42 v42x25) 43 v43x26) 44 v44x27) 8 v44x27) 26 (σ12 9)) 27 v27x28) 9 v27x28) H12)
      (Q12 (.exit 0) (up (up (up (up (up (up (up (up σ12 18 (σ12 9)) 19 (σ12 2)) 20 (σ12 0)) 21 v21x13) 22 v22x14) 23 v23x15) 24 v24x16) 25 v25x17) H12)) (blkQ 0 (thenQ J2 (retQ prg [(.tmp 6)] K))) (up (up (up (up (up (up (up (up (up (up (up (up (S0 [a0, a1, a2]) 6 (.int .i64 0)) 10 a1) 11 v11x1) 7 v11x1) 8 (.int .i64 0)) 12 a2) 13 a0) 14 v14x8) 15 v15x9) 16 v16x10) 17 v17x11) 9 v17x11) H
def O.spec_l02Told : Nat → Nat × List Nat := fun i => bif Nat.beq i 6 then (0, [0, 1, 2, 3, 4, 5, 6, 7, 8, 9, 10, 11, 12, 13, 14, 15, 16, 17]) else (0, [])
theorem R.spec_l02Told {a0 a1 a2 : Value} {H : Hp} {K : Value → Hp → Prop} (h : F.spec_l02Told a0 a1 a2 H K) : HT prg I.spec_l02Told [a0, a1, a2].toArray H K :=
  HT_of_fev O.spec_l02Told mixed Try.func105 (by kernel_rfl) (Eq.mpr (by kernel_rfl : fev prg O.spec_l02Told Try.f105 [a0, a1, a2] H K = F.spec_l02Told a0 a1 a2 H K) h)

/-! loop.example/g01381/spec.l02Step: function 61 -/
def F.spec_l02Step (a0 a1 : Value) (H : Hp) (K : Value → Hp → Prop) : Prop :=
  bS 1 0 #[(.int .i64 0)] 2 [] H fun v7x1 H2 =>
  jn (fun σ3 H3 =>
    K (σ3 5) H3) fun J3 =>
  lpE (fun Q4 σ4 H4 =>
    ob (vLenSl (σ4 1)) fun v10x5 =>
    ob (vInt .lss (σ4 6) v10x5) fun v11x6 =>
    cnd v11x6
      (HT prg I.spec_l02Told [(σ4 0), (σ4 1), (σ4 6)].toArray H4 fun v18x7 H8 =>
    bS 1 1 #[(.int .i64 0)] 2 [(0, v18x7)] H8 fun v19x9 H10 =>
    apd 1 8 #[(.int .i64 0)] 2 (σ4 5) v19x9 H10 fun v20x11 H12 =>
    ob (vInt .add (σ4 6) (.int .i64 1)) fun v13x13 =>
    Q4 .normal (up (up (up (up (up (up (up (up (up (up (up (up (up (up (up σ4 8 (σ4 6)) 9 (σ4 1)) 10 v10x5) 11 v11x6) 14 (σ4 5)) 15 (σ4 0)) 16 (σ4 1)) 17 (σ4 6)) 18 v18x7) 19 v19x9) 20 v20x11) 5 v20x11) 12 (σ4 6)) 13 v13x13) 6 v13x13) H12)
      (Q4 (.exit 0) (up (up (up (up σ4 8 (σ4 6)) 9 (σ4 1)) 10 v10x5) 11 v11x6) H4)) (blkQ 0 (thenQ J3 (retQ prg [(.tmp 4)] K))) (up (up (up (up (S0 [a0, a1]) 4 (.slice none 0 0)) 7 v7x1) 5 v7x1) 6 (.int .i64 0)) H2
def O.spec_l02Step : Nat → Nat × List Nat := fun i => (0, [])
theorem R.spec_l02Step {a0 a1 : Value} {H : Hp} {K : Value → Hp → Prop} (h : F.spec_l02Step a0 a1 H K) : HT prg I.spec_l02Step [a0, a1].toArray H K :=
  HT_of_fev O.spec_l02Step mixed Try.func61 (by kernel_rfl) (Eq.mpr (by kernel_rfl : fev prg O.spec_l02Step Try.f61 [a0, a1] H K = F.spec_l02Step a0 a1 H K) h)

/-! loop.example/g01381/spec.l03Power: function 90 -/
def F.spec_l03Power (a0 a1 : Value) (H : Hp) (K : Value → Hp → Prop) : Prop :=
  jn (fun σ1 H1 =>
    K (σ1 5) H1) fun J1 =>
  lpE (fun Q2 σ2 H2 =>
    ob (vInt .gtr (σ2 1) (.int .i64 0)) fun v7x3 =>
    cnd v7x3
      (ob (vInt .mul (σ2 5) (σ2 0)) fun v12x4 =>
    ob (vInt .sub (σ2 1) (.int .i64 1)) fun v9x5 =>
    Q2 .normal (up (up (up (up (up (up (up (up (up σ2 6 (σ2 1)) 7 v7x3) 10 (σ2 5)) 11 (σ2 0)) 12 v12x4) 5 v12x4) 8 (σ2 1)) 9 v9x5) 1 v9x5) H2)
      (Q2 (.exit 0) (up (up σ2 6 (σ2 1)) 7 v7x3) H2)) (blkQ 0 (thenQ J1 (retQ prg [(.tmp 4)] K))) (up (up (S0 [a0, a1]) 4 (.int .i64 0)) 5 (.int .i64 1)) H
def O.spec_l03Power : Nat → Nat × List Nat := fun i => (0, [])
theorem R.spec_l03Power {a0 a1 : Value} {H : Hp} {K : Value → Hp → Prop} (h : F.spec_l03Power a0 a1 H K) : HT prg I.spec_l03Power [a0, a1].toArray H K :=
  HT_of_fev O.spec_l03Power mixed Try.func90 (by kernel_rfl) (Eq.mpr (by kernel_rfl : fev prg O.spec_l03Power Try.f90 [a0, a1] H K = F.spec_l03Power a0 a1 H K) h)

/-! loop.example/g01381/spec.l03Number: function 91 -/
def F.spec_l03Number (a0 a1 : Value) (H : Hp) (K : Value → Hp → Prop) : Prop :=
  jn (fun σ1 H1 =>
    K (σ1 5) H1) fun J1 =>
  ob (vLenSl a0) fun v8x2 =>
  lpE (fun Q3 σ3 H3 =>
    ob (vInt .lss (σ3 9) (σ3 8)) fun v10x4 =>
    cnd v10x4
      (ob (vInt .mul (σ3 5) (σ3 1)) fun v14x5 =>
    ob (vIx 1 (σ3 0) (σ3 9)) fun v17x6 =>
    ob (vLoad v17x6 H3) fun v18x7 =>
    ob (vInt .add v14x5 v18x7) fun v19x8 =>
    ob (vInt .add (σ3 9) (.int .i64 1)) fun v20x9 =>
    Q3 .normal (up (up (up (up (up (up (up (up (up (up (up (up (up (up σ3 10 v10x4) 11 (σ3 9)) 6 (σ3 9)) 12 (σ3 5)) 13 (σ3 1)) 14 v14x5) 15 (σ3 0)) 16 (σ3 9)) 17 v17x6) 18 v18x7) 19 v19x8) 5 v19x8) 20 v20x9) 9 v20x9) H3)
      (Q3 (.exit 0) (up σ3 10 v10x4) H3)) (blkQ 0 (thenQ J1 (retQ prg [(.tmp 4)] K))) (up (up (up (up (up (S0 [a0, a1]) 4 (.int .i64 0)) 5 (.int .i64 0)) 7 a0) 8 v8x2) 9 (.int .i64 0)) H
def O.spec_l03Number : Nat → Nat × List Nat := fun i => (0, [])
theorem R.spec_l03Number {a0 a1 : Value} {H : Hp} {K : Value → Hp → Prop} (h : F.spec_l03Number a0 a1 H K) : HT prg I.spec_l03Number [a0, a1].toArray H K :=
  HT_of_fev O.spec_l03Number mixed Try.func91 (by kernel_rfl) (Eq.mpr (by kernel_rfl : fev prg O.spec_l03Number Try.f91 [a0, a1] H K = F.spec_l03Number a0 a1 H K) h)

/-! loop.example/g01381/spec.l03Cells: function 92 -/
def F.spec_l03Cells (a0 a1 a2 : Value) (H : Hp) (K : Value → Hp → Prop) : Prop :=
  mkS 1 8 #[(.int .i64 0)] 2 a2 a2 H fun v10x1 H2 =>
  jn (fun σ3 H3 =>
    K (σ3 7) H3) fun J3 =>
  ob (vInt .sub a2 (.int .i64 1)) fun v12x4 =>
  lpE (fun Q5 σ5 H5 =>
    ob (vInt .geq (σ5 8) (.int .i64 0)) fun v14x6 =>
    cnd v14x6
      (ob (vInt .rem (σ5 0) (σ5 1)) fun v21x7 =>
    ob (vIx 1 (σ5 7) (σ5 8)) fun v22x8 =>
    st 1 v22x8 v21x7 H5 fun H9 =>
    ob (vInt .quo (σ5 0) (σ5 1)) fun v25x10 =>
    ob (vInt .sub (σ5 8) (.int .i64 1)) fun v16x11 =>
    Q5 .normal (up (up (up (up (up (up (up (up (up (up (up (up (up (up (up σ5 13 (σ5 8)) 14 v14x6) 17 (σ5 7)) 18 (σ5 8)) 19 (σ5 0)) 20 (σ5 1)) 21 v21x7) 22 v22x8) 23 (σ5 0)) 24 (σ5 1)) 25 v25x10) 0 v25x10) 15 (σ5 8)) 16 v16x11) 8 v16x11) H9)
      (Q5 (.exit 0) (up (up σ5 13 (σ5 8)) 14 v14x6) H5)) (blkQ 0 (thenQ J3 (retQ prg [(.tmp 6)] K))) (up (up (up (up (up (up (up (S0 [a0, a1, a2]) 6 (.slice none 0 0)) 9 a2) 10 v10x1) 7 v10x1) 11 a2) 12 v12x4) 8 v12x4) H2
def O.spec_l03Cells : Nat → Nat × List Nat := fun i => (0, [])
theorem R.spec_l03Cells {a0 a1 a2 : Value} {H : Hp} {K : Value → Hp → Prop} (h : F.spec_l03Cells a0 a1 a2 H K) : HT prg I.spec_l03Cells [a0, a1, a2].toArray H K :=
  HT_of_fev O.spec_l03Cells mixed Try.func92 (by kernel_rfl) (Eq.mpr (by kernel_rfl : fev prg O.spec_l03Cells Try.f92 [a0, a1, a2] H K = F.spec_l03Cells a0 a1 a2 H K) h)

/-! loop.example/g01381/spec.l03Steps: function 45 -/
def F.spec_l03Steps (a0 a1 : Value) (H : Hp) (K : Value → Hp → Prop) : Prop :=
  bS 1 0 #[(.int .i64 0)] 2 [] H fun v7x1 H2 =>
  jn (fun σ3 H3 =>
    K (σ3 5) H3) fun J3 =>
  lpE (fun Q4 σ4 H4 =>
    ob (vNilC (σ4 0)) fun v10x5 =>
    ob (vFa 0 v10x5) fun v11x6 =>
    ob (vLoad v11x6 H4) fun v12x7 =>
    HT prg I.spec_l03Power [v12x7, (σ4 1)].toArray H4 fun v14x8 H9 =>
    ob (vInt .lss (σ4 6) v14x8) fun v15x10 =>
    cnd v15x10
      (ob (vNilC (σ4 0)) fun v22x11 =>
    ob (vFa 0 v22x11) fun v23x12 =>
    ob (vLoad v23x12 H9) fun v24x13 =>
    ob (vNilC (σ4 0)) fun v29x14 =>
    ob (vFa 0 v29x14) fun v30x15 =>
    ob (vLoad v30x15 H9) fun v31x16 =>
    HT prg I.spec_l03Cells [(σ4 6), v24x13, (σ4 1)].toArray H9 fun v26x17 H18 =>
    Le H9 H18 ∧ (HT prg I.spec_l02Step [(σ4 0), v26x17].toArray H18 fun v27x19 H20 =>
    Le H18 H20 ∧ (HT prg I.spec_l03Number [v27x19, v31x16].toArray H20 fun v32x21 H22 =>
    Le H20 H22 ∧ (bS 1 1 #[(.int .i64 0)] 2 [(0, v32x21)] H22 fun v33x23 H24 =>
    apd 1 8 #[(.int .i64 0)] 2 (σ4 5) v33x23 H24 fun v34x25 H26 =>
    ob (vInt .add (σ4 6) (.int .i64 1)) fun v17x27 =>
    Q4 .normal (up (up (up (up (up (up (up (up (up (up (up (up (up (up (up (up (up (up (up (up (up (up (up (up (up (up (up (up (up σ4 8 (σ4 6)) 9 (σ4 0)) 10 v10x5) 11 v11x6) 12 v12x7) 13 (σ4 1)) 14 v14x8) 15 v15x10) 18 (σ4 5)) 19 (σ4 0)) 20 (σ4 6)) 21 (σ4 0)) 22 v22x11) 23 v23x12) 24 v24x13) 25 (σ4 1)) 28 (σ4 0)) 29 v29x14) 30 v30x15) 31 v31x16) 26 v26x17) 27 v27x19) 32 v32x21) 33 v33x23) 34 v34x25) 5 v34x25) 16 (σ4 6)) 17 v17x27) 6 v17x27) H26))))
      (Q4 (.exit 0) (up (up (up (up (up (up (up (up σ4 8 (σ4 6)) 9 (σ4 0)) 10 v10x5) 11 v11x6) 12 v12x7) 13 (σ4 1)) 14 v14x8) 15 v15x10) H9)) (blkQ 0 (thenQ J3 (retQ prg [(.tmp 4)] K))) (up (up (up (up (S0 [a0, a1]) 4 (.slice none 0 0)) 7 v7x1) 5 v7x1) 6 (.int .i64 0)) H2
def O.spec_l03Steps : Nat → Nat × List Nat := fun i => bif Nat.beq i 5 then (0, [0, 1, 2, 3, 4, 5, 6, 7, 10, 11, 12, 13, 8, 9, 14, 15, 16, 17]) else (0, [])
theorem R.spec_l03Steps {a0 a1 : Value} {H : Hp} {K : Value → Hp → Prop} (h : F.spec_l03Steps a0 a1 H K) : HT prg I.spec_l03Steps [a0, a1].toArray H K :=
  HT_of_fev O.spec_l03Steps mixed Try.func45 (by kernel_rfl) (Eq.mpr (by kernel_rfl : fev prg O.spec_l03Steps Try.f45 [a0, a1] H K = F.spec_l03Steps a0 a1 H K) h)

/-! loop.example/g01381/spec.l03Cycles: function 46 -/
def F.spec_l03Cycles (a0 : Value) (H : Hp) (K : Value → Hp → Prop) : Prop :=
  ob (vLenSl a0) fun v11x1 =>
  mkS 1 8 #[(.int .i64 0)] 2 v11x1 v11x1 H fun v12x2 H3 =>
  ob (vLenSl a0) fun v14x4 =>
  mkS 1 8 #[(.int .i64 0)] 2 v14x4 v14x4 H3 fun v15x5 H6 =>
  jn (fun σ7 H7 =>
    K (σ7 3) H7) fun J7 =>
  ob (vLenSl a0) fun v17x8 =>
  lpE (fun Q9 σ9 H9 =>
    ob (vInt .lss (σ9 18) (σ9 17)) fun v19x10 =>
    cnd v19x10
      (jn (fun σ11 H11 =>
      ob (vInt .add (σ11 18) (.int .i64 1)) fun v69x12 =>
      Q9 .normal (up (up σ11 69 v69x12) 18 v69x12) H11) fun J11 =>
    jn (fun σ13 H13 =>
      ob (vIx 1 (σ13 4) (σ13 6)) fun v38x14 =>
      ob (vLoad v38x14 H13) fun v39x15 =>
      ob (vInt .add (σ13 5) (.int .i64 1)) fun v41x16 =>
      ob (vInt .neq v39x15 v41x16) fun v42x17 =>
      cnd v42x17
        (J11 (up (up (up (up (up (up (up σ13 36 (σ13 4)) 37 (σ13 6)) 38 v38x14) 39 v39x15) 40 (σ13 5)) 41 v41x16) 42 v42x17) H13)
        (jn (fun σ18 H18 =>
        lpE (fun Q19 σ19 H19 =>
          ob (vInt .lss (σ19 9) (σ19 7)) fun v58x20 =>
          cnd v58x20
            (ob (vIx 1 (σ19 3) (σ19 6)) fun v64x21 =>
          st 1 v64x21 (σ19 7) H19 fun H22 =>
          ob (vIx 1 (σ19 0) (σ19 6)) fun v67x23 =>
          ob (vLoad v67x23 H22) fun v68x24 =>
          ob (vInt .add (σ19 9) (.int .i64 1)) fun v60x25 =>
          Q19 .normal (up (up (up (up (up (up (up (up (up (up (up (up (up (up (up σ19 56 (σ19 9)) 57 (σ19 7)) 58 v58x20) 61 (σ19 3)) 62 (σ19 6)) 63 (σ19 7)) 64 v64x21) 65 (σ19 0)) 66 (σ19 6)) 67 v67x23) 68 v68x24) 6 v68x24) 59 (σ19 9)) 60 v60x25) 9 v60x25) H22)
            (Q19 (.exit 6) (up (up (up σ19 56 (σ19 9)) 57 (σ19 7)) 58 v58x20) H19)) (blkQ 6 (blkQ 1 (thenQ J11 Q9))) (up σ18 9 (.int .i64 0)) H18) fun J18 =>
      ob (vIx 1 (σ13 0) (σ13 6)) fun v45x26 =>
      ob (vLoad v45x26 H13) fun v46x27 =>
      lpE (fun Q28 σ28 H28 =>
        ob (vInt .neq (σ28 8) (σ28 6)) fun v49x29 =>
        cnd v49x29
          (ob (vInt .add (σ28 7) (.int .i64 1)) fun v55x30 =>
        ob (vIx 1 (σ28 0) (σ28 8)) fun v52x31 =>
        ob (vLoad v52x31 H28) fun v53x32 =>
        Q28 .normal (up (up (up (up (up (up (up (up (up (up (up σ28 47 (σ28 8)) 48 (σ28 6)) 49 v49x29) 54 (σ28 7)) 55 v55x30) 7 v55x30) 50 (σ28 0)) 51 (σ28 8)) 52 v52x31) 53 v53x32) 8 v53x32) H28)
          (Q28 (.exit 4) (up (up (up σ28 47 (σ28 8)) 48 (σ28 6)) 49 v49x29) H28)) (blkQ 4 (thenQ J18 (blkQ 1 (thenQ J11 Q9)))) (up (up (up (up (up (up (up (up (up (up (up (up (up σ13 36 (σ13 4)) 37 (σ13 6)) 38 v38x14) 39 v39x15) 40 (σ13 5)) 41 v41x16) 42 v42x17) 7 (.int .i64 1)) 43 (σ13 0)) 44 (σ13 6)) 45 v45x26) 46 v46x27) 8 v46x27) H13)) fun J13 =>
    lpE (fun Q33 σ33 H33 =>
      ob (vIx 1 (σ33 4) (σ33 6)) fun v24x34 =>
      ob (vLoad v24x34 H33) fun v25x35 =>
      ob (vInt .eql v25x35 (.int .i64 0)) fun v26x36 =>
      cnd v26x36
        (ob (vInt .add (σ33 5) (.int .i64 1)) fun v30x37 =>
      ob (vIx 1 (σ33 4) (σ33 6)) fun v31x38 =>
      st 1 v31x38 v30x37 H33 fun H39 =>
      ob (vIx 1 (σ33 0) (σ33 6)) fun v34x40 =>
      ob (vLoad v34x40 H39) fun v35x41 =>
      Q33 .normal (up (up (up (up (up (up (up (up (up (up (up (up (up (up (up σ33 22 (σ33 4)) 23 (σ33 6)) 24 v24x34) 25 v25x35) 26 v26x36) 27 (σ33 4)) 28 (σ33 6)) 29 (σ33 5)) 30 v30x37) 31 v31x38) 32 (σ33 0)) 33 (σ33 6)) 34 v34x40) 35 v35x41) 6 v35x41) H39)
        (Q33 (.exit 2) (up (up (up (up (up σ33 22 (σ33 4)) 23 (σ33 6)) 24 v24x34) 25 v25x35) 26 v26x36) H33)) (blkQ 2 (thenQ J13 (blkQ 1 (thenQ J11 Q9)))) (up (up (up (up (up σ9 19 v19x10) 20 (σ9 18)) 5 (σ9 18)) 21 (σ9 18)) 6 (σ9 18)) H9)
      (Q9 (.exit 0) (up σ9 19 v19x10) H9)) (blkQ 0 (thenQ J7 (retQ prg [(.tmp 2)] K))) (up (up (up (up (up (up (up (up (up (up (up (up (S0 [a0]) 2 (.slice none 0 0)) 10 a0) 11 v11x1) 12 v12x2) 3 v12x2) 13 a0) 14 v14x4) 15 v15x5) 4 v15x5) 16 a0) 17 v17x8) 18 (.int .i64 0)) H6
def O.spec_l03Cycles : Nat → Nat × List Nat := fun i => (0, [])
theorem R.spec_l03Cycles {a0 : Value} {H : Hp} {K : Value → Hp → Prop} (h : F.spec_l03Cycles a0 H K) : HT prg I.spec_l03Cycles [a0].toArray H K :=
  HT_of_fev O.spec_l03Cycles mixed Try.func46 (by kernel_rfl) (Eq.mpr (by kernel_rfl : fev prg O.spec_l03Cycles Try.f46 [a0] H K = F.spec_l03Cycles a0 H K) h)

/-! loop.example/g01381/spec.l00Max: function 47 -/
def F.spec_l00Max (a0 a1 : Value) (H : Hp) (K : Value → Hp → Prop) : Prop :=
  ob (vInt .gtr a0 a1) fun v7x1 =>
  cnd v7x1
    (K a0 H)
    (K a1 H)
def O.spec_l00Max : Nat → Nat × List Nat := fun i => (0, [])
theorem R.spec_l00Max {a0 a1 : Value} {H : Hp} {K : Value → Hp → Prop} (h : F.spec_l00Max a0 a1 H K) : HT prg I.spec_l00Max [a0, a1].toArray H K :=
  HT_of_fev O.spec_l00Max mixed Try.func47 (by kernel_rfl) (Eq.mpr (by kernel_rfl : fev prg O.spec_l00Max Try.f47 [a0, a1] H K = F.spec_l00Max a0 a1 H K) h)

/-! loop.example/g01381/spec.DepthOf: function 9 -/
def F.spec_DepthOf (a0 a1 : Value) (H : Hp) (K : Value → Hp → Prop) : Prop :=
  nw (a0 : Value).cells 28 H fun v2x1 H2 =>
  HT prg I.spec_l03Small [v2x1, a1, (.int .i64 12), (.int .i64 8)].toArray H2 fun v16x3 H4 =>
  ob (vUn .not v16x3) fun v17x5 =>
  cnd v17x5
    (K (.tuple #[(.int .i64 0), (.bool false)]) H4)
    (HT prg I.spec_l03Steps [v2x1, a1].toArray H4 fun v19x6 H7 =>
  HT prg I.spec_l03Cycles [v19x6].toArray H7 fun v21x8 H9 =>
  ob (vLenSl v19x6) fun v23x10 =>
  mkS 1 8 #[(.int .i64 0)] 2 v23x10 v23x10 H9 fun v24x11 H12 =>
  jn (fun σ13 H13 =>
    K (.tuple #[(σ13 9), (.bool true)]) H13) fun J13 =>
  ob (vLenSl v19x6) fun v26x14 =>
  lpE (fun Q15 σ15 H15 =>
    ob (vInt .lss (σ15 27) (σ15 26)) fun v28x16 =>
    cnd v28x16
      (jn (fun σ17 H17 =>
      ob (vInt .add (σ17 27) (.int .i64 1)) fun v82x18 =>
      Q15 .normal (up (up σ17 82 v82x18) 27 v82x18) H17) fun J17 =>
    bS 1 0 #[(.int .i64 0)] 2 [] H15 fun v30x19 H20 =>
    jn (fun σ21 H21 =>
      jn (fun σ22 H22 =>
        jn (fun σ23 H23 =>
          HT prg I.spec_l00Max [(σ23 9), (σ23 13)].toArray H23 fun v81x24 H25 =>
          J17 (up (up (up (up σ23 79 (σ23 9)) 80 (σ23 13)) 81 v81x24) 9 v81x24) H25) fun J23 =>
        ob (vLenSl (σ22 11)) fun v63x26 =>
        ob (vInt .sub v63x26 (.int .i64 1)) fun v64x27 =>
        lpE (fun Q28 σ28 H28 =>
          ob (vInt .geq (σ28 14) (.int .i64 0)) fun v66x29 =>
          cnd v66x29
            (ob (vInt .add (σ28 13) (.int .i64 1)) fun v70x30 =>
          ob (vIx 1 (σ28 11) (σ28 14)) fun v74x31 =>
          ob (vLoad v74x31 H28) fun v75x32 =>
          ob (vInt .add v70x30 (.int .i64 1)) fun v77x33 =>
          ob (vIx 1 (σ28 8) v75x32) fun v78x34 =>
          st 1 v78x34 v77x33 H28 fun H35 =>
          ob (vInt .sub (σ28 14) (.int .i64 1)) fun v68x36 =>
          Q28 .normal (up (up (up (up (up (up (up (up (up (up (up (up (up (up (up (up σ28 65 (σ28 14)) 66 v66x29) 69 (σ28 13)) 70 v70x30) 13 v70x30) 71 (σ28 8)) 72 (σ28 11)) 73 (σ28 14)) 74 v74x31) 75 v75x32) 76 v70x30) 77 v77x33) 78 v78x34) 67 (σ28 14)) 68 v68x36) 14 v68x36) H35)
            (Q28 (.exit 4) (up (up σ28 65 (σ28 14)) 66 v66x29) H28)) (blkQ 4 (thenQ J23 (blkQ 1 (thenQ J17 Q15)))) (up (up (up (up σ22 62 (σ22 11)) 63 v63x26) 64 v64x27) 14 v64x27) H22) fun J22 =>
      ob (vIx 1 (σ21 7) (σ21 12)) fun v54x37 =>
      ob (vLoad v54x37 H21) fun v55x38 =>
      ob (vInt .eql v55x38 (.int .i64 0)) fun v56x39 =>
      cnd v56x39
        (ob (vIx 1 (σ21 8) (σ21 12)) fun v59x40 =>
        ob (vLoad v59x40 H21) fun v60x41 =>
        ob (vInt .sub v60x41 (.int .i64 1)) fun v61x42 =>
        J22 (up (up (up (up (up (up (up (up (up (up (up (up σ21 13 (.int .i64 0)) 52 (σ21 7)) 53 (σ21 12)) 54 v54x37) 55 v55x38) 56 v56x39) 57 (σ21 8)) 58 (σ21 12)) 59 v59x40) 60 v60x41) 61 v61x42) 13 v61x42) H21)
        (J22 (up (up (up (up (up (up σ21 13 (.int .i64 0)) 52 (σ21 7)) 53 (σ21 12)) 54 v54x37) 55 v55x38) 56 v56x39) H21)) fun J21 =>
    lpE (fun Q43 σ43 H43 =>
      ob (vIx 1 (σ43 7) (σ43 12)) fun v34x44 =>
      ob (vLoad v34x44 H43) fun v35x45 =>
      ob (vInt .eql v35x45 (.int .i64 0)) fun v36x46 =>
      gop v36x46 true (fun K47 => K47 (σ43 8) H43) H43 fun v38x48 H49 =>
      gop v36x46 true (fun K50 => K50 (σ43 12) H49) H49 fun v39x51 H52 =>
      gop v36x46 true (fun K53 => ob (vIx 1 v38x48 v39x51) fun u => K53 u H52) H52 fun v40x54 H55 =>
      gop v36x46 true (fun K56 => ob (vLoad v40x54 H55) fun u => K56 u H55) H55 fun v41x57 H58 =>
      gop v36x46 true (fun K59 => ob (vInt .eql v41x57 (.int .i64 0)) fun u => K59 u H58) H58 fun v42x60 H61 =>
      ob (vPick v36x46 v42x60 (.bool false)) fun v43x62 =>
      cnd v43x62
        (bS 1 1 #[(.int .i64 0)] 2 [(0, (σ43 12))] H61 fun v46x63 H64 =>
      apd 1 8 #[(.int .i64 0)] 2 (σ43 11) v46x63 H64 fun v47x65 H66 =>
      ob (vIx 1 (σ43 6) (σ43 12)) fun v50x67 =>
      ob (vLoad v50x67 H66) fun v51x68 =>
      Q43 .normal (up (up (up (up (up (up (up (up (up (up (up (up (up (up (up (up (up (up (up (up (up (up σ43 32 (σ43 7)) 33 (σ43 12)) 34 v34x44) 35 v35x45) 36 v36x46) 37 v36x46) 38 v38x48) 39 v39x51) 40 v40x54) 41 v41x57) 42 v42x60) 43 v43x62) 44 (σ43 11)) 45 (σ43 12)) 46 v46x63) 47 v47x65) 11 v47x65) 48 (σ43 6)) 49 (σ43 12)) 50 v50x67) 51 v51x68) 12 v51x68) H66)
        (Q43 (.exit 2) (up (up (up (up (up (up (up (up (up (up (up (up σ43 32 (σ43 7)) 33 (σ43 12)) 34 v34x44) 35 v35x45) 36 v36x46) 37 v36x46) 38 v38x48) 39 v39x51) 40 v40x54) 41 v41x57) 42 v42x60) 43 v43x62) H61)) (blkQ 2 (thenQ J21 (blkQ 1 (thenQ J17 Q15)))) (up (up (up (up (up (up (up σ15 28 v28x16) 29 (σ15 27)) 10 (σ15 27)) 30 v30x19) 11 v30x19) 31 (σ15 27)) 12 (σ15 27)) H20)
      (Q15 (.exit 0) (up σ15 28 v28x16) H15)) (blkQ 0 (thenQ J13 (retQ prg [(.tmp 4), (.tmp 5)] K))) (up (up (up (up (up (up (up (up (up (up (up (up (up (up (up (up (up (up (up (up (S0 [a0, a1]) 2 v2x1) 4 (.int .i64 0)) 5 (.bool false)) 15 a1) 16 v16x3) 17 v17x5) 18 a1) 19 v19x6) 6 v19x6) 20 v19x6) 21 v21x8) 7 v21x8) 22 v19x6) 23 v23x10) 24 v24x11) 8 v24x11) 9 (.int .i64 0)) 25 v19x6) 26 v26x14) 27 (.int .i64 0)) H12)
def O.spec_DepthOf : Nat → Nat × List Nat := fun i => (0, [])
theorem R.spec_DepthOf {a0 a1 : Value} {H : Hp} {K : Value → Hp → Prop} (h : F.spec_DepthOf a0 a1 H K) : HT prg I.spec_DepthOf [a0, a1].toArray H K :=
  HT_of_fev O.spec_DepthOf mixed Try.func9 (by kernel_rfl) (Eq.mpr (by kernel_rfl : fev prg O.spec_DepthOf Try.f9 [a0, a1] H K = F.spec_DepthOf a0 a1 H K) h)

/-! loop.example/g01381/impl.within: function 80 -/
def F.impl_within (a0 a1 a2 : Value) (H : Hp) (K : Value → Hp → Prop) : Prop :=
  ob (vInt .geq a0 a1) fun v9x1 =>
  gop v9x1 true (fun K2 => K2 a0 H) H fun v11x3 H4 =>
  gop v9x1 true (fun K5 => K5 a2 H4) H4 fun v12x6 H7 =>
  gop v9x1 true (fun K8 => ob (vInt .leq v11x3 v12x6) fun u => K8 u H7) H7 fun v13x9 H10 =>
  ob (vPick v9x1 v13x9 (.bool false)) fun v14x11 =>
  K v14x11 H10
def O.impl_within : Nat → Nat × List Nat := fun i => (0, [])
theorem R.impl_within {a0 a1 a2 : Value} {H : Hp} {K : Value → Hp → Prop} (h : F.impl_within a0 a1 a2 H K) : HT prg I.impl_within [a0, a1, a2].toArray H K :=
  HT_of_fev O.impl_within mixed Try.func80 (by kernel_rfl) (Eq.mpr (by kernel_rfl : fev prg O.impl_within Try.f80 [a0, a1, a2] H K = F.impl_within a0 a1 a2 H K) h)

/-! loop.example/g01381/impl.raised: function 56 -/
def F.impl_raised (a0 a1 : Value) (H : Hp) (K : Value → Hp → Prop) : Prop :=
  jn (fun σ1 H1 =>
    K (σ1 5) H1) fun J1 =>
  lpE (fun Q2 σ2 H2 =>
    ob (vInt .lss (σ2 7) (σ2 6)) fun v8x3 =>
    cnd v8x3
      (ob (vInt .mul (σ2 5) (σ2 0)) fun v11x4 =>
    ob (vInt .add (σ2 7) (.int .i64 1)) fun v12x5 =>
    Q2 .normal (up (up (up (up (up (up (up σ2 8 v8x3) 9 (σ2 5)) 10 (σ2 0)) 11 v11x4) 5 v11x4) 12 v12x5) 7 v12x5) H2)
      (Q2 (.exit 0) (up σ2 8 v8x3) H2)) (blkQ 0 (thenQ J1 (retQ prg [(.tmp 4)] K))) (up (up (up (up (S0 [a0, a1]) 4 (.int .i64 0)) 5 (.int .i64 1)) 6 a1) 7 (.int .i64 0)) H
def O.impl_raised : Nat → Nat × List Nat := fun i => (0, [])
theorem R.impl_raised {a0 a1 : Value} {H : Hp} {K : Value → Hp → Prop} (h : F.impl_raised a0 a1 H K) : HT prg I.impl_raised [a0, a1].toArray H K :=
  HT_of_fev O.impl_raised mixed Try.func56 (by kernel_rfl) (Eq.mpr (by kernel_rfl : fev prg O.impl_raised Try.f56 [a0, a1] H K = F.impl_raised a0 a1 H K) h)

/-! (loop.example/g01381/impl.Rule).cells: function 94 -/
def F.impl_Rule_cells (a0 : Value) (H : Hp) (K : Value → Hp → Prop) : Prop :=
  nw (a0 : Value).cells 28 H fun v1x1 H2 =>
  ob (vFa 1 v1x1) fun v3x3 =>
  ob (vLoad v3x3 H2) fun v4x4 =>
  ob (vInt .mul (.int .i64 2) v4x4) fun v5x5 =>
  ob (vInt .add v5x5 (.int .i64 1)) fun v6x6 =>
  K v6x6 H2
def O.impl_Rule_cells : Nat → Nat × List Nat := fun i => (0, [])
theorem R.impl_Rule_cells {a0 : Value} {H : Hp} {K : Value → Hp → Prop} (h : F.impl_Rule_cells a0 H K) : HT prg I.impl_Rule_cells [a0].toArray H K :=
  HT_of_fev O.impl_Rule_cells mixed Try.func94 (by kernel_rfl) (Eq.mpr (by kernel_rfl : fev prg O.impl_Rule_cells Try.f94 [a0] H K = F.impl_Rule_cells a0 H K) h)

/-! loop.example/g01381/impl.areStates: function 121 -/
def F.impl_areStates (a0 : Value) (H : Hp) (K : Value → Hp → Prop) : Prop :=
  ob (vInt .eql a0 (.int .i64 2)) fun v4x1 =>
  gop v4x1 false (fun K2 => K2 a0 H) H fun v6x3 H4 =>
  gop v4x1 false (fun K5 => ob (vInt .eql v6x3 (.int .i64 3)) fun u => K5 u H4) H4 fun v7x6 H7 =>
  ob (vPick v4x1 (.bool true) v7x6) fun v8x8 =>
  K v8x8 H7
def O.impl_areStates : Nat → Nat × List Nat := fun i => (0, [])
theorem R.impl_areStates {a0 : Value} {H : Hp} {K : Value → Hp → Prop} (h : F.impl_areStates a0 H K) : HT prg I.impl_areStates [a0].toArray H K :=
  HT_of_fev O.impl_areStates mixed Try.func121 (by kernel_rfl) (Eq.mpr (by kernel_rfl : fev prg O.impl_areStates Try.f121 [a0] H K = F.impl_areStates a0 H K) h)

/-! loop.example/g01381/impl.isReach: function 122 -/
def F.impl_isReach (a0 : Value) (H : Hp) (K : Value → Hp → Prop) : Prop :=
  HT prg I.impl_within [a0, (.int .i64 0), (.int .i64 2)].toArray H fun v4x1 H2 =>
  K v4x1 H2
def O.impl_isReach : Nat → Nat × List Nat := fun i => (0, [])
theorem R.impl_isReach {a0 : Value} {H : Hp} {K : Value → Hp → Prop} (h : F.impl_isReach a0 H K) : HT prg I.impl_isReach [a0].toArray H K :=
  HT_of_fev O.impl_isReach mixed Try.func122 (by kernel_rfl) (Eq.mpr (by kernel_rfl : fev prg O.impl_isReach Try.f122 [a0] H K = F.impl_isReach a0 H K) h)

/-! loop.example/g01381/impl.areWithin: function 138 -/
def F.impl_areWithin (a0 a1 a2 : Value) (H : Hp) (K : Value → Hp → Prop) : Prop :=
  jn (fun σ1 H1 =>
    K (.bool true) H1) fun J1 =>
  ob (vLenSl a0) fun v10x2 =>
  lpE (fun Q3 σ3 H3 =>
    ob (vInt .lss (σ3 11) (σ3 10)) fun v12x4 =>
    cnd v12x4
      (ob (vIx 1 (σ3 9) (σ3 11)) fun v13x5 =>
    ob (vLoad v13x5 H3) fun v14x6 =>
    HT prg I.impl_within [v14x6, (σ3 1), (σ3 2)].toArray H3 fun v18x7 H8 =>
    ob (vUn .not v18x7) fun v19x9 =>
    cnd v19x9
      (Q3 .ret (up (up (up (up (up (up (up (up (up (up σ3 12 v12x4) 13 v13x5) 14 v14x6) 8 v14x6) 15 v14x6) 16 (σ3 1)) 17 (σ3 2)) 18 v18x7) 19 v19x9) 6 (.bool false)) H8)
      (ob (vInt .add (σ3 11) (.int .i64 1)) fun v20x10 =>
    Q3 .normal (up (up (up (up (up (up (up (up (up (up (up σ3 12 v12x4) 13 v13x5) 14 v14x6) 8 v14x6) 15 v14x6) 16 (σ3 1)) 17 (σ3 2)) 18 v18x7) 19 v19x9) 20 v20x10) 11 v20x10) H8))
      (Q3 (.exit 0) (up σ3 12 v12x4) H3)) (blkQ 0 (thenQ J1 (retQ prg [(.tmp 6)] K))) (up (up (up (up (S0 [a0, a1, a2]) 6 (.bool false)) 9 a0) 10 v10x2) 11 (.int .i64 0)) H
def O.impl_areWithin : Nat → Nat × List Nat := fun i => (0, [])
theorem R.impl_areWithin {a0 a1 a2 : Value} {H : Hp} {K : Value → Hp → Prop} (h : F.impl_areWithin a0 a1 a2 H K) : HT prg I.impl_areWithin [a0, a1, a2].toArray H K :=
  HT_of_fev O.impl_areWithin mixed Try.func138 (by kernel_rfl) (Eq.mpr (by kernel_rfl : fev prg O.impl_areWithin Try.f138 [a0, a1, a2] H K = F.impl_areWithin a0 a1 a2 H K) h)

/-! loop.example/g01381/impl.areMany: function 123 -/
def F.impl_areMany (a0 a1 a2 a3 a4 : Value) (H : Hp) (K : Value → Hp → Prop) : Prop :=
  ob (vLenSl a0) fun v12x1 =>
  HT prg I.impl_within [v12x1, a1, a2].toArray H fun v15x2 H3 =>
  gop v15x2 true (fun K4 => K4 a0 H3) H3 fun v17x5 H6 =>
  gop v15x2 true (fun K7 => K7 a3 H6) H6 fun v18x8 H9 =>
  gop v15x2 true (fun K10 => K10 a4 H9) H9 fun v19x11 H12 =>
  gop v15x2 true (fun K13 => HT prg I.impl_areWithin [v17x5, v18x8, v19x11].toArray H12 K13) H12 fun v20x14 H15 =>
  ob (vPick v15x2 v20x14 (.bool false)) fun v21x16 =>
  K v21x16 H15
def O.impl_areMany : Nat → Nat × List Nat := fun i => (0, [])
theorem R.impl_areMany {a0 a1 a2 a3 a4 : Value} {H : Hp} {K : Value → Hp → Prop} (h : F.impl_areMany a0 a1 a2 a3 a4 H K) : HT prg I.impl_areMany [a0, a1, a2, a3, a4].toArray H K :=
  HT_of_fev O.impl_areMany mixed Try.func123 (by kernel_rfl) (Eq.mpr (by kernel_rfl : fev prg O.impl_areMany Try.f123 [a0, a1, a2, a3, a4] H K = F.impl_areMany a0 a1 a2 a3 a4 H K) h)

/-! loop.example/g01381/impl.ValidRule: function 93 -/
def F.impl_ValidRule (a0 : Value) (H : Hp) (K : Value → Hp → Prop) : Prop :=
  nw (a0 : Value).cells 28 H fun v1x1 H2 =>
  ob (vFa 0 v1x1) fun v4x3 =>
  ob (vLoad v4x3 H2) fun v5x4 =>
  HT prg I.impl_areStates [v5x4].toArray H2 fun v6x5 H6 =>
  ob (vUn .not v6x5) fun v7x7 =>
  gop v7x7 false (fun K8 => ob (vFa 1 v1x1) fun u => K8 u H6) H6 fun v9x9 H10 =>
  gop v7x7 false (fun K11 => ob (vLoad v9x9 H10) fun u => K11 u H10) H10 fun v10x12 H13 =>
  gop v7x7 false (fun K14 => HT prg I.impl_isReach [v10x12].toArray H13 K14) H13 fun v11x15 H16 =>
  gop v7x7 false (fun K17 => ob (vUn .not v11x15) fun u => K17 u H16) H16 fun v12x18 H19 =>
  ob (vPick v7x7 (.bool true) v12x18) fun v13x20 =>
  cnd v13x20
    (K (.bool false) H19)
    (ob (vFa 0 v1x1) fun v14x21 =>
  ob (vLoad v14x21 H19) fun v15x22 =>
  ob (vLoadN 3 v1x1 H19) fun v16x23 =>
  HT prg I.impl_Rule_cells [v16x23].toArray H19 fun v17x24 H25 =>
  Le H19 H25 ∧ (HT prg I.impl_raised [v15x22, v17x24].toArray H25 fun v18x26 H27 =>
  Le H25 H27 ∧ (ob (vFa 2 v1x1) fun v19x28 =>
  ob (vLoad v19x28 H27) fun v20x29 =>
  ob (vFa 0 v1x1) fun v23x30 =>
  ob (vLoad v23x30 H27) fun v24x31 =>
  ob (vInt .sub v24x31 (.int .i64 1)) fun v25x32 =>
  HT prg I.impl_areMany [v20x29, v18x26, v18x26, (.int .i64 0), v25x32].toArray H27 fun v26x33 H34 =>
  K v26x33 H34)))
def O.impl_ValidRule : Nat → Nat × List Nat := fun i => bif Nat.beq i 3 then (0, [0, 1, 2, 3, 4, 5]) else (0, [])
theorem R.impl_ValidRule {a0 : Value} {H : Hp} {K : Value → Hp → Prop} (h : F.impl_ValidRule a0 H K) : HT prg I.impl_ValidRule [a0].toArray H K :=
  HT_of_fev O.impl_ValidRule mixed Try.func93 (by kernel_rfl) (Eq.mpr (by kernel_rfl : fev prg O.impl_ValidRule Try.f93 [a0] H K = F.impl_ValidRule a0 H K) h)

/-! (loop.example/g01381/impl.Rule).mostCells: function 95 -/
def F.impl_Rule_mostCells (a0 a1 a2 : Value) (H : Hp) (K : Value → Hp → Prop) : Prop :=
  nw (a0 : Value).cells 28 H fun v3x1 H2 =>
  ob (vFa 0 v3x1) fun v7x3 =>
  ob (vLoad v7x3 H2) fun v8x4 =>
  ob (vInt .eql v8x4 (.int .i64 2)) fun v9x5 =>
  cnd v9x5
    (K a1 H2)
    (K a2 H2)
def O.impl_Rule_mostCells : Nat → Nat × List Nat := fun i => (0, [])
theorem R.impl_Rule_mostCells {a0 a1 a2 : Value} {H : Hp} {K : Value → Hp → Prop} (h : F.impl_Rule_mostCells a0 a1 a2 H K) : HT prg I.impl_Rule_mostCells [a0, a1, a2].toArray H K :=
  HT_of_fev O.impl_Rule_mostCells mixed Try.func95 (by kernel_rfl) (Eq.mpr (by kernel_rfl : fev prg O.impl_Rule_mostCells Try.f95 [a0, a1, a2] H K = F.impl_Rule_mostCells a0 a1 a2 H K) h)

/-! loop.example/g01381/impl.small: function 48 -/
def F.impl_small (a0 a1 : Value) (H : Hp) (K : Value → Hp → Prop) : Prop :=
  nw (a0 : Value).cells 28 H fun v2x1 H2 =>
  ob (vLoadN 3 v2x1 H2) fun v5x3 =>
  HT prg I.impl_ValidRule [v5x3].toArray H2 fun v6x4 H5 =>
  Le H2 H5 ∧ (gop v6x4 true (fun K6 => K6 a1 H5) H5 fun v8x7 H8 =>
  gop v6x4 true (fun K9 => ob (vLoadN 3 v2x1 H8) fun u => K9 u H8) H8 fun v9x10 H11 =>
  gop v6x4 true (fun K12 => ob (vLoadN 3 v2x1 H11) fun u => K12 u H11) H11 fun v11x13 H14 =>
  gop v6x4 true (fun K15 => HT prg I.impl_Rule_cells [v9x10].toArray H14 fun v10x16 H17 =>
  Le H14 H17 ∧ K15 v10x16 H17) H14 fun v10x18 H19 =>
  gop v6x4 true (fun K20 => HT prg I.impl_Rule_mostCells [v11x13, (.int .i64 12), (.int .i64 8)].toArray H19 fun v12x21 H22 =>
  Le H19 H22 ∧ K20 v12x21 H22) H19 fun v12x23 H24 =>
  gop v6x4 true (fun K25 => HT prg I.impl_within [v8x7, v10x18, v12x23].toArray H24 fun v13x26 H27 =>
  Le H24 H27 ∧ K25 v13x26 H27) H24 fun v13x28 H29 =>
  ob (vPick v6x4 v13x28 (.bool false)) fun v14x30 =>
  K v14x30 H29)
def O.impl_small : Nat → Nat × List Nat := fun i => bif Nat.beq i 1 then (0, [0, 1, 2, 3, 4, 6, 5, 7, 8, 9, 10]) else (0, [])
theorem R.impl_small {a0 a1 : Value} {H : Hp} {K : Value → Hp → Prop} (h : F.impl_small a0 a1 H K) : HT prg I.impl_small [a0, a1].toArray H K :=
  HT_of_fev O.impl_small mixed Try.func48 (by kernel_rfl) (Eq.mpr (by kernel_rfl : fev prg O.impl_small Try.f48 [a0, a1] H K = F.impl_small a0 a1 H K) h)

/-! loop.example/g01381/impl.numberOf: function 96 -/
def F.impl_numberOf (a0 a1 : Value) (H : Hp) (K : Value → Hp → Prop) : Prop :=
  jn (fun σ1 H1 =>
    K (σ1 5) H1) fun J1 =>
  ob (vLenSl a0) fun v9x2 =>
  lpE (fun Q3 σ3 H3 =>
    ob (vInt .lss (σ3 10) (σ3 9)) fun v11x4 =>
    cnd v11x4
      (ob (vIx 1 (σ3 8) (σ3 10)) fun v12x5 =>
    ob (vLoad v12x5 H3) fun v13x6 =>
    ob (vInt .mul (σ3 5) (σ3 1)) fun v16x7 =>
    ob (vInt .add v16x7 v13x6) fun v18x8 =>
    ob (vInt .add (σ3 10) (.int .i64 1)) fun v19x9 =>
    Q3 .normal (up (up (up (up (up (up (up (up (up (up (up (up σ3 11 v11x4) 12 v12x5) 13 v13x6) 7 v13x6) 14 (σ3 5)) 15 (σ3 1)) 16 v16x7) 17 v13x6) 18 v18x8) 5 v18x8) 19 v19x9) 10 v19x9) H3)
      (Q3 (.exit 0) (up σ3 11 v11x4) H3)) (blkQ 0 (thenQ J1 (retQ prg [(.tmp 4)] K))) (up (up (up (up (up (S0 [a0, a1]) 4 (.int .i64 0)) 5 (.int .i64 0)) 8 a0) 9 v9x2) 10 (.int .i64 0)) H
def O.impl_numberOf : Nat → Nat × List Nat := fun i => (0, [])
theorem R.impl_numberOf {a0 a1 : Value} {H : Hp} {K : Value → Hp → Prop} (h : F.impl_numberOf a0 a1 H K) : HT prg I.impl_numberOf [a0, a1].toArray H K :=
  HT_of_fev O.impl_numberOf mixed Try.func96 (by kernel_rfl) (Eq.mpr (by kernel_rfl : fev prg O.impl_numberOf Try.f96 [a0, a1] H K = F.impl_numberOf a0 a1 H K) h)

/-! loop.example/g01381/impl.floorMod: function 145 -/
def F.impl_floorMod (a0 a1 : Value) (H : Hp) (K : Value → Hp → Prop) : Prop :=
  ob (vInt .rem a0 a1) fun v7x1 =>
  ob (vInt .add v7x1 a1) fun v9x2 =>
  ob (vInt .rem v9x2 a1) fun v11x3 =>
  K v11x3 H
def O.impl_floorMod : Nat → Nat × List Nat := fun i => (0, [])
theorem R.impl_floorMod {a0 a1 : Value} {H : Hp} {K : Value → Hp → Prop} (h : F.impl_floorMod a0 a1 H K) : HT prg I.impl_floorMod [a0, a1].toArray H K :=
  HT_of_fev O.impl_floorMod mixed Try.func145 (by kernel_rfl) (Eq.mpr (by kernel_rfl : fev prg O.impl_floorMod Try.f145 [a0, a1] H K = F.impl_floorMod a0 a1 H K) h)

/-! (loop.example/g01381/impl.Rule).at: function 124 -/
def F.impl_Rule_at (a0 a1 a2 : Value) (H : Hp) (K : Value → Hp → Prop) : Prop :=
  nw (a0 : Value).cells 28 H fun v3x1 H2 =>
  ob (vLenSl a1) fun v11x3 =>
  jn (fun σ4 H4 =>
    ob (vFa 2 (σ4 3)) fun v35x5 =>
    ob (vLoad v35x5 H4) fun v36x6 =>
    ob (vIx 1 v36x6 (σ4 8)) fun v38x7 =>
    ob (vLoad v38x7 H4) fun v39x8 =>
    K v39x8 H4) fun J4 =>
  ob (vFa 1 v3x1) fun v13x9 =>
  ob (vLoad v13x9 H2) fun v14x10 =>
  ob (vInt .sub a2 v14x10) fun v15x11 =>
  lpE (fun Q12 σ12 H12 =>
    ob (vFa 1 (σ12 3)) fun v18x13 =>
    ob (vLoad v18x13 H12) fun v19x14 =>
    ob (vInt .add (σ12 2) v19x14) fun v20x15 =>
    ob (vInt .leq (σ12 9) v20x15) fun v21x16 =>
    cnd v21x16
      (ob (vFa 0 (σ12 3)) fun v25x17 =>
    ob (vLoad v25x17 H12) fun v26x18 =>
    ob (vInt .mul (σ12 8) v26x18) fun v27x19 =>
    HT prg I.impl_floorMod [(σ12 9), (σ12 7)].toArray H12 fun v31x20 H21 =>
    Le H12 H21 ∧ (ob (vIx 1 (σ12 1) v31x20) fun v32x22 =>
    ob (vLoad v32x22 H21) fun v33x23 =>
    ob (vInt .add v27x19 v33x23) fun v34x24 =>
    ob (vInt .add (σ12 9) (.int .i64 1)) fun v23x25 =>
    Q12 .normal (up (up (up (up (up (up (up (up (up (up (up (up (up (up (up (up (up (up (up (up (up σ12 16 (σ12 9)) 17 (σ12 2)) 18 v18x13) 19 v19x14) 20 v20x15) 21 v21x16) 24 (σ12 8)) 25 v25x17) 26 v26x18) 27 v27x19) 28 (σ12 1)) 29 (σ12 9)) 30 (σ12 7)) 31 v31x20) 32 v32x22) 33 v33x23) 34 v34x24) 8 v34x24) 22 (σ12 9)) 23 v23x25) 9 v23x25) H21))
      (Q12 (.exit 0) (up (up (up (up (up (up σ12 16 (σ12 9)) 17 (σ12 2)) 18 v18x13) 19 v19x14) 20 v20x15) 21 v21x16) H12)) (blkQ 0 (thenQ J4 (retQ prg [(.tmp 6)] K))) (up (up (up (up (up (up (up (up (up (up (up (S0 [a0, a1, a2]) 3 v3x1) 6 (.int .i64 0)) 10 a1) 11 v11x3) 7 v11x3) 8 (.int .i64 0)) 12 a2) 13 v13x9) 14 v14x10) 15 v15x11) 9 v15x11) H2
def O.impl_Rule_at : Nat → Nat × List Nat := fun i => bif Nat.beq i 6 then (0, [0, 1, 2, 3, 4, 5, 6, 7, 8, 9, 10, 11]) else (0, [])
theorem R.impl_Rule_at {a0 a1 a2 : Value} {H : Hp} {K : Value → Hp → Prop} (h : F.impl_Rule_at a0 a1 a2 H K) : HT prg I.impl_Rule_at [a0, a1, a2].toArray H K :=
  HT_of_fev O.impl_Rule_at mixed Try.func124 (by kernel_rfl) (Eq.mpr (by kernel_rfl : fev prg O.impl_Rule_at Try.f124 [a0, a1, a2] H K = F.impl_Rule_at a0 a1 a2 H K) h)

/-! (loop.example/g01381/impl.Rule).step: function 97 -/
def F.impl_Rule_step (a0 a1 : Value) (H : Hp) (K : Value → Hp → Prop) : Prop :=
  nw (a0 : Value).cells 28 H fun v2x1 H2 =>
  ob (vLenSl a1) fun v8x3 =>
  mkS 1 8 #[(.int .i64 0)] 2 v8x3 v8x3 H2 fun v9x4 H5 =>
  jn (fun σ6 H6 =>
    K (σ6 5) H6) fun J6 =>
  ob (vLenSl v9x4) fun v11x7 =>
  lpE (fun Q8 σ8 H8 =>
    ob (vInt .lss (σ8 12) (σ8 11)) fun v13x9 =>
    cnd v13x9
      (ob (vLoadN 3 (σ8 2) H8) fun v17x10 =>
    HT prg I.impl_Rule_at [v17x10, (σ8 1), (σ8 12)].toArray H8 fun v20x11 H12 =>
    ob (vIx 1 (σ8 5) (σ8 12)) fun v21x13 =>
    st 1 v21x13 v20x11 H12 fun H14 =>
    ob (vInt .add (σ8 12) (.int .i64 1)) fun v22x15 =>
    Q8 .normal (up (up (up (up (up (up (up (up (up (up (up (up σ8 13 v13x9) 14 (σ8 12)) 6 (σ8 12)) 15 (σ8 5)) 16 (σ8 12)) 17 v17x10) 18 (σ8 1)) 19 (σ8 12)) 20 v20x11) 21 v21x13) 22 v22x15) 12 v22x15) H14)
      (Q8 (.exit 0) (up σ8 13 v13x9) H8)) (blkQ 0 (thenQ J6 (retQ prg [(.tmp 4)] K))) (up (up (up (up (up (up (up (up (up (S0 [a0, a1]) 2 v2x1) 4 (.slice none 0 0)) 7 a1) 8 v8x3) 9 v9x4) 5 v9x4) 10 v9x4) 11 v11x7) 12 (.int .i64 0)) H5
def O.impl_Rule_step : Nat → Nat × List Nat := fun i => (0, [])
theorem R.impl_Rule_step {a0 a1 : Value} {H : Hp} {K : Value → Hp → Prop} (h : F.impl_Rule_step a0 a1 H K) : HT prg I.impl_Rule_step [a0, a1].toArray H K :=
  HT_of_fev O.impl_Rule_step mixed Try.func97 (by kernel_rfl) (Eq.mpr (by kernel_rfl : fev prg O.impl_Rule_step Try.f97 [a0, a1] H K = F.impl_Rule_step a0 a1 H K) h)

/-! loop.example/g01381/impl.digitsOf: function 98 -/
def F.impl_digitsOf (a0 a1 a2 : Value) (H : Hp) (K : Value → Hp → Prop) : Prop :=
  mkS 1 8 #[(.int .i64 0)] 2 a2 a2 H fun v10x1 H2 =>
  jn (fun σ3 H3 =>
    K (σ3 7) H3) fun J3 =>
  ob (vInt .sub a2 (.int .i64 1)) fun v12x4 =>
  lpE (fun Q5 σ5 H5 =>
    ob (vInt .geq (σ5 8) (.int .i64 0)) fun v14x6 =>
    cnd v14x6
      (ob (vInt .rem (σ5 0) (σ5 1)) fun v21x7 =>
    ob (vIx 1 (σ5 7) (σ5 8)) fun v22x8 =>
    st 1 v22x8 v21x7 H5 fun H9 =>
    ob (vInt .quo (σ5 0) (σ5 1)) fun v25x10 =>
    ob (vInt .sub (σ5 8) (.int .i64 1)) fun v16x11 =>
    Q5 .normal (up (up (up (up (up (up (up (up (up (up (up (up (up (up (up σ5 13 (σ5 8)) 14 v14x6) 17 (σ5 7)) 18 (σ5 8)) 19 (σ5 0)) 20 (σ5 1)) 21 v21x7) 22 v22x8) 23 (σ5 0)) 24 (σ5 1)) 25 v25x10) 0 v25x10) 15 (σ5 8)) 16 v16x11) 8 v16x11) H9)
      (Q5 (.exit 0) (up (up σ5 13 (σ5 8)) 14 v14x6) H5)) (blkQ 0 (thenQ J3 (retQ prg [(.tmp 6)] K))) (up (up (up (up (up (up (up (S0 [a0, a1, a2]) 6 (.slice none 0 0)) 9 a2) 10 v10x1) 7 v10x1) 11 a2) 12 v12x4) 8 v12x4) H2
def O.impl_digitsOf : Nat → Nat × List Nat := fun i => (0, [])
theorem R.impl_digitsOf {a0 a1 a2 : Value} {H : Hp} {K : Value → Hp → Prop} (h : F.impl_digitsOf a0 a1 a2 H K) : HT prg I.impl_digitsOf [a0, a1, a2].toArray H K :=
  HT_of_fev O.impl_digitsOf mixed Try.func98 (by kernel_rfl) (Eq.mpr (by kernel_rfl : fev prg O.impl_digitsOf Try.f98 [a0, a1, a2] H K = F.impl_digitsOf a0 a1 a2 H K) h)

/-! (loop.example/g01381/impl.Rule).steps: function 49 -/
def F.impl_Rule_steps (a0 a1 : Value) (H : Hp) (K : Value → Hp → Prop) : Prop :=
  nw (a0 : Value).cells 28 H fun v2x1 H2 =>
  bS 1 0 #[(.int .i64 0)] 2 [] H2 fun v7x3 H4 =>
  jn (fun σ5 H5 =>
    K (σ5 5) H5) fun J5 =>
  ob (vFa 0 v2x1) fun v8x6 =>
  ob (vLoad v8x6 H4) fun v9x7 =>
  HT prg I.impl_raised [v9x7, a1].toArray H4 fun v11x8 H9 =>
  lpE (fun Q10 σ10 H10 =>
    ob (vInt .lss (σ10 12) (σ10 11)) fun v13x11 =>
    cnd v13x11
      (ob (vLoadN 3 (σ10 2) H10) fun v16x12 =>
    ob (vFa 0 (σ10 2)) fun v18x13 =>
    ob (vLoad v18x13 H10) fun v19x14 =>
    ob (vFa 0 (σ10 2)) fun v23x15 =>
    ob (vLoad v23x15 H10) fun v24x16 =>
    HT prg I.impl_digitsOf [(σ10 12), v19x14, (σ10 1)].toArray H10 fun v21x17 H18 =>
    Le H10 H18 ∧ (HT prg I.impl_Rule_step [v16x12, v21x17].toArray H18 fun v22x19 H20 =>
    Le H18 H20 ∧ (HT prg I.impl_numberOf [v22x19, v24x16].toArray H20 fun v25x21 H22 =>
    Le H20 H22 ∧ (bS 1 1 #[(.int .i64 0)] 2 [(0, v25x21)] H22 fun v26x23 H24 =>
    apd 1 8 #[(.int .i64 0)] 2 (σ10 5) v26x23 H24 fun v27x25 H26 =>
    ob (vInt .add (σ10 12) (.int .i64 1)) fun v28x27 =>
    Q10 .normal (up (up (up (up (up (up (up (up (up (up (up (up (up (up (up (up (up (up (up σ10 13 v13x11) 14 (σ10 12)) 6 (σ10 12)) 15 (σ10 5)) 16 v16x12) 17 (σ10 12)) 18 v18x13) 19 v19x14) 20 (σ10 1)) 23 v23x15) 24 v24x16) 21 v21x17) 22 v22x19) 25 v25x21) 26 v26x23) 27 v27x25) 5 v27x25) 28 v28x27) 12 v28x27) H26))))
      (Q10 (.exit 0) (up σ10 13 v13x11) H10)) (blkQ 0 (thenQ J5 (retQ prg [(.tmp 4)] K))) (up (up (up (up (up (up (up (up (up (S0 [a0, a1]) 2 v2x1) 4 (.slice none 0 0)) 7 v7x3) 5 v7x3) 8 v8x6) 9 v9x7) 10 a1) 11 v11x8) 12 (.int .i64 0)) H9
def O.impl_Rule_steps : Nat → Nat × List Nat := fun i => bif Nat.beq i 5 then (0, [0, 1, 2, 3, 4, 5, 8, 9, 6, 7, 10, 11, 12, 13]) else (0, [])
theorem R.impl_Rule_steps {a0 a1 : Value} {H : Hp} {K : Value → Hp → Prop} (h : F.impl_Rule_steps a0 a1 H K) : HT prg I.impl_Rule_steps [a0, a1].toArray H K :=
  HT_of_fev O.impl_Rule_steps mixed Try.func49 (by kernel_rfl) (Eq.mpr (by kernel_rfl : fev prg O.impl_Rule_steps Try.f49 [a0, a1] H K = F.impl_Rule_steps a0 a1 H K) h)

/-! (loop.example/g01381/impl.Rule).inCycles: function 50 -/
def F.impl_Rule_inCycles (a0 a1 : Value) (H : Hp) (K : Value → Hp → Prop) : Prop :=
  nw (a0 : Value).cells 28 H fun v2x1 H2 =>
  ob (vLenSl a1) fun v13x3 =>
  mkS 1 8 #[(.int .i64 0)] 2 v13x3 v13x3 H2 fun v14x4 H5 =>
  ob (vLenSl a1) fun v16x6 =>
  ob (vLenSl a1) fun v19x7 =>
  mkS 1 8 #[(.int .i64 0)] 2 v16x6 v16x6 H5 fun v17x8 H9 =>
  mkS 1 8 #[(.int .i64 0)] 2 v19x7 v19x7 H9 fun v20x10 H11 =>
  jn (fun σ12 H12 =>
    K (σ12 5) H12) fun J12 =>
  ob (vLenSl a1) fun v22x13 =>
  lpE (fun Q14 σ14 H14 =>
    ob (vInt .lss (σ14 23) (σ14 22)) fun v24x15 =>
    cnd v24x15
      (jn (fun σ16 H16 =>
      ob (vInt .add (σ16 23) (.int .i64 1)) fun v73x17 =>
      Q14 .normal (up (up σ16 73 v73x17) 23 v73x17) H16) fun J16 =>
    jn (fun σ18 H18 =>
      ob (vIx 1 (σ18 6) (σ18 9)) fun v49x19 =>
      ob (vLoad v49x19 H18) fun v50x20 =>
      ob (vInt .add (σ18 8) (.int .i64 1)) fun v52x21 =>
      ob (vInt .neq v50x20 v52x21) fun v53x22 =>
      cnd v53x22
        (J16 (up (up (up (up (up (up (up σ18 47 (σ18 6)) 48 (σ18 9)) 49 v49x19) 50 v50x20) 51 (σ18 8)) 52 v52x21) 53 v53x22) H18)
        (ob (vIx 1 (σ18 7) (σ18 9)) fun v57x23 =>
      ob (vLoad v57x23 H18) fun v58x24 =>
      ob (vInt .sub (σ18 10) v58x24) fun v59x25 =>
      lpE (fun Q26 σ26 H26 =>
        ob (vIx 1 (σ26 5) (σ26 9)) fun v63x27 =>
        st 1 v63x27 (σ26 11) H26 fun H28 =>
        ob (vIx 1 (σ26 1) (σ26 9)) fun v66x29 =>
        ob (vLoad v66x29 H28) fun v67x30 =>
        ob (vIx 1 (σ26 5) v67x30) fun v70x31 =>
        ob (vLoad v70x31 H28) fun v71x32 =>
        ob (vInt .neq v71x32 (.int .i64 0)) fun v72x33 =>
        cnd v72x33
          (Q26 (.exit 4) (up (up (up (up (up (up (up (up (up (up (up (up (up (up σ26 60 (σ26 5)) 61 (σ26 9)) 62 (σ26 11)) 63 v63x27) 64 (σ26 1)) 65 (σ26 9)) 66 v66x29) 67 v67x30) 9 v67x30) 68 (σ26 5)) 69 v67x30) 70 v70x31) 71 v71x32) 72 v72x33) H28)
          (Q26 .normal (up (up (up (up (up (up (up (up (up (up (up (up (up (up σ26 60 (σ26 5)) 61 (σ26 9)) 62 (σ26 11)) 63 v63x27) 64 (σ26 1)) 65 (σ26 9)) 66 v66x29) 67 v67x30) 9 v67x30) 68 (σ26 5)) 69 v67x30) 70 v70x31) 71 v71x32) 72 v72x33) H28)) (blkQ 4 (blkQ 1 (thenQ J16 Q14))) (up (up (up (up (up (up (up (up (up (up (up (up (up (up σ18 47 (σ18 6)) 48 (σ18 9)) 49 v49x19) 50 v50x20) 51 (σ18 8)) 52 v52x21) 53 v53x22) 54 (σ18 10)) 55 (σ18 7)) 56 (σ18 9)) 57 v57x23) 58 v58x24) 59 v59x25) 11 v59x25) H18)) fun J18 =>
    lpE (fun Q34 σ34 H34 =>
      ob (vIx 1 (σ34 6) (σ34 9)) fun v29x35 =>
      ob (vLoad v29x35 H34) fun v30x36 =>
      ob (vInt .eql v30x36 (.int .i64 0)) fun v31x37 =>
      cnd v31x37
        (ob (vInt .add (σ34 8) (.int .i64 1)) fun v37x38 =>
      ob (vIx 1 (σ34 6) (σ34 9)) fun v39x39 =>
      st 1 v39x39 v37x38 H34 fun H40 =>
      ob (vIx 1 (σ34 7) (σ34 9)) fun v40x41 =>
      st 1 v40x41 (σ34 10) H40 fun H42 =>
      ob (vIx 1 (σ34 1) (σ34 9)) fun v43x43 =>
      ob (vLoad v43x43 H42) fun v44x44 =>
      ob (vInt .add (σ34 10) (.int .i64 1)) fun v46x45 =>
      Q34 .normal (up (up (up (up (up (up (up (up (up (up (up (up (up (up (up (up (up (up (up (up (up (up σ34 27 (σ34 6)) 28 (σ34 9)) 29 v29x35) 30 v30x36) 31 v31x37) 32 (σ34 6)) 33 (σ34 9)) 34 (σ34 7)) 35 (σ34 9)) 36 (σ34 8)) 37 v37x38) 38 (σ34 10)) 39 v39x39) 40 v40x41) 41 (σ34 1)) 42 (σ34 9)) 43 v43x43) 44 v44x44) 9 v44x44) 45 (σ34 10)) 46 v46x45) 10 v46x45) H42)
        (Q34 (.exit 2) (up (up (up (up (up σ34 27 (σ34 6)) 28 (σ34 9)) 29 v29x35) 30 v30x36) 31 v31x37) H34)) (blkQ 2 (thenQ J18 (blkQ 1 (thenQ J16 Q14)))) (up (up (up (up (up (up σ14 24 v24x15) 25 (σ14 23)) 8 (σ14 23)) 26 (σ14 23)) 9 (σ14 23)) 10 (.int .i64 0)) H14)
      (Q14 (.exit 0) (up σ14 24 v24x15) H14)) (blkQ 0 (thenQ J12 (retQ prg [(.tmp 4)] K))) (up (up (up (up (up (up (up (up (up (up (up (up (up (up (up (up (up (S0 [a0, a1]) 2 v2x1) 4 (.slice none 0 0)) 12 a1) 13 v13x3) 14 v14x4) 5 v14x4) 15 a1) 16 v16x6) 18 a1) 19 v19x7) 17 v17x8) 6 v17x8) 20 v20x10) 7 v20x10) 21 a1) 22 v22x13) 23 (.int .i64 0)) H11
def O.impl_Rule_inCycles : Nat → Nat × List Nat := fun i => bif Nat.beq i 2 then (0, [0, 1, 3, 4, 2, 6, 5, 7]) else (0, [])
theorem R.impl_Rule_inCycles {a0 a1 : Value} {H : Hp} {K : Value → Hp → Prop} (h : F.impl_Rule_inCycles a0 a1 H K) : HT prg I.impl_Rule_inCycles [a0, a1].toArray H K :=
  HT_of_fev O.impl_Rule_inCycles mixed Try.func50 (by kernel_rfl) (Eq.mpr (by kernel_rfl : fev prg O.impl_Rule_inCycles Try.f50 [a0, a1] H K = F.impl_Rule_inCycles a0 a1 H K) h)

/-! math/bits.Mul64: function 126 -/
def F.math_bits_Mul64 (a0 a1 : Value) (H : Hp) (K : Value → Hp → Prop) : Prop :=
  ob (vInt .and a0 (.int .u64 4294967295)) fun v15x1 =>
  ob (vInt .shr a0 (.int .u64 32)) fun v17x2 =>
  ob (vInt .and a1 (.int .u64 4294967295)) fun v19x3 =>
  ob (vInt .shr a1 (.int .u64 32)) fun v21x4 =>
  ob (vInt .mul v15x1 v19x3) fun v24x5 =>
  ob (vInt .mul v17x2 v19x3) fun v27x6 =>
  ob (vInt .shr v24x5 (.int .u64 32)) fun v29x7 =>
  ob (vInt .add v27x6 v29x7) fun v30x8 =>
  ob (vInt .and v30x8 (.int .u64 4294967295)) fun v32x9 =>
  ob (vInt .shr v30x8 (.int .u64 32)) fun v34x10 =>
  ob (vInt .mul v15x1 v21x4) fun v38x11 =>
  ob (vInt .add v32x9 v38x11) fun v39x12 =>
  ob (vInt .mul v17x2 v21x4) fun v42x13 =>
  ob (vInt .add v42x13 v34x10) fun v44x14 =>
  ob (vInt .shr v39x12 (.int .u64 32)) fun v46x15 =>
  ob (vInt .add v44x14 v46x15) fun v47x16 =>
  ob (vInt .mul a0 a1) fun v50x17 =>
  K (.tuple #[v47x16, v50x17]) H
def O.math_bits_Mul64 : Nat → Nat × List Nat := fun i => (0, [])
theorem R.math_bits_Mul64 {a0 a1 : Value} {H : Hp} {K : Value → Hp → Prop} (h : F.math_bits_Mul64 a0 a1 H K) : HT prg I.math_bits_Mul64 [a0, a1].toArray H K :=
  HT_of_fev O.math_bits_Mul64 mixed Try.func126 (by kernel_rfl) (Eq.mpr (by kernel_rfl : fev prg O.math_bits_Mul64 Try.f126 [a0, a1] H K = F.math_bits_Mul64 a0 a1 H K) h)

/-! math/bits.Mul: function 99 -/
def F.math_bits_Mul (a0 a1 : Value) (H : Hp) (K : Value → Hp → Prop) : Prop :=
  cnd (.bool false)
    (ob (vCI .u32 a0) fun v12x1 =>
    ob (vCI .u32 a1) fun v14x2 =>
    HT prg I.math_bits_Mul32 [v12x1, v14x2].toArray H fun v15x3 H4 =>
    ob (vExt v15x3 0) fun v16x5 =>
    ob (vExt v15x3 1) fun v17x6 =>
    ob (vCI .u64 v16x5) fun v19x7 =>
    ob (vCI .u64 v17x6) fun v21x8 =>
    K (.tuple #[v19x7, v21x8]) H4)
    (HT prg I.math_bits_Mul64 [a0, a1].toArray H fun v25x9 H10 =>
  ob (vExt v25x9 0) fun v26x11 =>
  ob (vExt v25x9 1) fun v27x12 =>
  K (.tuple #[v26x11, v27x12]) H10)
def O.math_bits_Mul : Nat → Nat × List Nat := fun i => (0, [])
theorem R.math_bits_Mul {a0 a1 : Value} {H : Hp} {K : Value → Hp → Prop} (h : F.math_bits_Mul a0 a1 H K) : HT prg I.math_bits_Mul [a0, a1].toArray H K :=
  HT_of_fev O.math_bits_Mul mixed Try.func99 (by kernel_rfl) (Eq.mpr (by kernel_rfl : fev prg O.math_bits_Mul Try.f99 [a0, a1] H K = F.math_bits_Mul a0 a1 H K) h)

/-! slices.Repeat[[]int64,int64]: function 51 -/
def F.slices_Repeat_int64Zint64 (a0 a1 : Value) (H : Hp) (K : Value → Hp → Prop) : Prop :=
  jn (fun σ1 H1 =>
    ob (vLenSl (σ1 0)) fun v14x2 =>
    ob (vCI .u64 v14x2) fun v15x3 =>
    ob (vCI .u64 (σ1 1)) fun v17x4 =>
    HT prg I.math_bits_Mul [v15x3, v17x4].toArray H1 fun v18x5 H6 =>
    ob (vExt v18x5 0) fun v19x7 =>
    ob (vExt v18x5 1) fun v20x8 =>
    jn (fun σ9 H9 =>
      ob (vCI .i64 (σ9 6)) fun v29x10 =>
      mkS 1 8 #[(.int .i64 0)] 2 v29x10 v29x10 H9 fun v30x11 H12 =>
      hp prg (builtin .copy #[22, 22] 3 #[false, false] [v30x11, (σ9 0)].toArray) H12 (nextH prg (fun v33x13 H14 =>
      jn (fun σ15 H15 =>
        K (σ15 7) H15) fun J15 =>
      lpE (fun Q16 σ16 H16 =>
        ob (vLenSl (σ16 7)) fun v36x17 =>
        ob (vInt .lss (σ16 8) v36x17) fun v37x18 =>
        cnd v37x18
          (ob (vSl3 1 (σ16 7) (some (σ16 8)) none none) fun v41x19 =>
        ob (vSl3 1 (σ16 7) none (some (σ16 8)) none) fun v44x20 =>
        hp prg (builtin .copy #[22, 22] 3 #[false, false] [v41x19, v44x20].toArray) H16 (nextH prg (fun v45x21 H22 =>
        ob (vInt .add (σ16 8) v45x21) fun v46x23 =>
        Q16 .normal (up (up (up (up (up (up (up (up (up (up (up (up (up (up σ16 34 (σ16 8)) 35 (σ16 7)) 36 v36x17) 37 v37x18) 38 (σ16 8)) 39 (σ16 7)) 40 (σ16 8)) 41 v41x19) 42 (σ16 7)) 43 (σ16 8)) 44 v44x20) 45 v45x21) 46 v46x23) 8 v46x23) H22)))
          (Q16 (.exit 0) (up (up (up (up σ16 34 (σ16 8)) 35 (σ16 7)) 36 v36x17) 37 v37x18) H16)) (blkQ 0 (thenQ J15 (retQ prg [(.tmp 4)] K))) (up (up (up (up (up (up (up (up σ9 28 (σ9 6)) 29 v29x10) 30 v30x11) 7 v30x11) 31 v30x11) 32 (σ9 0)) 33 v33x13) 8 v33x13) H14))) fun J9 =>
    ob (vInt .gtr v19x7 (.int .u64 0)) fun v22x24 =>
    gop v22x24 false (fun K25 => K25 v20x8 H6) H6 fun v24x26 H27 =>
    gop v22x24 false (fun K28 => ob (vInt .gtr v24x26 (.int .u64 9223372036854775807)) fun u => K28 u H27) H27 fun v25x29 H30 =>
    ob (vPick v22x24 (.bool true) v25x29) fun v26x31 =>
    cnd v26x31
      (ob (val prg (Instr.makeInterface 9 (.string ⟨#[116, 104, 101, 32, 114, 101, 115, 117, 108, 116, 32, 111, 102, 32, 40, 108, 101, 110, 40, 120, 41, 32, 42, 32, 99, 111, 117, 110, 116, 41, 32, 111, 118, 101, 114, 102, 108, 111, 119, 115]⟩)) H30) fun v27x32 =>
      hp prg (do pure (Next.value (← Instr.panic v27x32))) H30 (nextH prg (fun _ H33 =>
      J9 (up (up (up (up (up (up (up (up (up (up (up (up (up (up (up (up (up (up σ1 13 (σ1 0)) 14 v14x2) 15 v15x3) 16 (σ1 1)) 17 v17x4) 18 v18x5) 12 v18x5) 19 v19x7) 20 v20x8) 5 v19x7) 6 v20x8) 21 v19x7) 22 v22x24) 23 v22x24) 24 v24x26) 25 v25x29) 26 v26x31) 27 v27x32) H33)))
      (J9 (up (up (up (up (up (up (up (up (up (up (up (up (up (up (up (up (up σ1 13 (σ1 0)) 14 v14x2) 15 v15x3) 16 (σ1 1)) 17 v17x4) 18 v18x5) 12 v18x5) 19 v19x7) 20 v20x8) 5 v19x7) 6 v20x8) 21 v19x7) 22 v22x24) 23 v22x24) 24 v24x26) 25 v25x29) 26 v26x31) H30)) fun J1 =>
  ob (vInt .lss a1 (.int .i64 0)) fun v10x34 =>
  cnd v10x34
    (ob (val prg (Instr.makeInterface 9 (.string ⟨#[99, 97, 110, 110, 111, 116, 32, 98, 101, 32, 110, 101, 103, 97, 116, 105, 118, 101]⟩)) H) fun v11x35 =>
    hp prg (do pure (Next.value (← Instr.panic v11x35))) H (nextH prg (fun _ H36 =>
    J1 (up (up (up (up (S0 [a0, a1]) 4 (.slice none 0 0)) 9 a1) 10 v10x34) 11 v11x35) H36)))
    (J1 (up (up (up (S0 [a0, a1]) 4 (.slice none 0 0)) 9 a1) 10 v10x34) H)
def O.slices_Repeat_int64Zint64 : Nat → Nat × List Nat := fun i => bif Nat.beq i 9 then (0, [0, 1, 2, 3, 4, 5, 6, 7, 8, 9]) else (0, [])
theorem R.slices_Repeat_int64Zint64 {a0 a1 : Value} {H : Hp} {K : Value → Hp → Prop} (h : F.slices_Repeat_int64Zint64 a0 a1 H K) : HT prg I.slices_Repeat_int64Zint64 [a0, a1].toArray H K :=
  HT_of_fev O.slices_Repeat_int64Zint64 mixed Try.func51 (by kernel_rfl) (Eq.mpr (by kernel_rfl : fev prg O.slices_Repeat_int64Zint64 Try.f51 [a0, a1] H K = F.slices_Repeat_int64Zint64 a0 a1 H K) h)

/-! slices.Backward[[]int64,int64]$1: function 100 -/
def F.slices_Backward_int64Zint64Z1 (a0 a1 : Value) (H : Hp) (K : Value → Hp → Prop) : Prop :=
  ob (vLoad a1 H) fun v4x1 =>
  ob (vLenSl v4x1) fun v5x2 =>
  ob (vInt .sub v5x2 (.int .i64 1)) fun v6x3 =>
  lpE (fun Q4 σ4 H4 =>
    ob (vInt .geq (σ4 3) (.int .i64 0)) fun v8x5 =>
    cnd v8x5
      (ob (vLoad (σ4 1) H4) fun v13x6 =>
    ob (vIx 1 v13x6 (σ4 3)) fun v15x7 =>
    ob (vLoad v15x7 H4) fun v16x8 =>
    callV prg (σ4 0) [(σ4 3), v16x8] H4 fun v17x9 H10 =>
    ob (vUn .not v17x9) fun v18x11 =>
    cnd v18x11
      (Q4 .ret (up (up (up (up (up (up (up (up (up (up σ4 7 (σ4 3)) 8 v8x5) 11 (σ4 0)) 12 (σ4 3)) 13 v13x6) 14 (σ4 3)) 15 v15x7) 16 v16x8) 17 v17x9) 18 v18x11) H10)
      (ob (vInt .sub (σ4 3) (.int .i64 1)) fun v10x12 =>
    Q4 .normal (up (up (up (up (up (up (up (up (up (up (up (up (up σ4 7 (σ4 3)) 8 v8x5) 11 (σ4 0)) 12 (σ4 3)) 13 v13x6) 14 (σ4 3)) 15 v15x7) 16 v16x8) 17 v17x9) 18 v18x11) 9 (σ4 3)) 10 v10x12) 3 v10x12) H10))
      (Q4 (.exit 0) (up (up σ4 7 (σ4 3)) 8 v8x5) H4)) (blkQ 0 (retQ prg [] K)) (up (up (up (up (S0 [a0, a1]) 4 v4x1) 5 v5x2) 6 v6x3) 3 v6x3) H
def O.slices_Backward_int64Zint64Z1 : Nat → Nat × List Nat := fun i => (0, [])
theorem R.slices_Backward_int64Zint64Z1 {a0 a1 : Value} {H : Hp} {K : Value → Hp → Prop} (h : F.slices_Backward_int64Zint64Z1 a0 a1 H K) : HT prg I.slices_Backward_int64Zint64Z1 [a0, a1].toArray H K :=
  HT_of_fev O.slices_Backward_int64Zint64Z1 mixed Try.func100 (by kernel_rfl) (Eq.mpr (by kernel_rfl : fev prg O.slices_Backward_int64Zint64Z1 Try.f100 [a0, a1] H K = F.slices_Backward_int64Zint64Z1 a0 a1 H K) h)

/-! slices.Backward[[]int64,int64]: function 52 -/
def F.slices_Backward_int64Zint64 (a0 : Value) (H : Hp) (K : Value → Hp → Prop) : Prop :=
  nw (a0 : Value).cells 22 H fun v1x1 H2 =>
  K (.func (.func I.slices_Backward_int64Zint64Z1) #[] #[v1x1]) H2
def O.slices_Backward_int64Zint64 : Nat → Nat × List Nat := fun i => (0, [])
theorem R.slices_Backward_int64Zint64 {a0 : Value} {H : Hp} {K : Value → Hp → Prop} (h : F.slices_Backward_int64Zint64 a0 H K) : HT prg I.slices_Backward_int64Zint64 [a0].toArray H K :=
  HT_of_fev O.slices_Backward_int64Zint64 mixed Try.func52 (by kernel_rfl) (Eq.mpr (by kernel_rfl : fev prg O.slices_Backward_int64Zint64 Try.f52 [a0] H K = F.slices_Backward_int64Zint64 a0 H K) h)

/-! loop.example/g01381/impl.DepthOf: function 11 -/
def F.impl_DepthOf (a0 a1 : Value) (H : Hp) (K : Value → Hp → Prop) : Prop :=
  nw (a0 : Value).cells 28 H fun v2x1 H2 =>
  ob (vLoadN 3 v2x1 H2) fun v16x3 =>
  HT prg I.impl_small [v16x3, a1].toArray H2 fun v18x4 H5 =>
  ob (vUn .not v18x4) fun v19x6 =>
  cnd v19x6
    (K (.tuple #[(.int .i64 0), (.bool false)]) H5)
    (ob (vLoadN 3 v2x1 H5) fun v20x7 =>
  HT prg I.impl_Rule_steps [v20x7, a1].toArray H5 fun v22x8 H9 =>
  ob (vLoadN 3 v2x1 H9) fun v23x10 =>
  HT prg I.impl_Rule_inCycles [v23x10, v22x8].toArray H9 fun v25x11 H12 =>
  bS 1 1 #[(.int .i64 0)] 2 [(0, (.int .i64 (-1)))] H12 fun v26x13 H14 =>
  ob (vLenSl v22x8) fun v28x15 =>
  HT prg I.slices_Repeat_int64Zint64 [v26x13, v28x15].toArray H14 fun v29x16 H17 =>
  nw #[(.slice none 0 0)] 22 H17 fun v8x18 H19 =>
  st 1 v8x18 v29x16 H19 fun H20 =>
  jn (fun σ21 H21 =>
    K (.tuple #[(σ21 9), (.bool true)]) H21) fun J21 =>
  ob (vLenSl v22x8) fun v31x22 =>
  lpE (fun Q23 σ23 H23 =>
    ob (vInt .lss (σ23 32) (σ23 31)) fun v33x24 =>
    cnd v33x24
      (jn (fun σ25 H25 =>
      ob (vInt .add (σ25 32) (.int .i64 1)) fun v75x26 =>
      Q23 .normal (up (up σ25 75 v75x26) 32 v75x26) H25) fun J25 =>
    bS 1 0 #[(.int .i64 0)] 2 [] H23 fun v35x27 H28 =>
    jn (fun σ29 H29 =>
      ob (vLoad (σ29 8) H29) fun v57x30 =>
      ob (vIx 1 v57x30 (σ29 12)) fun v59x31 =>
      ob (vLoad v59x31 H29) fun v60x32 =>
      ob (vMx true (.int .i64 0) [v60x32]) fun v61x33 =>
      nw #[(.int .i64 0)] 2 H29 fun v13x34 H35 =>
      st 1 v13x34 v61x33 H35 fun H36 =>
      jn (fun σ37 H37 =>
        ob (vLoad (σ37 13) H37) fun v73x38 =>
        ob (vMx true (σ37 9) [v73x38]) fun v74x39 =>
        J25 (up (up (up (up σ37 72 (σ37 9)) 73 v73x38) 74 v74x39) 9 v74x39) H37) fun J37 =>
      HT prg I.slices_Backward_int64Zint64 [(σ29 11)].toArray H36 fun v63x40 H41 =>
      rgE prg v63x40 [64, 65] (fun Q42 σ42 H42 =>
        ob (vLoad (σ42 13) H42) fun v66x43 =>
        ob (vInt .add v66x43 (.int .i64 1)) fun v67x44 =>
        st 1 (σ42 13) v67x44 H42 fun H45 =>
        ob (vLoad (σ42 8) H45) fun v68x46 =>
        ob (vLoad (σ42 13) H45) fun v70x47 =>
        ob (vIx 1 v68x46 (σ42 65)) fun v71x48 =>
        st 1 v71x48 v70x47 H45 fun H49 =>
        Q42 .normal (up (up (up (up (up (up (up σ42 15 (σ42 65)) 66 v66x43) 67 v67x44) 68 v68x46) 69 (σ42 65)) 70 v70x47) 71 v71x48) H49) (blkQ 4 (thenQ J37 (blkQ 1 (thenQ J25 Q23)))) (up (up (up (up (up (up (up (up σ29 57 v57x30) 58 (σ29 12)) 59 v59x31) 60 v60x32) 61 v61x33) 13 v13x34) 62 (σ29 11)) 63 v63x40) H41) fun J29 =>
    lpE (fun Q50 σ50 H50 =>
      ob (vIx 1 (σ50 7) (σ50 12)) fun v39x51 =>
      ob (vLoad v39x51 H50) fun v40x52 =>
      ob (vInt .eql v40x52 (.int .i64 0)) fun v41x53 =>
      gop v41x53 true (fun K54 => ob (vLoad (σ50 8) H50) fun u => K54 u H50) H50 fun v43x55 H56 =>
      gop v41x53 true (fun K57 => K57 (σ50 12) H56) H56 fun v44x58 H59 =>
      gop v41x53 true (fun K60 => ob (vIx 1 v43x55 v44x58) fun u => K60 u H59) H59 fun v45x61 H62 =>
      gop v41x53 true (fun K63 => ob (vLoad v45x61 H62) fun u => K63 u H62) H62 fun v46x64 H65 =>
      gop v41x53 true (fun K66 => ob (vInt .lss v46x64 (.int .i64 0)) fun u => K66 u H65) H65 fun v47x67 H68 =>
      ob (vPick v41x53 v47x67 (.bool false)) fun v48x69 =>
      cnd v48x69
        (bS 1 1 #[(.int .i64 0)] 2 [(0, (σ50 12))] H68 fun v51x70 H71 =>
      apd 1 8 #[(.int .i64 0)] 2 (σ50 11) v51x70 H71 fun v52x72 H73 =>
      ob (vIx 1 (σ50 6) (σ50 12)) fun v55x74 =>
      ob (vLoad v55x74 H73) fun v56x75 =>
      Q50 .normal (up (up (up (up (up (up (up (up (up (up (up (up (up (up (up (up (up (up (up (up (up (up σ50 37 (σ50 7)) 38 (σ50 12)) 39 v39x51) 40 v40x52) 41 v41x53) 42 v41x53) 43 v43x55) 44 v44x58) 45 v45x61) 46 v46x64) 47 v47x67) 48 v48x69) 49 (σ50 11)) 50 (σ50 12)) 51 v51x70) 52 v52x72) 11 v52x72) 53 (σ50 6)) 54 (σ50 12)) 55 v55x74) 56 v56x75) 12 v56x75) H73)
        (Q50 (.exit 2) (up (up (up (up (up (up (up (up (up (up (up (up σ50 37 (σ50 7)) 38 (σ50 12)) 39 v39x51) 40 v40x52) 41 v41x53) 42 v41x53) 43 v43x55) 44 v44x58) 45 v45x61) 46 v46x64) 47 v47x67) 48 v48x69) H68)) (blkQ 2 (thenQ J29 (blkQ 1 (thenQ J25 Q23)))) (up (up (up (up (up (up (up σ23 33 v33x24) 34 (σ23 32)) 10 (σ23 32)) 35 v35x27) 11 v35x27) 36 (σ23 32)) 12 (σ23 32)) H28)
      (Q23 (.exit 0) (up σ23 33 v33x24) H23)) (blkQ 0 (thenQ J21 (retQ prg [(.tmp 4), (.tmp 5)] K))) (up (up (up (up (up (up (up (up (up (up (up (up (up (up (up (up (up (up (up (up (up (up (up (up (S0 [a0, a1]) 2 v2x1) 4 (.int .i64 0)) 5 (.bool false)) 16 v16x3) 17 a1) 18 v18x4) 19 v19x6) 20 v20x7) 21 a1) 22 v22x8) 6 v22x8) 23 v23x10) 24 v22x8) 25 v25x11) 7 v25x11) 26 v26x13) 27 v22x8) 28 v28x15) 29 v29x16) 8 v8x18) 9 (.int .i64 0)) 30 v22x8) 31 v31x22) 32 (.int .i64 0)) H20)
def O.impl_DepthOf : Nat → Nat × List Nat := fun i => (0, [])
theorem R.impl_DepthOf {a0 a1 : Value} {H : Hp} {K : Value → Hp → Prop} (h : F.impl_DepthOf a0 a1 H K) : HT prg I.impl_DepthOf [a0, a1].toArray H K :=
  HT_of_fev O.impl_DepthOf mixed Try.func11 (by kernel_rfl) (Eq.mpr (by kernel_rfl : fev prg O.impl_DepthOf Try.f11 [a0, a1] H K = F.impl_DepthOf a0 a1 H K) h)

/-! loop.example/g01381/spec.CyclesOf: function 13 -/
def F.spec_CyclesOf (a0 a1 : Value) (H : Hp) (K : Value → Hp → Prop) : Prop :=
  nw (a0 : Value).cells 28 H fun v2x1 H2 =>
  HT prg I.spec_l03Small [v2x1, a1, (.int .i64 12), (.int .i64 8)].toArray H2 fun v14x3 H4 =>
  ob (vUn .not v14x3) fun v15x5 =>
  cnd v15x5
    (K (.tuple #[(.slice none 0 0), (.int .i64 0), (.bool false)]) H4)
    (HT prg I.spec_l03Steps [v2x1, a1].toArray H4 fun v17x6 H7 =>
  HT prg I.spec_l03Cycles [v17x6].toArray H7 fun v18x8 H9 =>
  ob (vLenSl v18x8) fun v20x10 =>
  ob (vInt .add v20x10 (.int .i64 1)) fun v21x11 =>
  mkS 1 8 #[(.int .i64 0)] 2 v21x11 v21x11 H9 fun v22x12 H13 =>
  jn (fun σ14 H14 =>
    bS 1 0 #[(.int .i64 0)] 2 [] H14 fun v45x15 H16 =>
    jn (fun σ17 H17 =>
      K (.tuple #[(σ17 11), (σ17 9), (.bool true)]) H17) fun J17 =>
    ob (vLenSl (σ14 8)) fun v47x18 =>
    lpE (fun Q19 σ19 H19 =>
      ob (vInt .lss (σ19 48) (σ19 47)) fun v49x20 =>
      cnd v49x20
        (ob (vIx 1 (σ19 8) (σ19 48)) fun v53x21 =>
      ob (vLoad v53x21 H19) fun v54x22 =>
      ob (vInt .gtr v54x22 (.int .i64 0)) fun v55x23 =>
      cnd v55x23
        (ob (vIx 1 (σ19 8) (σ19 48)) fun v60x24 =>
        ob (vLoad v60x24 H19) fun v61x25 =>
        bS 1 2 #[(.int .i64 0)] 2 [(0, (σ19 48)), (1, v61x25)] H19 fun v62x26 H27 =>
        apd 1 8 #[(.int .i64 0)] 2 (σ19 11) v62x26 H27 fun v63x28 H29 =>
        ob (vInt .add (σ19 48) (.int .i64 1)) fun v64x30 =>
      Q19 .normal (up (up (up (up (up (up (up (up (up (up (up (up (up (up (up (up (up (up (up σ19 49 v49x20) 50 (σ19 48)) 12 (σ19 48)) 51 (σ19 8)) 52 (σ19 48)) 53 v53x21) 54 v54x22) 55 v55x23) 56 (σ19 11)) 57 (σ19 48)) 58 (σ19 8)) 59 (σ19 48)) 60 v60x24) 61 v61x25) 62 v62x26) 63 v63x28) 11 v63x28) 64 v64x30) 48 v64x30) H29)
        (ob (vInt .add (σ19 48) (.int .i64 1)) fun v64x31 =>
      Q19 .normal (up (up (up (up (up (up (up (up (up (up σ19 49 v49x20) 50 (σ19 48)) 12 (σ19 48)) 51 (σ19 8)) 52 (σ19 48)) 53 v53x21) 54 v54x22) 55 v55x23) 64 v64x31) 48 v64x31) H19))
        (Q19 (.exit 2) (up σ19 49 v49x20) H19)) (blkQ 2 (thenQ J17 (retQ prg [(.tmp 4), (.tmp 5), (.tmp 6)] K))) (up (up (up (up (up σ14 45 v45x15) 11 v45x15) 46 (σ14 8)) 47 v47x18) 48 (.int .i64 0)) H16) fun J14 =>
  ob (vLenSl v18x8) fun v24x32 =>
  lpE (fun Q33 σ33 H33 =>
    ob (vInt .lss (σ33 25) (σ33 24)) fun v26x34 =>
    cnd v26x34
      (ob (vIx 1 (σ33 7) (σ33 25)) fun v30x35 =>
    ob (vLoad v30x35 H33) fun v31x36 =>
    ob (vInt .gtr v31x36 (.int .i64 0)) fun v32x37 =>
    cnd v32x37
      (ob (vIx 1 (σ33 7) (σ33 25)) fun v36x38 =>
      ob (vLoad v36x38 H33) fun v37x39 =>
      ob (vIx 1 (σ33 8) v37x39) fun v38x40 =>
      ob (vLoad v38x40 H33) fun v39x41 =>
      ob (vInt .add v39x41 (.int .i64 1)) fun v40x42 =>
      ob (vIx 1 (σ33 8) v37x39) fun v41x43 =>
      st 1 v41x43 v40x42 H33 fun H44 =>
      ob (vInt .add (σ33 9) (.int .i64 1)) fun v43x45 =>
      ob (vInt .add (σ33 25) (.int .i64 1)) fun v44x46 =>
    Q33 .normal (up (up (up (up (up (up (up (up (up (up (up (up (up (up (up (up (up (up (up (up (up (up σ33 26 v26x34) 27 (σ33 25)) 10 (σ33 25)) 28 (σ33 7)) 29 (σ33 25)) 30 v30x35) 31 v31x36) 32 v32x37) 33 (σ33 8)) 34 (σ33 7)) 35 (σ33 25)) 36 v36x38) 37 v37x39) 38 v38x40) 39 v39x41) 40 v40x42) 41 v41x43) 42 (σ33 9)) 43 v43x45) 9 v43x45) 44 v44x46) 25 v44x46) H44)
      (ob (vInt .add (σ33 25) (.int .i64 1)) fun v44x47 =>
    Q33 .normal (up (up (up (up (up (up (up (up (up (up σ33 26 v26x34) 27 (σ33 25)) 10 (σ33 25)) 28 (σ33 7)) 29 (σ33 25)) 30 v30x35) 31 v31x36) 32 v32x37) 44 v44x47) 25 v44x47) H33))
      (Q33 (.exit 0) (up σ33 26 v26x34) H33)) (blkQ 0 (thenQ J14 (retQ prg [(.tmp 4), (.tmp 5), (.tmp 6)] K))) (up (up (up (up (up (up (up (up (up (up (up (up (up (up (up (up (up (up (up (up (S0 [a0, a1]) 2 v2x1) 4 (.slice none 0 0)) 5 (.int .i64 0)) 6 (.bool false)) 13 a1) 14 v14x3) 15 v15x5) 16 a1) 17 v17x6) 18 v18x8) 7 v18x8) 19 v18x8) 20 v20x10) 21 v21x11) 22 v22x12) 8 v22x12) 9 (.int .i64 0)) 23 v18x8) 24 v24x32) 25 (.int .i64 0)) H13)
def O.spec_CyclesOf : Nat → Nat × List Nat := fun i => (0, [])
theorem R.spec_CyclesOf {a0 a1 : Value} {H : Hp} {K : Value → Hp → Prop} (h : F.spec_CyclesOf a0 a1 H K) : HT prg I.spec_CyclesOf [a0, a1].toArray H K :=
  HT_of_fev O.spec_CyclesOf mixed Try.func13 (by kernel_rfl) (Eq.mpr (by kernel_rfl : fev prg O.spec_CyclesOf Try.f13 [a0, a1] H K = F.spec_CyclesOf a0 a1 H K) h)

end Go.Proofs.Ythmdmbbdjbhcoaa
/- Functions' texts over a partial heap. -/
namespace Go.Proofs.Ythmdmbbdjbhcoaa
open HL
set_option linter.unusedVariables false
set_option maxRecDepth 100000
set_option maxHeartbeats 4000000
/-! loop.example/g01381/impl.CyclesOf: function 14 -/
def F.impl_CyclesOf (a0 a1 : Value) (H : Hp) (K : Value → Hp → Prop) : Prop :=
  nw (a0 : Value).cells 28 H fun v2x1 H2 =>
  ob (vLoadN 3 v2x1 H2) fun v16x3 =>
  HT prg I.impl_small [v16x3, a1].toArray H2 fun v18x4 H5 =>
  ob (vUn .not v18x4) fun v19x6 =>
  cnd v19x6
    (K (.tuple #[(.slice none 0 0), (.int .i64 0), (.bool false)]) H5)
    (opEv.nwM H5 fun v20x7 H8 =>
  jn (fun σ9 H9 =>
    bS 1 0 #[(.int .i64 0)] 2 [] H9 fun v40x10 H11 =>
    jn (fun σ12 H12 =>
      HT prg I.slices_Sort_int64Zint64 [(σ12 11)].toArray H12 fun v52x13 H14 =>
      bS 1 0 #[(.int .i64 0)] 2 [] H14 fun v53x15 H16 =>
      jn (fun σ17 H17 =>
        K (.tuple #[(σ17 13), (σ17 8), (.bool true)]) H17) fun J17 =>
      ob (vLenSl (σ12 11)) fun v55x18 =>
      lpE (fun Q19 σ19 H19 =>
        ob (vInt .lss (σ19 56) (σ19 55)) fun v57x20 =>
        cnd v57x20
          (ob (vIx 1 (σ19 54) (σ19 56)) fun v58x21 =>
        ob (vLoad v58x21 H19) fun v59x22 =>
        hp prg (Instr.lookup 72 (σ19 7) v59x22 false) H19 fun v64x23 H24 =>
        bS 1 2 #[(.int .i64 0)] 2 [(0, v59x22), (1, v64x23)] H24 fun v65x25 H26 =>
        apd 1 8 #[(.int .i64 0)] 2 (σ19 13) v65x25 H26 fun v66x27 H28 =>
        ob (vInt .add (σ19 56) (.int .i64 1)) fun v67x29 =>
        Q19 .normal (up (up (up (up (up (up (up (up (up (up (up (up (up (up σ19 57 v57x20) 58 v58x21) 59 v59x22) 15 v59x22) 60 (σ19 13)) 61 v59x22) 62 (σ19 7)) 63 v59x22) 64 v64x23) 65 v65x25) 66 v66x27) 13 v66x27) 67 v67x29) 56 v67x29) H28)
          (Q19 (.exit 4) (up σ19 57 v57x20) H19)) (blkQ 4 (thenQ J17 (retQ prg [(.tmp 4), (.tmp 5), (.tmp 6)] K))) (up (up (up (up (up (up (up σ12 51 (σ12 11)) 52 v52x13) 53 v53x15) 13 v53x15) 54 (σ12 11)) 55 v55x18) 56 (.int .i64 0)) H16) fun J12 =>
    hp prg (Instr.range 72 (σ9 7)) H11 fun v42x30 H31 =>
    lpE (fun Q32 σ32 H32 =>
      hp prg (Instr.next (σ32 42) false 0) H32 fun v43x33 H34 =>
      ob (vExt v43x33 0) fun v44x35 =>
      cnd v44x35
        (hp prg (Instr.entry (σ32 42)) H34 fun v45x36 H37 =>
      ob (vExt v45x36 0) fun v46x38 =>
      bS 1 1 #[(.int .i64 0)] 2 [(0, v46x38)] H37 fun v49x39 H40 =>
      apd 1 8 #[(.int .i64 0)] 2 (σ32 11) v49x39 H40 fun v50x41 H42 =>
      Q32 .normal (up (up (up (up (up (up (up (up (up (up σ32 43 v43x33) 44 v44x35) 45 v45x36) 46 v46x38) 12 v46x38) 47 (σ32 11)) 48 v46x38) 49 v49x39) 50 v50x41) 11 v50x41) H42)
        (Q32 (.exit 2) (up (up σ32 43 v43x33) 44 v44x35) H34)) (blkQ 2 (thenQ J12 (retQ prg [(.tmp 4), (.tmp 5), (.tmp 6)] K))) (up (up (up (up σ9 40 v40x10) 11 v40x10) 41 (σ9 7)) 42 v42x30) H31) fun J9 =>
  ob (vLoadN 3 v2x1 H8) fun v21x43 =>
  ob (vLoadN 3 v2x1 H8) fun v22x44 =>
  HT prg I.impl_Rule_steps [v22x44, a1].toArray H8 fun v24x45 H46 =>
  Le H8 H46 ∧ (HT prg I.impl_Rule_inCycles [v21x43, v24x45].toArray H46 fun v25x47 H48 =>
  Le H46 H48 ∧ (ob (vLenSl v25x47) fun v26x49 =>
  lpE (fun Q50 σ50 H50 =>
    ob (vInt .lss (σ50 27) (σ50 26)) fun v28x51 =>
    cnd v28x51
      (ob (vIx 1 (σ50 25) (σ50 27)) fun v29x52 =>
    ob (vLoad v29x52 H50) fun v30x53 =>
    ob (vInt .gtr v30x53 (.int .i64 0)) fun v32x54 =>
    cnd v32x54
      (hp prg (Instr.lookup 72 (σ50 7) v30x53 false) H50 fun v35x55 H56 =>
      ob (vInt .add v35x55 (.int .i64 1)) fun v36x57 =>
      hp prg (Instr.mapUpdate 72 (σ50 7) v30x53 v36x57) H56 fun _ H58 =>
      ob (vInt .add (σ50 8) (.int .i64 1)) fun v38x59 =>
      ob (vInt .add (σ50 27) (.int .i64 1)) fun v39x60 =>
    Q50 .normal (up (up (up (up (up (up (up (up (up (up (up (up (up (up (up σ50 28 v28x51) 29 v29x52) 30 v30x53) 10 v30x53) 31 v30x53) 32 v32x54) 33 (σ50 7)) 34 v30x53) 35 v35x55) 36 v36x57) 37 (σ50 8)) 38 v38x59) 8 v38x59) 39 v39x60) 27 v39x60) H58)
      (ob (vInt .add (σ50 27) (.int .i64 1)) fun v39x61 =>
    Q50 .normal (up (up (up (up (up (up (up (up σ50 28 v28x51) 29 v29x52) 30 v30x53) 10 v30x53) 31 v30x53) 32 v32x54) 39 v39x61) 27 v39x61) H50))
      (Q50 (.exit 0) (up σ50 28 v28x51) H50)) (blkQ 0 (thenQ J9 (retQ prg [(.tmp 4), (.tmp 5), (.tmp 6)] K))) (up (up (up (up (up (up (up (up (up (up (up (up (up (up (up (up (up (up (S0 [a0, a1]) 2 v2x1) 4 (.slice none 0 0)) 5 (.int .i64 0)) 6 (.bool false)) 16 v16x3) 17 a1) 18 v18x4) 19 v19x6) 20 v20x7) 7 v20x7) 8 (.int .i64 0)) 21 v21x43) 22 v22x44) 23 a1) 27 (.int .i64 0)) 24 v24x45) 25 v25x47) 26 v26x49) H48)))
def O.impl_CyclesOf : Nat → Nat × List Nat := fun i => bif Nat.beq i 5 then (0, [0, 1, 2, 6, 3, 4, 5]) else (0, [])
theorem R.impl_CyclesOf {a0 a1 : Value} {H : Hp} {K : Value → Hp → Prop} (h : F.impl_CyclesOf a0 a1 H K) : HT prg I.impl_CyclesOf [a0, a1].toArray H K :=
  HT_of_fev O.impl_CyclesOf mixed Try.func14 (by kernel_rfl) (Eq.mpr (by kernel_rfl : fev prg O.impl_CyclesOf Try.f14 [a0, a1] H K = F.impl_CyclesOf a0 a1 H K) h)

/-! loop.example/g01381/laws.b10Long: function 19 -/
def F.laws_b10Long (a0 a1 : Value) (H : Hp) (K : Value → Hp → Prop) : Prop :=
  ob (vLenSl a0) fun v6x1 =>
  ob (vInt .gtr v6x1 (.int .i64 1048576)) fun v7x2 =>
  gop v7x2 false (fun K3 => K3 a1 H) H fun v9x4 H5 =>
  gop v7x2 false (fun K6 => ob (vLenSl v9x4) fun u => K6 u H5) H5 fun v10x7 H8 =>
  gop v7x2 false (fun K9 => ob (vInt .gtr v10x7 (.int .i64 1048576)) fun u => K9 u H8) H8 fun v11x10 H11 =>
  ob (vPick v7x2 (.bool true) v11x10) fun v12x12 =>
  K v12x12 H11
def O.laws_b10Long : Nat → Nat × List Nat := fun i => (0, [])
theorem R.laws_b10Long {a0 a1 : Value} {H : Hp} {K : Value → Hp → Prop} (h : F.laws_b10Long a0 a1 H K) : HT prg I.laws_b10Long [a0, a1].toArray H K :=
  HT_of_fev O.laws_b10Long mixed Try.func19 (by kernel_rfl) (Eq.mpr (by kernel_rfl : fev prg O.laws_b10Long Try.f19 [a0, a1] H K = F.laws_b10Long a0 a1 H K) h)

/-! loop.example/g01381/spec.l00From: function 54 -/
def F.spec_l00From (a0 : Value) (H : Hp) (K : Value → Hp → Prop) : Prop :=
  ob (vBuild [(0, 1), (1, 1), (2, 1)] (.agg #[(.slice none 0 0), (.int .i64 0), (.int .u64 0)]) [(0, a0)]) fun v4x1 =>
  nw (v4x1 : Value).cells 122 H fun v5x2 H3 =>
  K v5x2 H3
def O.spec_l00From : Nat → Nat × List Nat := fun i => (0, [])
theorem R.spec_l00From {a0 : Value} {H : Hp} {K : Value → Hp → Prop} (h : F.spec_l00From a0 H K) : HT prg I.spec_l00From [a0].toArray H K :=
  HT_of_fev O.spec_l00From mixed Try.func54 (by kernel_rfl) (Eq.mpr (by kernel_rfl : fev prg O.spec_l00From Try.f54 [a0] H K = F.spec_l00From a0 H K) h)

/-! (*loop.example/g01381/spec.l00Src).next: function 103 -/
def F.pspec_l00Src_next (a0 : Value) (H : Hp) (K : Value → Hp → Prop) : Prop :=
  jn (fun σ1 H1 =>
    ob (vNilC (σ1 0)) fun v26x2 =>
    ob (vFa 1 v26x2) fun v27x3 =>
    ob (vLoad v27x3 H1) fun v28x4 =>
    ob (vInt .add v28x4 (.int .i64 1)) fun v29x5 =>
    ob (vNilC (σ1 0)) fun v30x6 =>
    ob (vFa 1 v30x6) fun v31x7 =>
    st 1 v31x7 v29x5 H1 fun H8 =>
    ob (vNilC (σ1 0)) fun v34x9 =>
    ob (vFa 2 v34x9) fun v35x10 =>
    ob (vLoad v35x10 H8) fun v36x11 =>
    ob (vInt .mul v36x11 (.int .u64 6364136223846793005)) fun v37x12 =>
    ob (vCI .u64 (σ1 3)) fun v39x13 =>
    ob (vInt .add v37x12 v39x13) fun v40x14 =>
    ob (vInt .add v40x14 (.int .u64 1442695040888963407)) fun v41x15 =>
    ob (vNilC (σ1 0)) fun v42x16 =>
    ob (vFa 2 v42x16) fun v43x17 =>
    st 1 v43x17 v41x15 H8 fun H18 =>
    ob (vNilC (σ1 0)) fun v45x19 =>
    ob (vFa 1 v45x19) fun v46x20 =>
    ob (vLoad v46x20 H18) fun v47x21 =>
    ob (vNilC (σ1 0)) fun v49x22 =>
    ob (vFa 0 v49x22) fun v50x23 =>
    ob (vLoad v50x23 H18) fun v51x24 =>
    ob (vLenSl v51x24) fun v52x25 =>
    ob (vInt .leq v47x21 v52x25) fun v53x26 =>
    cnd v53x26
      (K (σ1 3) H18)
      (ob (vNilC (σ1 0)) fun v56x27 =>
    ob (vFa 2 v56x27) fun v57x28 =>
    ob (vLoad v57x28 H18) fun v58x29 =>
    ob (vInt .shr v58x29 (.int .u64 40)) fun v59x30 =>
    ob (vInt .and v59x30 (.int .u64 255)) fun v60x31 =>
    ob (vCI .i64 v60x31) fun v61x32 =>
    K v61x32 H18)) fun J1 =>
  ob (vNilC a0) fun v5x33 =>
  ob (vFa 1 v5x33) fun v6x34 =>
  ob (vLoad v6x34 H) fun v7x35 =>
  ob (vNilC a0) fun v9x36 =>
  ob (vFa 0 v9x36) fun v10x37 =>
  ob (vLoad v10x37 H) fun v11x38 =>
  ob (vLenSl v11x38) fun v12x39 =>
  ob (vInt .lss v7x35 v12x39) fun v13x40 =>
  cnd v13x40
    (ob (vNilC a0) fun v15x41 =>
    ob (vFa 0 v15x41) fun v16x42 =>
    ob (vLoad v16x42 H) fun v17x43 =>
    ob (vNilC a0) fun v19x44 =>
    ob (vFa 1 v19x44) fun v20x45 =>
    ob (vLoad v20x45 H) fun v21x46 =>
    ob (vIx 1 v17x43 v21x46) fun v22x47 =>
    ob (vLoad v22x47 H) fun v23x48 =>
    ob (vCI .i64 v23x48) fun v24x49 =>
    J1 (up (up (up (up (up (up (up (up (up (up (up (up (up (up (up (up (up (up (up (up (up (up (up (up (S0 [a0]) 2 (.int .i64 0)) 3 (.int .i64 0)) 4 a0) 5 v5x33) 6 v6x34) 7 v7x35) 8 a0) 9 v9x36) 10 v10x37) 11 v11x38) 12 v12x39) 13 v13x40) 14 a0) 15 v15x41) 16 v16x42) 17 v17x43) 18 a0) 19 v19x44) 20 v20x45) 21 v21x46) 22 v22x47) 23 v23x48) 24 v24x49) 3 v24x49) H)
    (J1 (up (up (up (up (up (up (up (up (up (up (up (up (S0 [a0]) 2 (.int .i64 0)) 3 (.int .i64 0)) 4 a0) 5 v5x33) 6 v6x34) 7 v7x35) 8 a0) 9 v9x36) 10 v10x37) 11 v11x38) 12 v12x39) 13 v13x40) H)
def O.pspec_l00Src_next : Nat → Nat × List Nat := fun i => bif Nat.beq i 6 then (0, [0, 1, 2, 3, 4, 5, 6, 7, 8, 9]) else bif Nat.beq i 2 then (0, [0, 1, 2, 3, 4, 5, 6, 7, 8, 9]) else bif Nat.beq i 3 then (0, [0, 1, 2, 3, 4, 5, 6, 7, 8, 9, 10, 11]) else (0, [])
theorem R.pspec_l00Src_next {a0 : Value} {H : Hp} {K : Value → Hp → Prop} (h : F.pspec_l00Src_next a0 H K) : HT prg I.pspec_l00Src_next [a0].toArray H K :=
  HT_of_fev O.pspec_l00Src_next mixed Try.func103 (by kernel_rfl) (Eq.mpr (by kernel_rfl : fev prg O.pspec_l00Src_next Try.f103 [a0] H K = F.pspec_l00Src_next a0 H K) h)

/-! (*loop.example/g01381/spec.l00Src).pick: function 57 -/
def F.pspec_l00Src_pick (a0 a1 : Value) (H : Hp) (K : Value → Hp → Prop) : Prop :=
  ob (vInt .leq a1 (.int .i64 1)) fun v7x1 =>
  cnd v7x1
    (K (.int .i64 0) H)
    (HT prg I.pspec_l00Src_next [a0].toArray H fun v9x2 H3 =>
  ob (vInt .gtr a1 (.int .i64 200)) fun v11x4 =>
  cnd v11x4
    (ob (vInt .mul v9x2 (.int .i64 256)) fun v13x5 =>
    HT prg I.pspec_l00Src_next [a0].toArray H3 fun v15x6 H7 =>
    ob (vInt .add v13x5 v15x6) fun v16x8 =>
    ob (vInt .rem v16x8 a1) fun v19x9 =>
  K v19x9 H7)
    (ob (vInt .rem v9x2 a1) fun v19x10 =>
  K v19x10 H3))
def O.pspec_l00Src_pick : Nat → Nat × List Nat := fun i => (0, [])
theorem R.pspec_l00Src_pick {a0 a1 : Value} {H : Hp} {K : Value → Hp → Prop} (h : F.pspec_l00Src_pick a0 a1 H K) : HT prg I.pspec_l00Src_pick [a0, a1].toArray H K :=
  HT_of_fev O.pspec_l00Src_pick mixed Try.func57 (by kernel_rfl) (Eq.mpr (by kernel_rfl : fev prg O.pspec_l00Src_pick Try.f57 [a0, a1] H K = F.pspec_l00Src_pick a0 a1 H K) h)

/-! loop.example/g01381/spec.l07DrawTwo: function 55 -/
def F.spec_l07DrawTwoX (a0 a1 : Value) (H : Hp) (K : Value → Hp → Prop) : Prop :=
  nw #[(.int .i64 0), (.int .i64 0), (.slice none 0 0)] 28 H fun v4x1 H2 =>
  ob (vBuild [(0, 1), (1, 1), (2, 1)] (.agg #[(.int .i64 0), (.int .i64 0), (.slice none 0 0)]) [(0, (.int .i64 2)), (1, a1)]) fun v8x3 =>
  nw #[(.int .i64 0), (.int .i64 0), (.slice none 0 0)] 28 H2 fun v5x4 H5 =>
  st 3 v5x4 v8x3 H5 fun H6 =>
  jn (fun σ7 H7 =>
    ob (vLoadN 3 (σ7 5) H7) fun v24x8 =>
    st 3 (σ7 4) v24x8 H7 fun H9 =>
    ob (vLoadN 3 (σ7 4) H9) fun u10 => K u10 H9) fun J7 =>
  ob (vInt .mul (.int .i64 2) a1) fun v10x11 =>
  ob (vInt .add v10x11 (.int .i64 1)) fun v11x12 =>
  HT prg I.spec_l03Power [(.int .i64 2), v11x12].toArray H6 fun v12x13 H14 =>
  lpE (fun Q15 σ15 H15 =>
    ob (vInt .gtr (σ15 6) (.int .i64 0)) fun v14x16 =>
    cnd v14x16
      ((ob (vFa 2 (σ15 5)) fun v17x17 =>
    ob (vLoad v17x17 H15) fun v18x18 =>
    HT prg I.pspec_l00Src_pick [(σ15 0), (.int .i64 2)].toArray H15 fun v20x19 H20 =>
    bS 1 1 #[(.int .i64 0)] 2 [(0, v20x19)] H20 fun v21x21 H22 =>
    apd 1 8 #[(.int .i64 0)] 2 v18x18 v21x21 H22 fun v22x23 H24 =>
    ob (vFa 2 (σ15 5)) fun v23x25 =>
    st 1 v23x25 v22x23 H24 fun H26 =>
    ob (vInt .sub (σ15 6) (.int .i64 1)) fun v16x27 =>
    Q15 .normal (up (up (up (up (up (up (up (up (up (up (up (up σ15 13 (σ15 6)) 14 v14x16) 17 v17x17) 18 v18x18) 19 (σ15 0)) 20 v20x19) 21 v21x21) 22 v22x23) 23 v23x25) 15 (σ15 6)) 16 v16x27) 6 v16x27) H26) ∧ (ob (vFa 2 (σ15 5)) fun v17x28 =>
    HT prg I.pspec_l00Src_pick [(σ15 0), (.int .i64 2)].toArray H15 fun v20x29 H30 =>
    ob (vLoad v17x28 H30) fun v18x31 =>
    bS 1 1 #[(.int .i64 0)] 2 [(0, v20x29)] H30 fun v21x32 H33 =>
    apd 1 8 #[(.int .i64 0)] 2 v18x31 v21x32 H33 fun v22x34 H35 =>
    ob (vFa 2 (σ15 5)) fun v23x36 =>
    st 1 v23x36 v22x34 H35 fun H37 =>
    ob (vInt .sub (σ15 6) (.int .i64 1)) fun v16x38 =>
    Q15 .normal (up (up (up (up (up (up (up (up (up (up (up (up σ15 13 (σ15 6)) 14 v14x16) 17 v17x28) 19 (σ15 0)) 20 v20x29) 18 v18x31) 21 v21x32) 22 v22x34) 23 v23x36) 15 (σ15 6)) 16 v16x38) 6 v16x38) H37))
      (Q15 (.exit 0) (up (up σ15 13 (σ15 6)) 14 v14x16) H15)) (blkQ 0 (thenQ J7 (retQ prg [(.cell 4 28)] K))) (up (up (up (up (up (up (up (up (up (S0 [a0, a1]) 4 v4x1) 7 a1) 8 v8x3) 5 v5x4) 9 a1) 10 v10x11) 11 v11x12) 12 v12x13) 6 v12x13) H14
def O.spec_l07DrawTwoX : Nat → Nat × List Nat := fun i => bif Nat.beq i 5 then (2, [1001, 1003, 0, 1, 2, 3, 4, 5, 6, 7, 0, 2, 3, 1, 4, 5, 6, 7]) else (0, [])
theorem R.spec_l07DrawTwoX {a0 a1 : Value} {H : Hp} {K : Value → Hp → Prop} (h : F.spec_l07DrawTwoX a0 a1 H K) : HT prg I.spec_l07DrawTwo [a0, a1].toArray H K :=
  HT_of_fev O.spec_l07DrawTwoX mixed Try.func55 (by kernel_rfl) (Eq.mpr (by kernel_rfl : fev prg O.spec_l07DrawTwoX Try.f55 [a0, a1] H K = F.spec_l07DrawTwoX a0 a1 H K) h)

/-! loop.example/g01381/spec.B10Rule: function 20 -/
def F.spec_B10Rule (a0 a1 : Value) (H : Hp) (K : Value → Hp → Prop) : Prop :=
  nw #[(.int .i64 0), (.int .i64 0), (.slice none 0 0)] 28 H fun v4x1 H2 =>
  HT prg I.spec_l00From [a0].toArray H2 fun v7x3 H4 =>
  HT prg I.spec_l07DrawTwo [v7x3, a1].toArray H4 fun v10x5 H6 =>
  st 3 v4x1 v10x5 H6 fun H7 =>
  ob (vLoadN 3 v4x1 H7) fun u8 => K u8 H7
def O.spec_B10Rule : Nat → Nat × List Nat := fun i => (0, [])
theorem R.spec_B10Rule {a0 a1 : Value} {H : Hp} {K : Value → Hp → Prop} (h : F.spec_B10Rule a0 a1 H K) : HT prg I.spec_B10Rule [a0, a1].toArray H K :=
  HT_of_fev O.spec_B10Rule mixed Try.func20 (by kernel_rfl) (Eq.mpr (by kernel_rfl : fev prg O.spec_B10Rule Try.f20 [a0, a1] H K = F.spec_B10Rule a0 a1 H K) h)

/-! loop.example/g01381/laws.b10At: function 21 -/
def F.laws_b10At (a0 a1 a2 : Value) (H : Hp) (K : Value → Hp → Prop) : Prop :=
  ob (vInt .leq a2 (.int .i64 1)) fun v8x1 =>
  cnd v8x1
    (K (.int .i64 0) H)
    (ob (vLenSl a0) fun v11x2 =>
  ob (vInt .lss a1 v11x2) fun v12x3 =>
  cnd v12x3
    (ob (vIx 1 a0 a1) fun v15x4 =>
    ob (vLoad v15x4 H) fun v16x5 =>
    ob (vCI .i64 v16x5) fun v17x6 =>
    ob (vInt .rem v17x6 a2) fun v19x7 =>
    K v19x7 H)
    (ob (vInt .mul a1 (.int .i64 37)) fun v21x8 =>
  ob (vInt .add v21x8 (.int .i64 11)) fun v22x9 =>
  ob (vInt .rem v22x9 a2) fun v24x10 =>
  K v24x10 H))
def O.laws_b10At : Nat → Nat × List Nat := fun i => (0, [])
theorem R.laws_b10At {a0 a1 a2 : Value} {H : Hp} {K : Value → Hp → Prop} (h : F.laws_b10At a0 a1 a2 H K) : HT prg I.laws_b10At [a0, a1, a2].toArray H K :=
  HT_of_fev O.laws_b10At mixed Try.func21 (by kernel_rfl) (Eq.mpr (by kernel_rfl : fev prg O.laws_b10At Try.f21 [a0, a1, a2] H K = F.laws_b10At a0 a1 a2 H K) h)

/-! loop.example/g01381/impl.ImagesOf: function 22 -/
def F.impl_ImagesOf (a0 a1 : Value) (H : Hp) (K : Value → Hp → Prop) : Prop :=
  nw (a0 : Value).cells 28 H fun v2x1 H2 =>
  ob (vLoadN 3 v2x1 H2) fun v10x3 =>
  HT prg I.impl_small [v10x3, a1].toArray H2 fun v12x4 H5 =>
  ob (vUn .not v12x4) fun v13x6 =>
  cnd v13x6
    (K (.tuple #[(.int .i64 0), (.bool false)]) H5)
    (ob (vFa 0 v2x1) fun v14x7 =>
  ob (vLoad v14x7 H5) fun v15x8 =>
  HT prg I.impl_raised [v15x8, a1].toArray H5 fun v17x9 H10 =>
  mkS 1 1 #[(.bool false)] 4 v17x9 v17x9 H10 fun v18x11 H12 =>
  jn (fun σ13 H13 =>
    K (.tuple #[(σ13 7), (.bool true)]) H13) fun J13 =>
  ob (vLoadN 3 v2x1 H12) fun v19x14 =>
  HT prg I.impl_Rule_steps [v19x14, a1].toArray H12 fun v21x15 H16 =>
  ob (vLenSl v21x15) fun v22x17 =>
  lpE (fun Q18 σ18 H18 =>
    ob (vInt .lss (σ18 23) (σ18 22)) fun v24x19 =>
    cnd v24x19
      (ob (vIx 1 (σ18 21) (σ18 23)) fun v25x20 =>
    ob (vLoad v25x20 H18) fun v26x21 =>
    ob (vIx 1 (σ18 6) v26x21) fun v29x22 =>
    ob (vLoad v29x22 H18) fun v30x23 =>
    ob (vUn .not v30x23) fun v31x24 =>
    cnd v31x24
      (ob (vIx 1 (σ18 6) v26x21) fun v34x25 =>
      st 1 v34x25 (.bool true) H18 fun H26 =>
      ob (vInt .add (σ18 7) (.int .i64 1)) fun v36x27 =>
      ob (vInt .add (σ18 23) (.int .i64 1)) fun v37x28 =>
    Q18 .normal (up (up (up (up (up (up (up (up (up (up (up (up (up (up (up (up (up σ18 24 v24x19) 25 v25x20) 26 v26x21) 9 v26x21) 27 (σ18 6)) 28 v26x21) 29 v29x22) 30 v30x23) 31 v31x24) 32 (σ18 6)) 33 v26x21) 34 v34x25) 35 (σ18 7)) 36 v36x27) 7 v36x27) 37 v37x28) 23 v37x28) H26)
      (ob (vInt .add (σ18 23) (.int .i64 1)) fun v37x29 =>
    Q18 .normal (up (up (up (up (up (up (up (up (up (up (up σ18 24 v24x19) 25 v25x20) 26 v26x21) 9 v26x21) 27 (σ18 6)) 28 v26x21) 29 v29x22) 30 v30x23) 31 v31x24) 37 v37x29) 23 v37x29) H18))
      (Q18 (.exit 0) (up σ18 24 v24x19) H18)) (blkQ 0 (thenQ J13 (retQ prg [(.tmp 4), (.tmp 5)] K))) (up (up (up (up (up (up (up (up (up (up (up (up (up (up (up (up (up (up (up (S0 [a0, a1]) 2 v2x1) 4 (.int .i64 0)) 5 (.bool false)) 10 v10x3) 11 a1) 12 v12x4) 13 v13x6) 14 v14x7) 15 v15x8) 16 a1) 17 v17x9) 18 v18x11) 6 v18x11) 7 (.int .i64 0)) 19 v19x14) 20 a1) 21 v21x15) 22 v22x17) 23 (.int .i64 0)) H16)
def O.impl_ImagesOf : Nat → Nat × List Nat := fun i => (0, [])
theorem R.impl_ImagesOf {a0 a1 : Value} {H : Hp} {K : Value → Hp → Prop} (h : F.impl_ImagesOf a0 a1 H K) : HT prg I.impl_ImagesOf [a0, a1].toArray H K :=
  HT_of_fev O.impl_ImagesOf mixed Try.func22 (by kernel_rfl) (Eq.mpr (by kernel_rfl : fev prg O.impl_ImagesOf Try.f22 [a0, a1] H K = F.impl_ImagesOf a0 a1 H K) h)

/-! loop.example/g01381/laws.b10Ints: function 23 -/
def F.laws_b10Ints (a0 a1 : Value) (H : Hp) (K : Value → Hp → Prop) : Prop :=
  ob (vLenSl a0) fun v7x1 =>
  ob (vLenSl a1) fun v9x2 =>
  ob (vInt .neq v7x1 v9x2) fun v10x3 =>
  cnd v10x3
    (K (.bool false) H)
    (jn (fun σ4 H4 =>
    K (.bool true) H4) fun J4 =>
  ob (vLenSl a0) fun v12x5 =>
  lpE (fun Q6 σ6 H6 =>
    ob (vInt .lss (σ6 13) (σ6 12)) fun v14x7 =>
    cnd v14x7
      (ob (vIx 1 (σ6 0) (σ6 13)) fun v18x8 =>
    ob (vLoad v18x8 H6) fun v19x9 =>
    ob (vIx 1 (σ6 1) (σ6 13)) fun v22x10 =>
    ob (vLoad v22x10 H6) fun v23x11 =>
    ob (vInt .neq v19x9 v23x11) fun v24x12 =>
    cnd v24x12
      (Q6 .ret (up (up (up (up (up (up (up (up (up (up (up (up (up σ6 14 v14x7) 15 (σ6 13)) 5 (σ6 13)) 16 (σ6 0)) 17 (σ6 13)) 18 v18x8) 19 v19x9) 20 (σ6 1)) 21 (σ6 13)) 22 v22x10) 23 v23x11) 24 v24x12) 4 (.bool false)) H6)
      (ob (vInt .add (σ6 13) (.int .i64 1)) fun v25x13 =>
    Q6 .normal (up (up (up (up (up (up (up (up (up (up (up (up (up (up σ6 14 v14x7) 15 (σ6 13)) 5 (σ6 13)) 16 (σ6 0)) 17 (σ6 13)) 18 v18x8) 19 v19x9) 20 (σ6 1)) 21 (σ6 13)) 22 v22x10) 23 v23x11) 24 v24x12) 25 v25x13) 13 v25x13) H6))
      (Q6 (.exit 0) (up σ6 14 v14x7) H6)) (blkQ 0 (thenQ J4 (retQ prg [(.tmp 4)] K))) (up (up (up (up (up (up (up (up (up (S0 [a0, a1]) 4 (.bool false)) 6 a0) 7 v7x1) 8 a1) 9 v9x2) 10 v10x3) 11 a0) 12 v12x5) 13 (.int .i64 0)) H)
def O.laws_b10Ints : Nat → Nat × List Nat := fun i => bif Nat.beq i 6 then (0, [0, 1, 2, 3, 4, 5, 6, 7, 8]) else (0, [])
theorem R.laws_b10Ints {a0 a1 : Value} {H : Hp} {K : Value → Hp → Prop} (h : F.laws_b10Ints a0 a1 H K) : HT prg I.laws_b10Ints [a0, a1].toArray H K :=
  HT_of_fev O.laws_b10Ints mixed Try.func23 (by kernel_rfl) (Eq.mpr (by kernel_rfl : fev prg O.laws_b10Ints Try.f23 [a0, a1] H K = F.laws_b10Ints a0 a1 H K) h)

/-! loop.example/g01381/spec.B10Ring: function 24 -/
def F.spec_B10Ring (a0 a1 a2 : Value) (H : Hp) (K : Value → Hp → Prop) : Prop :=
  HT prg I.spec_l00From [a0].toArray H fun v10x1 H2 =>
  bS 1 0 #[(.int .i64 0)] 2 [] H2 fun v11x3 H4 =>
  jn (fun σ5 H5 =>
    K (σ5 8) H5) fun J5 =>
  lpE (fun Q6 σ6 H6 =>
    ob (vInt .gtr (σ6 2) (.int .i64 0)) fun v13x7 =>
    cnd v13x7
      (HT prg I.pspec_l00Src_pick [(σ6 7), (σ6 1)].toArray H6 fun v19x8 H9 =>
    bS 1 1 #[(.int .i64 0)] 2 [(0, v19x8)] H9 fun v20x10 H11 =>
    apd 1 8 #[(.int .i64 0)] 2 (σ6 8) v20x10 H11 fun v21x12 H13 =>
    ob (vInt .sub (σ6 2) (.int .i64 1)) fun v15x14 =>
    Q6 .normal (up (up (up (up (up (up (up (up (up (up (up (up σ6 12 (σ6 2)) 13 v13x7) 16 (σ6 8)) 17 (σ6 7)) 18 (σ6 1)) 19 v19x8) 20 v20x10) 21 v21x12) 8 v21x12) 14 (σ6 2)) 15 v15x14) 2 v15x14) H13)
      (Q6 (.exit 0) (up (up σ6 12 (σ6 2)) 13 v13x7) H6)) (blkQ 0 (thenQ J5 (retQ prg [(.tmp 6)] K))) (up (up (up (up (up (up (S0 [a0, a1, a2]) 6 (.slice none 0 0)) 9 a0) 10 v10x1) 7 v10x1) 11 v11x3) 8 v11x3) H4
def O.spec_B10Ring : Nat → Nat × List Nat := fun i => (0, [])
theorem R.spec_B10Ring {a0 a1 a2 : Value} {H : Hp} {K : Value → Hp → Prop} (h : F.spec_B10Ring a0 a1 a2 H K) : HT prg I.spec_B10Ring [a0, a1, a2].toArray H K :=
  HT_of_fev O.spec_B10Ring mixed Try.func24 (by kernel_rfl) (Eq.mpr (by kernel_rfl : fev prg O.spec_B10Ring Try.f24 [a0, a1, a2] H K = F.spec_B10Ring a0 a1 a2 H K) h)

/-! loop.example/g01381/spec.l02Ring: function 104 -/
def F.spec_l02Ring (a0 a1 : Value) (H : Hp) (K : Value → Hp → Prop) : Prop :=
  jn (fun σ1 H1 =>
    ob (vLenSl (σ1 0)) fun v21x2 =>
    ob (vInt .geq v21x2 (.int .i64 1)) fun v22x3 =>
    gop v22x3 true (fun K4 => K4 (σ1 0) H1) H1 fun v24x5 H6 =>
    gop v22x3 true (fun K7 => ob (vLenSl v24x5) fun u => K7 u H6) H6 fun v25x8 H9 =>
    gop v22x3 true (fun K10 => ob (vInt .leq v25x8 (.int .i64 64)) fun u => K10 u H9) H9 fun v26x11 H12 =>
    ob (vPick v22x3 v26x11 (.bool false)) fun v27x13 =>
    K v27x13 H12) fun J1 =>
  lpE (fun Q14 σ14 H14 =>
    ob (vLenSl (σ14 0)) fun v8x15 =>
    ob (vInt .lss (σ14 5) v8x15) fun v9x16 =>
    cnd v9x16
      (ob (vIx 1 (σ14 0) (σ14 5)) fun v14x17 =>
    ob (vLoad v14x17 H14) fun v15x18 =>
    ob (vInt .sub (σ14 1) (.int .i64 1)) fun v17x19 =>
    HT prg I.spec_l00In [v15x18, (.int .i64 0), v17x19].toArray H14 fun v18x20 H21 =>
    ob (vUn .not v18x20) fun v19x22 =>
    cnd v19x22
      (Q14 .ret (up (up (up (up (up (up (up (up (up (up (up (up (up σ14 6 (σ14 5)) 7 (σ14 0)) 8 v8x15) 9 v9x16) 12 (σ14 0)) 13 (σ14 5)) 14 v14x17) 15 v15x18) 16 (σ14 1)) 17 v17x19) 18 v18x20) 19 v19x22) 4 (.bool false)) H21)
      (ob (vInt .add (σ14 5) (.int .i64 1)) fun v11x23 =>
    Q14 .normal (up (up (up (up (up (up (up (up (up (up (up (up (up (up (up σ14 6 (σ14 5)) 7 (σ14 0)) 8 v8x15) 9 v9x16) 12 (σ14 0)) 13 (σ14 5)) 14 v14x17) 15 v15x18) 16 (σ14 1)) 17 v17x19) 18 v18x20) 19 v19x22) 10 (σ14 5)) 11 v11x23) 5 v11x23) H21))
      (Q14 (.exit 0) (up (up (up (up σ14 6 (σ14 5)) 7 (σ14 0)) 8 v8x15) 9 v9x16) H14)) (blkQ 0 (thenQ J1 (retQ prg [(.tmp 4)] K))) (up (up (S0 [a0, a1]) 4 (.bool false)) 5 (.int .i64 0)) H
def O.spec_l02Ring : Nat → Nat × List Nat := fun i => (0, [])
theorem R.spec_l02Ring {a0 a1 : Value} {H : Hp} {K : Value → Hp → Prop} (h : F.spec_l02Ring a0 a1 H K) : HT prg I.spec_l02Ring [a0, a1].toArray H K :=
  HT_of_fev O.spec_l02Ring mixed Try.func104 (by kernel_rfl) (Eq.mpr (by kernel_rfl : fev prg O.spec_l02Ring Try.f104 [a0, a1] H K = F.spec_l02Ring a0 a1 H K) h)

/-! loop.example/g01381/spec.l02Can: function 58 -/
def F.spec_l02Can (a0 a1 : Value) (H : Hp) (K : Value → Hp → Prop) : Prop :=
  HT prg I.spec_l02Is [a0].toArray H fun v6x1 H2 =>
  gop v6x1 true (fun K3 => K3 a1 H2) H2 fun v8x4 H5 =>
  gop v6x1 true (fun K6 => K6 a0 H5) H5 fun v9x7 H8 =>
  gop v6x1 true (fun K9 => ob (vNilC v9x7) fun u => K9 u H8) H8 fun v10x10 H11 =>
  gop v6x1 true (fun K12 => ob (vFa 0 v10x10) fun u => K12 u H11) H11 fun v11x13 H14 =>
  gop v6x1 true (fun K15 => ob (vLoad v11x13 H14) fun u => K15 u H14) H14 fun v12x16 H17 =>
  gop v6x1 true (fun K18 => HT prg I.spec_l02Ring [v8x4, v12x16].toArray H17 K18) H17 fun v13x19 H20 =>
  ob (vPick v6x1 v13x19 (.bool false)) fun v14x21 =>
  K v14x21 H20
def O.spec_l02Can : Nat → Nat × List Nat := fun i => (0, [])
theorem R.spec_l02Can {a0 a1 : Value} {H : Hp} {K : Value → Hp → Prop} (h : F.spec_l02Can a0 a1 H K) : HT prg I.spec_l02Can [a0, a1].toArray H K :=
  HT_of_fev O.spec_l02Can mixed Try.func58 (by kernel_rfl) (Eq.mpr (by kernel_rfl : fev prg O.spec_l02Can Try.f58 [a0, a1] H K = F.spec_l02Can a0 a1 H K) h)

/-! loop.example/g01381/spec.l02Run: function 60 -/
def F.spec_l02Run (a0 a1 a2 : Value) (H : Hp) (K : Value → Hp → Prop) : Prop :=
  bS 1 0 #[(.int .i64 0)] 2 [] H fun v8x1 H2 =>
  apd 1 8 #[(.int .i64 0)] 2 v8x1 a1 H2 fun v10x3 H4 =>
  jn (fun σ5 H5 =>
    K (σ5 7) H5) fun J5 =>
  lpE (fun Q6 σ6 H6 =>
    ob (vInt .gtr (σ6 2) (.int .i64 0)) fun v12x7 =>
    cnd v12x7
      (HT prg I.spec_l02Step [(σ6 0), (σ6 7)].toArray H6 fun v17x8 H9 =>
    ob (vInt .sub (σ6 2) (.int .i64 1)) fun v14x10 =>
    Q6 .normal (up (up (up (up (up (up (up (up (up σ6 11 (σ6 2)) 12 v12x7) 15 (σ6 0)) 16 (σ6 7)) 17 v17x8) 7 v17x8) 13 (σ6 2)) 14 v14x10) 2 v14x10) H9)
      (Q6 (.exit 0) (up (up σ6 11 (σ6 2)) 12 v12x7) H6)) (blkQ 0 (thenQ J5 (retQ prg [(.tmp 6)] K))) (up (up (up (up (up (S0 [a0, a1, a2]) 6 (.slice none 0 0)) 8 v8x1) 9 a1) 10 v10x3) 7 v10x3) H4
def O.spec_l02Run : Nat → Nat × List Nat := fun i => (0, [])
theorem R.spec_l02Run {a0 a1 a2 : Value} {H : Hp} {K : Value → Hp → Prop} (h : F.spec_l02Run a0 a1 a2 H K) : HT prg I.spec_l02Run [a0, a1, a2].toArray H K :=
  HT_of_fev O.spec_l02Run mixed Try.func60 (by kernel_rfl) (Eq.mpr (by kernel_rfl : fev prg O.spec_l02Run Try.f60 [a0, a1, a2] H K = F.spec_l02Run a0 a1 a2 H K) h)

/-! loop.example/g01381/spec.RunRing: function 25 -/
def F.spec_RunRing (a0 a1 a2 : Value) (H : Hp) (K : Value → Hp → Prop) : Prop :=
  nw (a0 : Value).cells 28 H fun v3x1 H2 =>
  HT prg I.spec_l02Can [v3x1, a1].toArray H2 fun v9x3 H4 =>
  ob (vUn .not v9x3) fun v10x5 =>
  gop v10x5 false (fun K6 => K6 a2 H4) H4 fun v12x7 H8 =>
  gop v10x5 false (fun K9 => HT prg I.spec_l00In [v12x7, (.int .i64 0), (.int .i64 1000)].toArray H8 K9) H8 fun v13x10 H11 =>
  gop v10x5 false (fun K12 => ob (vUn .not v13x10) fun u => K12 u H11) H11 fun v14x13 H14 =>
  ob (vPick v10x5 (.bool true) v14x13) fun v15x15 =>
  cnd v15x15
    (K (.tuple #[(.slice none 0 0), (.bool false)]) H14)
    (HT prg I.spec_l02Run [v3x1, a1, a2].toArray H14 fun v18x16 H17 =>
  K (.tuple #[v18x16, (.bool true)]) H17)
def O.spec_RunRing : Nat → Nat × List Nat := fun i => (0, [])
theorem R.spec_RunRing {a0 a1 a2 : Value} {H : Hp} {K : Value → Hp → Prop} (h : F.spec_RunRing a0 a1 a2 H K) : HT prg I.spec_RunRing [a0, a1, a2].toArray H K :=
  HT_of_fev O.spec_RunRing mixed Try.func25 (by kernel_rfl) (Eq.mpr (by kernel_rfl : fev prg O.spec_RunRing Try.f25 [a0, a1, a2] H K = F.spec_RunRing a0 a1 a2 H K) h)

/-! loop.example/g01381/spec.StepRing: function 26 -/
def F.spec_StepRing (a0 a1 : Value) (H : Hp) (K : Value → Hp → Prop) : Prop :=
  nw (a0 : Value).cells 28 H fun v2x1 H2 =>
  HT prg I.spec_l02Can [v2x1, a1].toArray H2 fun v7x3 H4 =>
  ob (vUn .not v7x3) fun v8x5 =>
  cnd v8x5
    (K (.tuple #[(.slice none 0 0), (.bool false)]) H4)
    (HT prg I.spec_l02Step [v2x1, a1].toArray H4 fun v10x6 H7 =>
  K (.tuple #[v10x6, (.bool true)]) H7)
def O.spec_StepRing : Nat → Nat × List Nat := fun i => (0, [])
theorem R.spec_StepRing {a0 a1 : Value} {H : Hp} {K : Value → Hp → Prop} (h : F.spec_StepRing a0 a1 H K) : HT prg I.spec_StepRing [a0, a1].toArray H K :=
  HT_of_fev O.spec_StepRing mixed Try.func26 (by kernel_rfl) (Eq.mpr (by kernel_rfl : fev prg O.spec_StepRing Try.f26 [a0, a1] H K = F.spec_StepRing a0 a1 H K) h)

/-! loop.example/g01381/laws.FnCycles: function 5 -/
def F.laws_FnCycles (a0 a1 : Value) (H : Hp) (K : Value → Hp → Prop) : Prop :=
  HT prg I.laws_b10Long [a0, a1].toArray H fun v30x1 H2 =>
  cnd v30x1
    (K (.bool true) H2)
    (HT prg I.spec_B10Rule [a0, (.int .i64 1)].toArray H2 fun v32x3 H4 =>
  nw #[(.int .i64 0), (.int .i64 0), (.slice none 0 0)] 28 H4 fun v5x5 H6 =>
  st 3 v5x5 v32x3 H6 fun H7 =>
  HT prg I.laws_b10At [a1, (.int .i64 0), (.int .i64 5)].toArray H7 fun v34x8 H9 =>
  ob (vInt .add (.int .i64 3) v34x8) fun v35x10 =>
  ob (vLoadN 3 v5x5 H9) fun v37x11 =>
  HT prg I.impl_CyclesOf [v37x11, v35x10].toArray H9 fun v39x12 H13 =>
  ob (vExt v39x12 0) fun v40x14 =>
  ob (vExt v39x12 1) fun v41x15 =>
  ob (vExt v39x12 2) fun v42x16 =>
  ob (vLoadN 3 v5x5 H13) fun v44x17 =>
  HT prg I.spec_CyclesOf [v44x17, v35x10].toArray H13 fun v46x18 H19 =>
  ob (vExt v46x18 0) fun v47x20 =>
  ob (vExt v46x18 1) fun v48x21 =>
  ob (vExt v46x18 2) fun v49x22 =>
  ob (vLoadN 3 v5x5 H19) fun v51x23 =>
  HT prg I.impl_DepthOf [v51x23, v35x10].toArray H19 fun v53x24 H25 =>
  ob (vExt v53x24 0) fun v54x26 =>
  ob (vExt v53x24 1) fun v55x27 =>
  ob (vLoadN 3 v5x5 H25) fun v57x28 =>
  HT prg I.spec_DepthOf [v57x28, v35x10].toArray H25 fun v59x29 H30 =>
  ob (vExt v59x29 0) fun v60x31 =>
  ob (vExt v59x29 1) fun v61x32 =>
  ob (vLoadN 3 v5x5 H30) fun v63x33 =>
  HT prg I.impl_ImagesOf [v63x33, v35x10].toArray H30 fun v65x34 H35 =>
  ob (vExt v65x34 0) fun v66x36 =>
  ob (vExt v65x34 1) fun v67x37 =>
  ob (vUn .not v42x16) fun v69x38 =>
  gop v69x38 false (fun K39 => K39 v49x22 H35) H35 fun v71x40 H41 =>
  gop v69x38 false (fun K42 => ob (vUn .not v71x40) fun u => K42 u H41) H41 fun v72x43 H44 =>
  ob (vPick v69x38 (.bool true) v72x43) fun v73x45 =>
  gop v73x45 false (fun K46 => K46 v55x27 H44) H44 fun v75x47 H48 =>
  gop v73x45 false (fun K49 => ob (vUn .not v75x47) fun u => K49 u H48) H48 fun v76x50 H51 =>
  ob (vPick v73x45 (.bool true) v76x50) fun v77x52 =>
  gop v77x52 false (fun K53 => K53 v61x32 H51) H51 fun v79x54 H55 =>
  gop v77x52 false (fun K56 => ob (vUn .not v79x54) fun u => K56 u H55) H55 fun v80x57 H58 =>
  ob (vPick v77x52 (.bool true) v80x57) fun v81x59 =>
  gop v81x59 false (fun K60 => K60 v67x37 H58) H58 fun v83x61 H62 =>
  gop v81x59 false (fun K63 => ob (vUn .not v83x61) fun u => K63 u H62) H62 fun v84x64 H65 =>
  ob (vPick v81x59 (.bool true) v84x64) fun v85x66 =>
  gop v85x66 false (fun K67 => K67 v40x14 H65) H65 fun v87x68 H69 =>
  gop v85x66 false (fun K70 => K70 v47x20 H69) H69 fun v88x71 H72 =>
  gop v85x66 false (fun K73 => HT prg I.laws_b10Ints [v87x68, v88x71].toArray H72 K73) H72 fun v89x74 H75 =>
  gop v85x66 false (fun K76 => ob (vUn .not v89x74) fun u => K76 u H75) H75 fun v90x77 H78 =>
  ob (vPick v85x66 (.bool true) v90x77) fun v91x79 =>
  gop v91x79 false (fun K80 => K80 v41x15 H78) H78 fun v93x81 H82 =>
  gop v91x79 false (fun K83 => K83 v48x21 H82) H82 fun v94x84 H85 =>
  gop v91x79 false (fun K86 => ob (vInt .neq v93x81 v94x84) fun u => K86 u H85) H85 fun v95x87 H88 =>
  ob (vPick v91x79 (.bool true) v95x87) fun v96x89 =>
  gop v96x89 false (fun K90 => K90 v54x26 H88) H88 fun v98x91 H92 =>
  gop v96x89 false (fun K93 => K93 v60x31 H92) H92 fun v99x94 H95 =>
  gop v96x89 false (fun K96 => ob (vInt .neq v98x91 v99x94) fun u => K96 u H95) H95 fun v100x97 H98 =>
  ob (vPick v96x89 (.bool true) v100x97) fun v101x99 =>
  gop v101x99 false (fun K100 => K100 v40x14 H98) H98 fun v103x101 H102 =>
  gop v101x99 false (fun K103 => ob (vLenSl v103x101) fun u => K103 u H102) H102 fun v104x104 H105 =>
  gop v101x99 false (fun K106 => ob (vInt .rem v104x104 (.int .i64 2)) fun u => K106 u H105) H105 fun v105x107 H108 =>
  gop v101x99 false (fun K109 => ob (vInt .neq v105x107 (.int .i64 0)) fun u => K109 u H108) H108 fun v106x110 H111 =>
  ob (vPick v101x99 (.bool true) v106x110) fun v107x112 =>
  gop v107x112 false (fun K113 => K113 v41x15 H111) H111 fun v109x114 H115 =>
  gop v107x112 false (fun K116 => K116 v66x36 H115) H115 fun v110x117 H118 =>
  gop v107x112 false (fun K119 => ob (vInt .gtr v109x114 v110x117) fun u => K119 u H118) H118 fun v111x120 H121 =>
  ob (vPick v107x112 (.bool true) v111x120) fun v112x122 =>
  cnd v112x122
    (K (.bool false) H121)
    (jn (fun σ123 H123 =>
    HT prg I.spec_B10Ring [(σ123 1), (.int .i64 2), (σ123 6)].toArray H123 fun v159x124 H125 =>
    ob (vLoadN 3 (σ123 5) H125) fun v161x126 =>
    HT prg I.spec_RunRing [v161x126, v159x124, (σ123 13)].toArray H125 fun v164x127 H128 =>
    ob (vExt v164x127 0) fun v165x129 =>
    ob (vExt v164x127 1) fun v166x130 =>
    ob (vInt .neq (σ123 19) (σ123 8)) fun v169x131 =>
    gop v169x131 false (fun K132 => K132 v166x130 H128) H128 fun v171x133 H134 =>
    gop v169x131 false (fun K135 => ob (vUn .not v171x133) fun u => K135 u H134) H134 fun v172x136 H137 =>
    ob (vPick v169x131 (.bool true) v172x136) fun v173x138 =>
    cnd v173x138
      (K (.bool false) H137)
      (jn (fun σ139 H139 =>
      K (.bool false) H139) fun J139 =>
    lpE (fun Q140 σ140 H140 =>
      ob (vInt .shl (.int .i64 1) (σ140 6)) fun v177x141 =>
      ob (vInt .lss (σ140 25) v177x141) fun v178x142 =>
      cnd v178x142
        (ob (vLoadN 3 (σ140 5) H140) fun v182x143 =>
      HT prg I.spec_StepRing [v182x143, (σ140 24)].toArray H140 fun v184x144 H145 =>
      ob (vExt v184x144 0) fun v185x146 =>
      ob (vExt v184x144 1) fun v186x147 =>
      ob (vUn .not v186x147) fun v188x148 =>
      cnd v188x148
        (Q140 .ret (up (up (up (up (up (up (up (up (up (up (up (up (up (up (up σ140 175 (σ140 25)) 176 (σ140 6)) 177 v177x141) 178 v178x142) 182 v182x143) 183 (σ140 24)) 184 v184x144) 181 v184x144) 185 v185x146) 186 v186x147) 26 v185x146) 27 v186x147) 187 v186x147) 188 v188x148) 4 (.bool false)) H145)
        (HT prg I.laws_b10Ints [v185x146, (σ140 22)].toArray H145 fun v192x149 H150 =>
      cnd v192x149
        (Q140 .ret (up (up (up (up (up (up (up (up (up (up (up (up (up (up (up (up (up (up (up (up σ140 175 (σ140 25)) 176 (σ140 6)) 177 v177x141) 178 v178x142) 182 v182x143) 183 (σ140 24)) 184 v184x144) 181 v184x144) 185 v185x146) 186 v186x147) 26 v185x146) 27 v186x147) 187 v186x147) 188 v188x148) 189 v185x146) 24 v185x146) 190 v185x146) 191 (σ140 22)) 192 v192x149) 4 (.bool true)) H150)
        (ob (vInt .add (σ140 25) (.int .i64 1)) fun v180x151 =>
      Q140 .normal (up (up (up (up (up (up (up (up (up (up (up (up (up (up (up (up (up (up (up (up (up (up σ140 175 (σ140 25)) 176 (σ140 6)) 177 v177x141) 178 v178x142) 182 v182x143) 183 (σ140 24)) 184 v184x144) 181 v184x144) 185 v185x146) 186 v186x147) 26 v185x146) 27 v186x147) 187 v186x147) 188 v188x148) 189 v185x146) 24 v185x146) 190 v185x146) 191 (σ140 22)) 192 v192x149) 179 (σ140 25)) 180 v180x151) 25 v180x151) H150)))
        (Q140 (.exit 2) (up (up (up (up σ140 175 (σ140 25)) 176 (σ140 6)) 177 v177x141) 178 v178x142) H140)) (blkQ 2 (thenQ J139 (retQ prg [(.tmp 4)] K))) (up (up (up (up (up (up (up (up (up (up (up (up (up (up (up (up (up (up (up (up (up (up (up σ123 157 (σ123 1)) 158 (σ123 6)) 159 v159x124) 21 v159x124) 161 v161x126) 162 v159x124) 163 (σ123 13)) 164 v164x127) 160 v164x127) 165 v165x129) 166 v166x130) 22 v165x129) 23 v166x130) 167 (σ123 19)) 168 (σ123 8)) 169 v169x131) 170 v169x131) 171 v171x133) 172 v172x136) 173 v173x138) 174 v165x129) 24 v165x129) 25 (.int .i64 0)) H137)) fun J123 =>
  lpE (fun Q152 σ152 H152 =>
    ob (vInt .add (σ152 20) (.int .i64 1)) fun v114x153 =>
    ob (vLenSl (σ152 7)) fun v116x154 =>
    ob (vInt .lss v114x153 v116x154) fun v117x155 =>
    cnd v117x155
      (ob (vIx 1 (σ152 7) (σ152 20)) fun v122x156 =>
    ob (vLoad v122x156 H152) fun v123x157 =>
    ob (vInt .lss v123x157 (.int .i64 1)) fun v124x158 =>
    gop v124x158 false (fun K159 => K159 (σ152 7) H152) H152 fun v126x160 H161 =>
    gop v124x158 false (fun K162 => K162 (σ152 20) H161) H161 fun v127x163 H164 =>
    gop v124x158 false (fun K165 => ob (vInt .add v127x163 (.int .i64 1)) fun u => K165 u H164) H164 fun v128x166 H167 =>
    gop v124x158 false (fun K168 => ob (vIx 1 v126x160 v128x166) fun u => K168 u H167) H167 fun v129x169 H170 =>
    gop v124x158 false (fun K171 => ob (vLoad v129x169 H170) fun u => K171 u H170) H170 fun v130x172 H173 =>
    gop v124x158 false (fun K174 => K174 (σ152 7) H173) H173 fun v131x175 H176 =>
    gop v124x158 false (fun K177 => K177 (σ152 20) H176) H176 fun v132x178 H179 =>
    gop v124x158 false (fun K180 => ob (vIx 1 v131x175 v132x178) fun u => K180 u H179) H179 fun v133x181 H182 =>
    gop v124x158 false (fun K183 => ob (vLoad v133x181 H182) fun u => K183 u H182) H182 fun v134x184 H185 =>
    gop v124x158 false (fun K186 => ob (vInt .lss v130x172 v134x184) fun u => K186 u H185) H185 fun v135x187 H188 =>
    ob (vPick v124x158 (.bool true) v135x187) fun v136x189 =>
    gop v136x189 false (fun K190 => K190 (σ152 7) H188) H188 fun v138x191 H192 =>
    gop v136x189 false (fun K193 => K193 (σ152 20) H192) H192 fun v139x194 H195 =>
    gop v136x189 false (fun K196 => ob (vInt .add v139x194 (.int .i64 1)) fun u => K196 u H195) H195 fun v140x197 H198 =>
    gop v136x189 false (fun K199 => ob (vIx 1 v138x191 v140x197) fun u => K199 u H198) H198 fun v141x200 H201 =>
    gop v136x189 false (fun K202 => ob (vLoad v141x200 H201) fun u => K202 u H201) H201 fun v142x203 H204 =>
    gop v136x189 false (fun K205 => K205 (σ152 7) H204) H204 fun v143x206 H207 =>
    gop v136x189 false (fun K208 => K208 (σ152 20) H207) H207 fun v144x209 H210 =>
    gop v136x189 false (fun K211 => ob (vIx 1 v143x206 v144x209) fun u => K211 u H210) H210 fun v145x212 H213 =>
    gop v136x189 false (fun K214 => ob (vLoad v145x212 H213) fun u => K214 u H213) H213 fun v146x215 H216 =>
    gop v136x189 false (fun K217 => ob (vInt .rem v142x203 v146x215) fun u => K217 u H216) H216 fun v147x218 H219 =>
    gop v136x189 false (fun K220 => ob (vInt .neq v147x218 (.int .i64 0)) fun u => K220 u H219) H219 fun v148x221 H222 =>
    ob (vPick v136x189 (.bool true) v148x221) fun v149x223 =>
    cnd v149x223
      (Q152 .ret (up (up (up (up (up (up (up (up (up (up (up (up (up (up (up (up (up (up (up (up (up (up (up (up (up (up (up (up (up (up (up (up (up (up (up (up σ152 113 (σ152 20)) 114 v114x153) 115 (σ152 7)) 116 v116x154) 117 v117x155) 120 (σ152 7)) 121 (σ152 20)) 122 v122x156) 123 v123x157) 124 v124x158) 125 v124x158) 126 v126x160) 127 v127x163) 128 v128x166) 129 v129x169) 130 v130x172) 131 v131x175) 132 v132x178) 133 v133x181) 134 v134x184) 135 v135x187) 136 v136x189) 137 v136x189) 138 v138x191) 139 v139x194) 140 v140x197) 141 v141x200) 142 v142x203) 143 v143x206) 144 v144x209) 145 v145x212) 146 v146x215) 147 v147x218) 148 v148x221) 149 v149x223) 4 (.bool false)) H222)
      (ob (vInt .add (σ152 20) (.int .i64 1)) fun v153x224 =>
    ob (vIx 1 (σ152 7) v153x224) fun v154x225 =>
    ob (vLoad v154x225 H222) fun v155x226 =>
    ob (vInt .add (σ152 19) v155x226) fun v156x227 =>
    ob (vInt .add (σ152 20) (.int .i64 2)) fun v119x228 =>
    Q152 .normal (up (up (up (up (up (up (up (up (up (up (up (up (up (up (up (up (up (up (up (up (up (up (up (up (up (up (up (up (up (up (up (up (up (up (up (up (up (up (up (up (up (up (up (up (up (up σ152 113 (σ152 20)) 114 v114x153) 115 (σ152 7)) 116 v116x154) 117 v117x155) 120 (σ152 7)) 121 (σ152 20)) 122 v122x156) 123 v123x157) 124 v124x158) 125 v124x158) 126 v126x160) 127 v127x163) 128 v128x166) 129 v129x169) 130 v130x172) 131 v131x175) 132 v132x178) 133 v133x181) 134 v134x184) 135 v135x187) 136 v136x189) 137 v136x189) 138 v138x191) 139 v139x194) 140 v140x197) 141 v141x200) 142 v142x203) 143 v143x206) 144 v144x209) 145 v145x212) 146 v146x215) 147 v147x218) 148 v148x221) 149 v149x223) 150 (σ152 19)) 151 (σ152 7)) 152 (σ152 20)) 153 v153x224) 154 v154x225) 155 v155x226) 156 v156x227) 19 v156x227) 118 (σ152 20)) 119 v119x228) 20 v119x228) H222))
      (Q152 (.exit 0) (up (up (up (up (up σ152 113 (σ152 20)) 114 v114x153) 115 (σ152 7)) 116 v116x154) 117 v117x155) H152)) (blkQ 0 (thenQ J123 (retQ prg [(.tmp 4)] K))) (up (up (up (up (up (up (up (up (up (up (up (up (up (up (up (up (up (up (up (up (up (up (up (up (up (up (up (up (up (up (up (up (up (up (up (up (up (up (up (up (up (up (up (up (up (up (up (up (up (up (up (up (up (up (up (up (up (up (up (up (up (up (up (up (up (up (up (up (up (up (up (up (up (up (up (up (up (up (up (up (up (up (up (up (up (up (up (up (up (up (up (up (up (up (up (up (up (up (up (up (up (up (S0 [a0, a1]) 4 (.bool false)) 28 a0) 29 a1) 30 v30x1) 31 a0) 32 v32x3) 5 v5x5) 33 a1) 34 v34x8) 35 v35x10) 6 v35x10) 37 v37x11) 38 v35x10) 39 v39x12) 36 v39x12) 40 v40x14) 41 v41x15) 42 v42x16) 7 v40x14) 8 v41x15) 9 v42x16) 44 v44x17) 45 v35x10) 46 v46x18) 43 v46x18) 47 v47x20) 48 v48x21) 49 v49x22) 10 v47x20) 11 v48x21) 12 v49x22) 51 v51x23) 52 v35x10) 53 v53x24) 50 v53x24) 54 v54x26) 55 v55x27) 13 v54x26) 14 v55x27) 57 v57x28) 58 v35x10) 59 v59x29) 56 v59x29) 60 v60x31) 61 v61x32) 15 v60x31) 16 v61x32) 63 v63x33) 64 v35x10) 65 v65x34) 62 v65x34) 66 v66x36) 67 v67x37) 17 v66x36) 18 v67x37) 68 v42x16) 69 v69x38) 70 v69x38) 71 v71x40) 72 v72x43) 73 v73x45) 74 v73x45) 75 v75x47) 76 v76x50) 77 v77x52) 78 v77x52) 79 v79x54) 80 v80x57) 81 v81x59) 82 v81x59) 83 v83x61) 84 v84x64) 85 v85x66) 86 v85x66) 87 v87x68) 88 v88x71) 89 v89x74) 90 v90x77) 91 v91x79) 92 v91x79) 93 v93x81) 94 v94x84) 95 v95x87) 96 v96x89) 97 v96x89) 98 v98x91) 99 v99x94) 100 v100x97) 101 v101x99) 102 v101x99) 103 v103x101) 104 v104x104) 105 v105x107) 106 v106x110) 107 v107x112) 108 v107x112) 109 v109x114) 110 v110x117) 111 v111x120) 112 v112x122) 19 (.int .i64 0)) 20 (.int .i64 0)) H121))
def O.laws_FnCycles : Nat → Nat × List Nat := fun i => bif Nat.beq i 16 then (0, [0, 1, 2, 3, 4, 5, 6, 7, 8, 9, 10, 11, 12, 13, 14, 15, 16, 17, 18, 19, 20, 21, 22, 23, 24, 25, 26, 27, 28, 29]) else (0, [])
theorem R.laws_FnCycles {a0 a1 : Value} {H : Hp} {K : Value → Hp → Prop} (h : F.laws_FnCycles a0 a1 H K) : HT prg I.laws_FnCycles [a0, a1].toArray H K :=
  HT_of_fev O.laws_FnCycles mixed Try.func5 (by kernel_rfl) (Eq.mpr (by kernel_rfl : fev prg O.laws_FnCycles Try.f5 [a0, a1] H K = F.laws_FnCycles a0 a1 H K) h)

end Go.Proofs.Ythmdmbbdjbhcoaa
/- Functions' texts over a partial heap. -/
namespace Go.Proofs.Ythmdmbbdjbhcoaa
open HL
set_option linter.unusedVariables false
set_option maxRecDepth 100000
set_option maxHeartbeats 4000000
end Go.Proofs.Ythmdmbbdjbhcoaa
/- Functions' texts over a partial heap. -/
namespace Go.Proofs.Ythmdmbbdjbhcoaa
open HL
set_option linter.unusedVariables false
set_option maxRecDepth 100000
set_option maxHeartbeats 4000000
end Go.Proofs.Ythmdmbbdjbhcoaa
/- All functions' texts. -/
/- What the small functions of lanes come to. -/
namespace Go.Proofs.Ythmdmbbdjbhcoaa
open HL
theorem C.spec_l00In {x lo hi : Int} {H : Hp} {K : Value → Hp → Prop} (hk : K (.bool (decide (lo ≤ x ∧ x ≤ hi))) H) : HT prg I.spec_l00In [.int .i64 x, .int .i64 lo, .int .i64 hi].toArray H K := by
 refine R.spec_l00In ?_
 unfold F.spec_l00In
 by_cases h : lo ≤ x
 ·simp only [vInt_geq, vInt_leq, ob_some, h, decide_true, gop_tt, vPick_t, true_and] at hk ⊢; exact hk
 ·simp only [vInt_geq, ob_some, h, decide_false, gop_ft, vPick_f, false_and] at hk ⊢; exact hk
theorem C.impl_within {x lo hi : Int} {H : Hp} {K : Value → Hp → Prop} (hk : K (.bool (decide (lo ≤ x ∧ x ≤ hi))) H) : HT prg I.impl_within [.int .i64 x, .int .i64 lo, .int .i64 hi].toArray H K := by
 refine R.impl_within ?_
 unfold F.impl_within
 by_cases h : lo ≤ x
 ·simp only [vInt_geq, vInt_leq, ob_some, h, decide_true, gop_tt, vPick_t, true_and] at hk ⊢; exact hk
 ·simp only [vInt_geq, ob_some, h, decide_false, gop_ft, vPick_f, false_and] at hk ⊢; exact hk
theorem C.impl_areWithin {a : Value} {l : List Int} {lo hi : Int} {H : Hp} {K : Value → Hp → Prop} (ha : Sl eI H a l) (hl : l.length ≤ 9223372036854775807) (hk : K (.bool (decide (∀ x ∈ l, lo ≤ x ∧ x ≤ hi))) H) :
    HT prg I.impl_areWithin [a, .int .i64 lo, .int .i64 hi].toArray H K := by
 refine R.impl_areWithin ?_
 unfold F.impl_areWithin jn; dsimp only
 rw [ha.len, ob_some]
 refine ⟨fun n σ H1 => ∃ i : Nat, n = l.length - i ∧ i ≤ l.length ∧ H1 = H ∧ σ 1 = .int .i64 lo ∧ σ 2 = .int .i64 hi ∧ σ 9 = a ∧ σ 10 = .int .i64 l.length ∧ σ 11 = .int .i64 i ∧ ∀ x ∈ l.take i, lo ≤ x ∧ x ≤ hi,
  ⟨_, 0, rfl, by omega, rfl, rfl, rfl, rfl, rfl, rfl, by simp⟩, ?_⟩
 rintro n σ H1 ⟨i, rfl, hi', rfl, h1, h2, h9, h10, h11, hall⟩
 simp only [h1, h2, h9, h10, h11, vInt_lss, ob_some]
 refine cnd_d (fun hlt => ?_) (fun hge => ?_)
 ·have hlt' : i < l.length := by omega
  rw [ha.ix (by omega) hlt, ob_some, ha.ld 0 (by omega) hlt, ob_some]
  refine C.impl_within ?_
  rw [vUn_not, ob_some]
  refine cnd_i (fun hb => ?_) (fun hb => ?_)
  ·refine retK (K := K) (v' := .bool false) rfl ?_
   rw [decide_eq_false] at hk
   ·exact hk
   ·intro hh
    have := hh _ (at_mem 0 l (i := i) (by omega) hlt)
    simp [this] at hb
  ·rw [vInt_add (by omega) (by omega), ob_some]
   refine nxt (l.length - (i + 1)) (by omega) ⟨i + 1, rfl, by omega, rfl, h1, h2, h9, h10, rfl, ?_⟩
   rw [take_at 0 l hlt']
   intro x hx
   rcases List.mem_append.mp hx with hx | hx
   ·exact hall x hx
   ·simp only [List.mem_singleton] at hx; subst hx; simpa using hb
 ·refine retK (K := K) (v' := .bool true) rfl ?_
  rw [decide_eq_true] at hk
  ·exact hk
  ·intro x hx
   rw [List.take_of_length_le (by omega)] at hall
   exact hall x hx
theorem C.impl_areMany {a : Value} {l : List Int} {n m lo hi : Int} {H : Hp} {K : Value → Hp → Prop} (ha : Sl eI H a l) (hl : l.length ≤ 9223372036854775807)
    (hk : K (.bool (decide ((n ≤ l.length ∧ l.length ≤ m) ∧ ∀ x ∈ l, lo ≤ x ∧ x ≤ hi))) H) :
    HT prg I.impl_areMany [a, .int .i64 n, .int .i64 m, .int .i64 lo, .int .i64 hi].toArray H K := by
 refine R.impl_areMany ?_
 unfold F.impl_areMany
 rw [ha.len, ob_some]
 refine C.impl_within ?_
 by_cases h : n ≤ l.length ∧ l.length ≤ m
 ·simp only [h, and_self, decide_true, gop_tt, true_and] at hk ⊢
  refine C.impl_areWithin ha hl ?_
  rw [vPick_t, ob_some]
  exact hk
 ·simp only [h, decide_false, gop_ft, vPick_f, ob_some, false_and] at hk ⊢
  exact hk
def isLane (l : List Int) : Prop := (1 ≤ (l.length : Int) ∧ (l.length : Int) ≤ 64) ∧ ∀ x ∈ l, -1 ≤ x ∧ x ≤ 5
instance (l : List Int) : Decidable (isLane l) := by unfold isLane; infer_instance
end Go.Proofs.Ythmdmbbdjbhcoaa
/- Structs that lie in cells of their own: what is read, what is written. -/
namespace Go.Proofs.Ythmdmbbdjbhcoaa.HL
/-- A pointer to a block of its own, whose cells are these. -/
def Cel (H : Hp) (p : Value) (cs : List Value) : Prop := ∃ r e, p = .pointer (some ⟨r, 0, none⟩) ∧ H r = some (.cells cs.toArray e (0, 0))
/-- The pointer to a field's first cell. -/
def fp (p : Value) (k : Nat) : Value := match p with | .pointer (some a) => .pointer (some (a.add k)) | _ => undef

theorem oc0 : ∀ x ∈ ([] : List Value), oneCell x = true := fun x hx => absurd hx (by simp)
theorem oc1 {a : Value} {l : List Value} (h : oneCell a = true) (t : ∀ x ∈ l, oneCell x = true) : ∀ x ∈ a :: l, oneCell x = true := fun x hx => by
  rcases List.mem_cons.mp hx with rfl | hx
  · exact h
  · exact t x hx
section
variable {H H' : Hp} {p u v : Value} {cs : List Value}
theorem Cel.le (h : Cel H p cs) (hl : Le H H') : Cel H' p cs := by
  obtain ⟨r, e, rfl, hr⟩ := h
  exact ⟨r, e, rfl, hl _ _ hr⟩
theorem Cel.off (h : Cel H p cs) (ho : Off v H H') (ha : Apart p v) : Cel H' p cs := by
  obtain ⟨r, e, rfl, hr⟩ := h
  exact ⟨r, e, rfl, ho _ _ hr (ha r rfl)⟩
theorem Cel.known (h : Cel H p cs) : ∀ b, bk p = some b → ∃ o, H b = some o := by
  obtain ⟨r, e, rfl, hr⟩ := h
  intro b hb
  simp only [bk, Option.some.injEq] at hb
  subst hb
  exact ⟨_, hr⟩
theorem Cel.apart (h : Cel H p cs) (hn : Nw H v) : Apart p v := Apart.of_nw h.known hn
theorem nw_i {cells : Array Value} {e : TypeId} {K : Value → Hp → Prop} (hk : ∀ p H', Cel H' p cells.toList → Nw H p → Le H H' → K p H') : nw cells e H K := by
  intro r hr
  refine hk _ _ ⟨r, e, rfl, by rw [Hp.put_same]⟩ ?_ (Le.put _ hr)
  intro b hb
  simp only [bk, Option.some.injEq] at hb
  subst hb
  exact hr
theorem Cel.fa (h : Cel H p cs) (k : Nat) : vFa k p = some (fp p k) := by
  obtain ⟨r, e, rfl, hr⟩ := h; rfl
theorem Cel.nilC (h : Cel H p cs) : vNilC p = some p := by
  obtain ⟨r, e, rfl, hr⟩ := h; rfl
theorem Cel.ld (h : Cel H p cs) (k : Nat) {x : Value} (hx : cs[k]? = some x) : vLoad (fp p k) H = some x := by
  obtain ⟨r, e, rfl, hr⟩ := h
  simp only [fp, vLoad, add_none, Hp.cell?, hr, Nat.zero_add]
  simpa using hx
theorem Cel.ld0 (h : Cel H p cs) {x : Value} (hx : cs[0]? = some x) : vLoad p H = some x := by
  obtain ⟨r, e, rfl, hr⟩ := h
  simp only [vLoad, Hp.cell?, hr]
  simpa using hx
theorem Cel.ldn (h : Cel H p cs) {n : Nat} (hn : cs.length = n) : vLoadN n p H = some (.agg cs.toArray) := by
  obtain ⟨r, e, rfl, hr⟩ := h
  simp only [vLoadN]
  rw [rd_cells (enc := id) ⟨r, 0, none⟩ n 0 cs hn (fun i hi => by
    simp only [add_none, Hp.cell?, hr, Nat.zero_add]
    simp [hi])]
  simp
theorem Cel.st (h : Cel H p cs) {k : Nat} {x : Value} {K : Hp → Prop} (hk : k < cs.length) (ho : oneCell x = true) (hz : x.cells = #[x]) (hK : ∀ H', Cel H' p (cs.set k x) → Off p H H' → K H') : st 1 (fp p k) x H K := by
  obtain ⟨r, e, rfl, hr⟩ := h
  simp only [HL.st, fp, add_none, Nat.zero_add, hz, List.toList_toArray, List.size_toArray, List.length_singleton, true_and, stC, Nat.add_zero]
  refine ⟨ho, ?_, ?_, ?_⟩
  · simp only [Hp.cell?, hr]; simp [hk]
  · simp only [Hp.frozen?, hr]; simp
  · refine hK _ ⟨r, e, rfl, ?_⟩ ?_
    · simp only [Hp.setCell, hr, Hp.put_same]; simp
    · intro b o hb hv
      simp only [bk, ne_eq, Option.some.injEq] at hv
      simp only [Hp.setCell, hr]
      rw [Hp.put_ne _ _ (Ne.symm hv)]
      exact hb
theorem Cel.st0 (h : Cel H p cs) {x : Value} {K : Hp → Prop} (hk : 0 < cs.length) (ho : oneCell x = true) (hz : x.cells = #[x]) (hK : ∀ H', Cel H' p (cs.set 0 x) → Off p H H' → K H') : HL.st 1 p x H K := by
  have : p = fp p 0 := by obtain ⟨r, e, rfl, hr⟩ := h; simp [fp, add_none]
  have h2 := h.st (K := K) hk ho hz hK
  rwa [← this] at h2
theorem Cel.stn (h : Cel H p cs) {ws : List Value} {n : Nat} {K : Hp → Prop} (hn : ws.length = n) (hl : cs.length = n) (ho : ∀ x ∈ ws, oneCell x = true) (hK : ∀ H', Cel H' p ws → Off p H H' → K H') : HL.st n p (.agg ws.toArray) H K := by
  obtain ⟨r, e, rfl, hr⟩ := h
  simp only [HL.st, Value.cells, List.size_toArray, hn, true_and]
  refine stC_run (b := r) (e := e) ws _ 0 cs.toArray H rfl rfl hr (by simp; omega) ho ?_
  intro H' cs' h1 h2 h3 h4 h5
  refine hK H' ⟨r, e, rfl, ?_⟩ ?_
  · rw [h1]
    have : cs' = ws.toArray := by
      apply Array.ext_getElem?
      intro i
      by_cases hi : i < ws.length
      · have := h4 i hi
        simp only [Nat.zero_add] at this
        rw [this]; simp [hi]
      · rw [Array.getElem?_eq_none (by rw [h2]; simp; omega), Array.getElem?_eq_none (by simp; omega)]
    rw [this]
  · intro b o hb hv
    simp only [bk, ne_eq, Option.some.injEq] at hv
    rw [h5 b (Ne.symm hv)]; exact hb
end
end Go.Proofs.Ythmdmbbdjbhcoaa.HL
/- Lists of truths: copies, and what is alike; lengths that are paid for. -/
namespace Go.Proofs.Ythmdmbbdjbhcoaa
open HL
set_option maxRecDepth 100000
end Go.Proofs.Ythmdmbbdjbhcoaa
/- Rules for the walks that a program writes. -/
namespace Go.Proofs.Ythmdmbbdjbhcoaa.HL
theorem ob_nd {p : Prop} [Decidable p] {K : Value → Prop} (h1 : p → K (.bool false)) (h2 : ¬ p → K (.bool true)) : ob (vUn .not (.bool (decide p))) K := by
  rw [vUn_not, ob_some]
  by_cases c : p
  · rw [decide_eq_true c]; exact h1 c
  · rw [decide_eq_false c]; exact h2 c
theorem vMx_max (k : IntKind) (a b : Int) : vMx true (.int k a) [.int k b] = some (.int k (max a b)) := by
  simp only [vMx]; congr 2; split <;> omega
theorem vInt_quoN {a b : Int} (ha : 0 ≤ a) (ha' : a < 9223372036854775808) (hb : 0 < b) : vInt .quo (.int .i64 a) (.int .i64 b) = some (.int .i64 (a / b)) := by
  rw [vInt_quo hb (by omega) ha', Int.tdiv_eq_ediv_of_nonneg ha]
theorem vInt_remN {a b : Int} (ha : 0 ≤ a) (hb : 0 < b) : vInt .rem (.int .i64 a) (.int .i64 b) = some (.int .i64 (a % b)) := by
  rw [vInt_rem (by omega), Int.tmod_eq_emod_of_nonneg ha]
theorem Apart.ap2 {H : Hp} {x u u' : Value} (hx : ∀ b, bk x = some b → ∃ o, H b = some o) (ha : Apart x u) (hb : ∀ b, bk u' = some b → bk u = some b ∨ H b = none) : Apart x u' := fun b h1 h2 => by
  rcases hb b h2 with h | h
  · exact ha b h1 h
  · obtain ⟨o, ho⟩ := hx b h1; rw [h] at ho; simp at ho
theorem Nw.ap2 {H0 H : Hp} {u u' : Value} (hn : Nw H0 u) (hl : Le H0 H) (hb : ∀ b, bk u' = some b → bk u = some b ∨ H b = none) : Nw H0 u' := fun b h => by
  rcases hb b h with h1 | h1
  · exact hn b h1
  · cases ho : H0 b with
    | none => rfl
    | some o => rw [hl b o ho] at h1; simp at h1
theorem apd_any {α : Type} {enc : α → Value} {z : Value} {b : Nat} {e : TypeId} {u t : Value} {l m : List α} {H : Hp} {K : Value → Hp → Prop} (o : Own enc H u l) (ot : Sl enc H t m) (ho : ∀ x, oneCell (enc x) = true) (hb : b ≤ 64) (hl : l.length + m.length ≤ 68719476736)
    (hk : ∀ u' H', Own enc H' u' (l ++ m) → Off u H H' → (∀ b, bk u' = some b → bk u = some b ∨ H b = none) → K u' H') : apd 1 b #[z] e u t H K := by
  refine o.apd ot ho (by omega) (fun c hc => ?_) hk
  have := nsc_le hc
  exact Nat.le_trans (Nat.mul_le_mul this hb) (by omega)
end Go.Proofs.Ythmdmbbdjbhcoaa.HL
/- Parts of slices; slices that are put together. -/
namespace Go.Proofs.Ythmdmbbdjbhcoaa
open HL
set_option maxRecDepth 100000
namespace HL
theorem Sl.cut {α : Type} {enc : α → Value} {H : Hp} {v : Value} {l : List α} (h : Sl enc H v l) {lo hi : Int} (h0 : 0 ≤ lo) (h1 : lo ≤ hi) (h2 : hi ≤ l.length) :
    ∃ x, vSl3 1 v (some (.int .i64 lo)) (some (.int .i64 hi)) none = some x ∧ (hi = l.length → vSl3 1 v (some (.int .i64 lo)) none none = some x) ∧ (lo = 0 → vSl3 1 v none (some (.int .i64 hi)) none = some x) ∧ (lo = 0 → hi = l.length → vSl3 1 v none none none = some x) ∧
      Sl enc H x ((l.drop lo.toNat).take (hi.toNat - lo.toNat)) ∧ (∀ b, bk x = some b → bk v = some b) := by
  obtain ⟨a, c, rfl, hc, hr⟩ := h
  have e1 : bnd (some (.int .i64 hi)) c l.length = some hi.toNat := by simp only [bnd]; rw [if_pos ⟨by omega, by omega⟩]
  have e2 : bnd (some (.int .i64 lo)) hi.toNat 0 = some lo.toNat := by simp only [bnd]; rw [if_pos ⟨by omega, by omega⟩]
  have e3 : bnd none c l.length = some l.length := rfl
  refine ⟨.slice (if c = lo.toNat then a else a.map (·.add (lo.toNat * 1))) (hi.toNat - lo.toNat) (c - lo.toNat), ?_, ?_, ?_, ?_, ?_, ?_⟩
  · simp only [vSl3, vSl, e1, e2]
  · intro e
    subst e
    have e2' : bnd (some (.int .i64 lo)) l.length 0 = some lo.toNat := by simpa using e2
    simp only [vSl3, vSl, e3, e2', Int.toNat_natCast]
  · intro e
    subst e
    simp only [vSl3, vSl, e1]; rfl
  · intro e e'
    subst e e'
    simp only [vSl3, vSl, e3, Int.toNat_natCast]; rfl
  · have hl : ((l.drop lo.toNat).take (hi.toNat - lo.toNat)).length = hi.toNat - lo.toNat := by simp; omega
    refine ⟨_, _, by rw [hl], by rw [hl]; omega, fun i hi' => ?_⟩
    rw [hl] at hi'
    obtain ⟨ad, rfl, hh⟩ := hr (lo.toNat + i) (by omega)
    rw [if_neg (by omega)]
    refine ⟨ad.add (lo.toNat * 1), rfl, ?_⟩
    have e4 : (ad.add (lo.toNat * 1)).add i = ad.add (lo.toNat + i) := by
      rw [Nat.mul_one]
      unfold Addr.add
      by_cases hx : lo.toNat = 0
      · rw [if_pos hx, hx, Nat.zero_add]
      · by_cases hy : i = 0
        · subst hy; simp
        · rw [if_neg hx, if_neg hy, if_neg (by omega)]; simp [Nat.add_assoc]
    rw [e4, hh]
    simp
  · intro b hb
    by_cases hcl : c = lo.toNat
    · rw [if_pos hcl] at hb
      cases a with
      | none => simp [bk] at hb
      | some ad => simp only [bk] at hb; rw [if_pos (by omega)] at hb; simp at hb
    · rw [if_neg hcl] at hb
      cases a with
      | none => simp [bk] at hb
      | some ad =>
        have hbl : ∀ k, (ad.add k).block = ad.block := fun k => by unfold Addr.add; split <;> rfl
        simp only [Option.map_some, bk] at hb ⊢
        split at hb
        · simp at hb
        · rw [if_neg (by omega)]; rw [hbl] at hb; exact hb
end HL
end Go.Proofs.Ythmdmbbdjbhcoaa
/- Rings: what is one, turns, which turn is the least. -/
namespace Go.Proofs.Ythmdmbbdjbhcoaa
open HL
/-- A ring with some states. -/
def ringP (st : Int) (l : List Int) : Prop := (∀ x ∈ l, 0 ≤ x ∧ x ≤ st - 1) ∧ 1 ≤ (l.length : Int) ∧ (l.length : Int) ≤ 64
instance (st : Int) (l : List Int) : Decidable (ringP st l) := by unfold ringP; infer_instance
def trnP (l : List Int) (d : Int) : Prop := ringP 3 l ∧ 0 ≤ d ∧ d ≤ 64
instance (l : List Int) (d : Int) : Decidable (trnP l d) := by unfold trnP; infer_instance
end Go.Proofs.Ythmdmbbdjbhcoaa
/- Rules on rings, by plain law: powers, digits, numbers, tables, steps. -/
namespace Go.Proofs.Ythmdmbbdjbhcoaa
open HL
set_option maxRecDepth 100000
/-- A power. -/
def pwr (b n : Int) : Int := b ^ n.toNat
theorem pow_bnd {b : Int} (h0 : 1 ≤ b) (h1 : b ≤ 3) : ∀ i : Nat, 1 ≤ b ^ i ∧ b ^ i ≤ 3 ^ i
  | 0 => by simp
  | i + 1 => by
    have ⟨a, c⟩ := pow_bnd h0 h1 i
    rw [Int.pow_succ, Int.pow_succ]
    exact ⟨Int.le_trans (by omega) (Int.mul_le_mul a h0 (by omega) (by omega)), Int.mul_le_mul c h1 (by omega) (by omega)⟩
theorem pow3_le : ∀ {i j : Nat}, i ≤ j → (3 : Int) ^ i ≤ 3 ^ j := fun {i j} h => by
  obtain ⟨k, rfl⟩ := Nat.exists_eq_add_of_le h
  rw [Int.pow_add]
  have a := (pow_bnd (b := 3) (by omega) (by omega) i).1
  have c := (pow_bnd (b := 3) (by omega) (by omega) k).1
  have := Int.mul_le_mul_of_nonneg_left c (show (0 : Int) ≤ 3 ^ i by omega)
  omega
theorem pow_le16 {b : Int} (h0 : 1 ≤ b) (h1 : b ≤ 3) {i : Nat} (hi : i ≤ 16) : 1 ≤ b ^ i ∧ b ^ i ≤ 43046721 := by
  have ⟨a, c⟩ := pow_bnd h0 h1 i
  have := pow3_le hi
  have e : (3 : Int) ^ 16 = 43046721 := by decide
  omega
theorem pwr_bnd {b n : Int} (h0 : 1 ≤ b) (h1 : b ≤ 3) (hn : n ≤ 16) : 1 ≤ pwr b n ∧ pwr b n ≤ 43046721 := pow_le16 h0 h1 (by omega)
/-- The digits of a number, the greatest one first. -/
def digL (n b : Int) (k : Nat) : List Int := (List.range k).map fun (t : Nat) => n / b ^ (k - 1 - t) % b
theorem digL_len (n b : Int) (k : Nat) : (digL n b k).length = k := by simp [digL]
/-- The digits when j of them are told. -/
def digF (n b : Int) (k j : Nat) : List Int := (List.range k).map fun (t : Nat) => if k - j ≤ t then n / b ^ (k - 1 - t) % b else 0
theorem digF_len (n b : Int) (k j : Nat) : (digF n b k j).length = k := by simp [digF]
theorem digF_zero (n b : Int) (k : Nat) : digF n b k 0 = List.replicate k 0 := by
  apply List.ext_getElem
  · simp [digF]
  · intro i h1 h2
    simp only [digF_len] at h1
    simp only [digF, List.getElem_map, List.getElem_range, List.getElem_replicate]
    rw [if_neg (by omega)]
theorem digF_set {n b : Int} {k j : Nat} (hj : j < k) : (digF n b k j).set (k - 1 - j) (n / b ^ j % b) = digF n b k (j + 1) := by
  apply List.ext_getElem
  · simp [digF]
  · intro i h1 h2
    simp only [digF_len] at h2
    simp only [digF, List.getElem_set, List.getElem_map, List.getElem_range]
    by_cases e : k - 1 - j = i
    · subst e; rw [if_pos rfl, if_pos (by omega), show k - 1 - (k - 1 - j) = j by omega]
    · rw [if_neg e]
      by_cases e2 : k - j ≤ i
      · rw [if_pos e2, if_pos (by omega)]
      · rw [if_neg e2, if_neg (by omega)]
theorem digF_end {n b : Int} {k j : Nat} (h : k ≤ j) : digF n b k j = digL n b k := by
  apply List.ext_getElem
  · simp [digF, digL]
  · intro i h1 h2
    simp only [digF, digL, List.getElem_map, List.getElem_range]
    rw [if_pos (by omega)]
theorem div_pow_succ {n b : Int} (h : 0 ≤ b) (j : Nat) : n / b ^ j / b = n / b ^ (j + 1) := by
  rw [Int.pow_succ, Int.ediv_ediv_of_nonneg (Int.pow_nonneg h)]
theorem div_pow_bnd {n b : Int} (h0 : 0 ≤ n) (h : 1 ≤ b) (j : Nat) : 0 ≤ n / b ^ j ∧ n / b ^ j ≤ n := by
  have hp : 0 < b ^ j := Int.pow_pos (by omega)
  exact ⟨Int.ediv_nonneg h0 (by omega), Int.ediv_le_self _ h0⟩
theorem digL_in {n b : Int} {k : Nat} (h : 1 ≤ b) : ∀ x ∈ digL n b k, 0 ≤ x ∧ x ≤ b - 1 := by
  intro x hx
  simp only [digL, List.mem_map, List.mem_range] at hx
  obtain ⟨t, _, rfl⟩ := hx
  have a := Int.emod_nonneg (n / b ^ (k - 1 - t)) (b := b) (by omega)
  have c := Int.emod_lt_of_pos (n / b ^ (k - 1 - t)) (b := b) (by omega)
  omega
/-- The number with digits, the greatest one first. -/
def numL (b : Int) (l : List Int) : Int := l.foldl (fun a d => a * b + d) 0
theorem numL_snoc (b : Int) (l : List Int) (x : Int) : numL b (l ++ [x]) = numL b l * b + x := by simp [numL]
theorem numL_nil (b : Int) : numL b [] = 0 := rfl
theorem numL_take {b : Int} {l : List Int} {i : Nat} (h : i < l.length) : numL b (l.take (i + 1)) = numL b (l.take i) * b + at_ 0 l (i : Int) := by
  rw [take_at 0 l h, numL_snoc]
theorem numA_bnd {b : Int} (hb : 1 ≤ b) : ∀ {l : List Int} {a : Int}, 0 ≤ a → (∀ x ∈ l, 0 ≤ x ∧ x ≤ b - 1) → 0 ≤ l.foldl (fun a d => a * b + d) a ∧ l.foldl (fun a d => a * b + d) a < (a + 1) * b ^ l.length
  | [], a, ha, _ => by simp; omega
  | x :: l, a, ha, h => by
    have hx := h x (by simp)
    have h1 : 0 ≤ a * b := Int.mul_nonneg ha (by omega)
    have ⟨p, q⟩ := numA_bnd hb (l := l) (a := a * b + x) (by omega) (fun y hy => h y (by simp [hy]))
    rw [List.foldl_cons, List.length_cons, Int.pow_succ]
    refine ⟨p, Int.lt_of_lt_of_le q ?_⟩
    rw [show (a + 1) * (b ^ l.length * b) = (a * b + b) * b ^ l.length by rw [Int.mul_comm (b ^ l.length) b, ← Int.mul_assoc, Int.add_mul, Int.one_mul]]
    exact Int.mul_le_mul_of_nonneg_right (by omega) (Int.pow_nonneg (by omega))
theorem numL_bnd {b : Int} (hb : 1 ≤ b) {l : List Int} (h : ∀ x ∈ l, 0 ≤ x ∧ x ≤ b - 1) : 0 ≤ numL b l ∧ numL b l < b ^ l.length := by
  have := numA_bnd hb (a := 0) (by omega) h
  rw [Int.zero_add, Int.one_mul] at this
  exact this
theorem numL_bnd16 {b : Int} {l : List Int} (h0 : 1 ≤ b) (h1 : b ≤ 3) (h : ∀ x ∈ l, 0 ≤ x ∧ x ≤ b - 1) (hl : l.length ≤ 16) : 0 ≤ numL b l ∧ numL b l < 43046721 := by
  have ⟨a, c⟩ := numL_bnd h0 h
  have := (pow_le16 h0 h1 hl).2
  omega
theorem take_in {p : Int → Prop} {l : List Int} {n : Nat} (h : ∀ x ∈ l, p x) : ∀ x ∈ l.take n, p x := fun x hx => h x (List.mem_of_mem_take hx)
/-- A rule. -/
def ruleP (st rc : Int) (T : List Int) : Prop := (st = 2 ∨ st = 3) ∧ (0 ≤ rc ∧ rc ≤ 2) ∧ (T.length : Int) = pwr st (2 * rc + 1) ∧ ∀ x ∈ T, 0 ≤ x ∧ x ≤ st - 1
instance (st rc : Int) (T : List Int) : Decidable (ruleP st rc T) := by unfold ruleP; infer_instance
theorem ruleP_len {st rc : Int} {T : List Int} (h : ruleP st rc T) : 2 ≤ (T.length : Int) ∧ (T.length : Int) ≤ 243 := by
  obtain ⟨h1, h2, h3, _⟩ := h
  rw [h3]
  rcases h1 with rfl | rfl <;> (have : rc = 0 ∨ rc = 1 ∨ rc = 2 := by omega) <;> rcases this with rfl | rfl | rfl <;> decide
/-- The number of the cells around a cell, the first t of them. -/
def hdN (st rc : Int) (ring : List Int) (i : Int) : Nat → Int
  | 0 => 0
  | t + 1 => hdN st rc ring i t * st + at_ 0 ring ((i - rc + (t : Int)) % (ring.length : Int))
/-- What a cell becomes. -/
def tdN (st rc : Int) (T ring : List Int) (i : Int) : Int := at_ 0 T (hdN st rc ring i (2 * rc + 1).toNat)
/-- The next ring, its first n cells. -/
def stpF (st rc : Int) (T ring : List Int) (n : Nat) : List Int := (List.range n).map fun (i : Nat) => tdN st rc T ring i
def stpL (st rc : Int) (T ring : List Int) : List Int := stpF st rc T ring ring.length
theorem stpF_len (st rc : Int) (T ring : List Int) (n : Nat) : (stpF st rc T ring n).length = n := by simp [stpF]
theorem stpL_len (st rc : Int) (T ring : List Int) : (stpL st rc T ring).length = ring.length := stpF_len _ _ _ _ _
theorem stpF_succ (st rc : Int) (T ring : List Int) (n : Nat) : stpF st rc T ring n ++ [tdN st rc T ring n] = stpF st rc T ring (n + 1) := by simp [stpF, List.range_succ]
theorem hdN_bnd {st rc : Int} {ring : List Int} (h0 : 1 ≤ st) (hr : ∀ x ∈ ring, 0 ≤ x ∧ x ≤ st - 1) (hn : 0 < ring.length) (i : Int) : ∀ t, 0 ≤ hdN st rc ring i t ∧ hdN st rc ring i t < st ^ t
  | 0 => by simp [hdN]
  | t + 1 => by
    have ⟨a, c⟩ := hdN_bnd (rc := rc) h0 hr hn i t
    have b1 := Int.emod_nonneg (i - rc + (t : Int)) (b := (ring.length : Int)) (by omega)
    have b2 := Int.emod_lt_of_pos (i - rc + (t : Int)) (b := (ring.length : Int)) (by omega)
    have hx := hr _ (at_mem 0 ring b1 b2)
    rw [hdN, Int.pow_succ]
    have h1 : 0 ≤ hdN st rc ring i t * st := Int.mul_nonneg a (by omega)
    have h2 : (hdN st rc ring i t + 1) * st ≤ st ^ t * st := Int.mul_le_mul_of_nonneg_right (by omega) (by omega)
    rw [Int.add_mul] at h2
    omega
theorem hdN_bnd5 {st rc : Int} {ring : List Int} (h0 : 1 ≤ st) (h1 : st ≤ 3) (hr : ∀ x ∈ ring, 0 ≤ x ∧ x ≤ st - 1) (hn : 0 < ring.length) (i : Int) {t : Nat} (ht : t ≤ 16) : 0 ≤ hdN st rc ring i t ∧ hdN st rc ring i t < 43046721 := by
  have ⟨a, c⟩ := hdN_bnd (rc := rc) h0 hr hn i t
  have := (pow_le16 h0 h1 ht).2
  omega
theorem hdN_ix {st rc : Int} {T ring : List Int} (h : ruleP st rc T) (hr : ∀ x ∈ ring, 0 ≤ x ∧ x ≤ st - 1) (hn : 0 < ring.length) (i : Int) : 0 ≤ hdN st rc ring i (2 * rc + 1).toNat ∧ hdN st rc ring i (2 * rc + 1).toNat < T.length := by
  obtain ⟨h1, h2, h3, _⟩ := h
  have := hdN_bnd (rc := rc) (show 1 ≤ st by omega) hr hn i (2 * rc + 1).toNat
  rw [h3]; exact this
theorem tdN_in {st rc : Int} {T ring : List Int} (h : ruleP st rc T) (hr : ∀ x ∈ ring, 0 ≤ x ∧ x ≤ st - 1) (hn : 0 < ring.length) (i : Int) : 0 ≤ tdN st rc T ring i ∧ tdN st rc T ring i ≤ st - 1 := by
  have := hdN_ix h hr hn i
  exact h.2.2.2 _ (at_mem 0 T this.1 this.2)
theorem stpF_in {st rc : Int} {T ring : List Int} (h : ruleP st rc T) (hr : ∀ x ∈ ring, 0 ≤ x ∧ x ≤ st - 1) (hn : 0 < ring.length) (n : Nat) : ∀ x ∈ stpF st rc T ring n, 0 ≤ x ∧ x ≤ st - 1 := by
  intro x hx
  simp only [stpF, List.mem_map, List.mem_range] at hx
  obtain ⟨i, _, rfl⟩ := hx
  exact tdN_in h hr hn i
theorem stpL_ring {st rc : Int} {T ring : List Int} (h : ruleP st rc T) (hr : ringP st ring) : ringP st (stpL st rc T ring) := by
  refine ⟨stpF_in h hr.1 (by have := hr.2; omega) _, ?_, ?_⟩ <;> rw [stpL_len]
  · exact hr.2.1
  · exact hr.2.2
theorem fmod_eq {a n : Int} (hn : 0 < n) : (a.tmod n + n) % n = a % n ∧ 0 ≤ a.tmod n + n ∧ a.tmod n + n < 2 * n := by
  have h1 := Int.tmod_lt_of_pos a hn
  have h2 : -n < a.tmod n := by
    rcases Int.le_total 0 a with h | h
    · have := Int.tmod_nonneg n h; omega
    · have e : (-a).tmod n = - a.tmod n := Int.neg_tmod a n
      have := Int.tmod_lt_of_pos (-a) hn
      omega
  refine ⟨?_, by omega, by omega⟩
  rw [Int.add_emod_right]
  have e := Int.mul_tdiv_add_tmod a n
  conv => rhs; rw [← e]
  rw [Int.add_comm, Int.add_mul_emod_self_left]
end Go.Proofs.Ythmdmbbdjbhcoaa
/- Fields: which are valid, which are plain, and what lies where, round and round. -/
namespace Go.Proofs.Ythmdmbbdjbhcoaa
open HL
set_option maxRecDepth 100000
def sidesF (r c : Int) : Prop := (1 ≤ r ∧ r ≤ 24) ∧ (1 ≤ c ∧ c ≤ 24)
instance (r c : Int) : Decidable (sidesF r c) := by unfold sidesF; infer_instance
/-- A field whose cells are from 0 to n. -/
def fieldN (n r c : Int) (l : List Int) : Prop := sidesF r c ∧ (l.length : Int) = r * c ∧ ∀ x ∈ l, 0 ≤ x ∧ x ≤ n
instance (n r c : Int) (l : List Int) : Decidable (fieldN n r c l) := by unfold fieldN; infer_instance
theorem fm_eq {a b : Int} (hb : 0 < b) : (a.tmod b + b).tmod b = a % b := by
  have h0 : 0 ≤ a.tmod b + b := by have := Int.lt_tmod_of_pos a hb; omega
  rw [Int.tmod_eq_emod_of_nonneg h0, Int.tmod_def, show a - b * a.tdiv b + b = a + b * (1 - a.tdiv b) by rw [Int.mul_sub, Int.mul_one]; omega, Int.add_mul_emod_self_left]
theorem tmod_bnd {a b : Int} (hb : 0 < b) : -b < a.tmod b ∧ a.tmod b < b := ⟨by have := Int.lt_tmod_of_pos a hb; omega, Int.tmod_lt_of_pos a hb⟩
theorem C.floorMod {a b : Int} {H : Hp} {K : Value → Hp → Prop} (h0 : -1000000 ≤ a) (h1 : a ≤ 1000000) (h2 : 0 < b) (h3 : b ≤ 1000000) (hk : K (.int .i64 (a % b)) H) : HT prg I.impl_floorMod [.int .i64 a, .int .i64 b].toArray H K := by
 refine R.impl_floorMod ?_
 unfold F.impl_floorMod
 have t1 := tmod_bnd (a := a) (b := b) h2
 rw [vInt_rem (by omega), ob_some, vInt_add (by omega) (by omega), ob_some, vInt_rem (by omega), ob_some, fm_eq h2]
 exact hk
end Go.Proofs.Ythmdmbbdjbhcoaa
/- Fields that are made by a function of rows and columns, and fields that grow. -/
namespace Go.Proofs.Ythmdmbbdjbhcoaa
open HL
set_option maxRecDepth 100000
theorem Apart.app {H : Hp} {x u u' : Value} (hx : ∀ b, bk x = some b → ∃ o, H b = some o) (ha : Apart x u) (hb : ∀ b, bk u' = some b → bk u = some b ∨ H b = none) : Apart x u' := fun b h1 h2 => by
  rcases hb b h2 with h | h
  · exact ha b h1 h
  · obtain ⟨o, ho⟩ := hx b h1; rw [h] at ho; simp at ho
theorem Nw.app {H0 H : Hp} {u u' : Value} (hn : Nw H0 u) (hl : Le H0 H) (hb : ∀ b, bk u' = some b → bk u = some b ∨ H b = none) : Nw H0 u' := fun b h => by
  rcases hb b h with h1 | h1
  · exact hn b h1
  · cases ho : H0 b with
    | none => rfl
    | some o => rw [hl b o ho] at h1; simp at h1
theorem bS_i {α : Type} {enc : α → Value} {len : Nat} {z : Value} {e : TypeId} {parts : List (Nat × Value)} {l : List α} {H : Hp} {K : Value → Hp → Prop} (h1 : len ≤ 1000) (hl : l.length = len)
    (hf : Instr.fill (fun i => some (i * 1, 1)) (if len * 1 = 0 then #[] else zrow #[z] (len * 1)) parts = some (l.map enc).toArray) (hk : ∀ v H', Own enc H' v l → Nw H v → Le H H' → K v H') : bS 1 len #[z] e parts H K := by
  refine ⟨by omega, ?_⟩
  rw [hf]
  intro r hr
  subst hl
  refine hk _ _ ⟨some ⟨r, 0, none⟩, l.length, rfl, Nat.le_refl _, fun _ => ⟨r, 0, _, e, rfl, Hp.put_same _ _ _, by simp, fun i hi => by simp [hi]⟩⟩ ?_ (Le.put _ hr)
  intro b hb
  simp only [bk] at hb
  split at hb
  · simp at hb
  · simp only [Option.some.injEq] at hb; subst hb; exact hr
end Go.Proofs.Ythmdmbbdjbhcoaa
/- Lanes that are switched: what the program's and the reference's functions come to. -/
namespace Go.Proofs.Ythmdmbbdjbhcoaa
open HL
set_option maxRecDepth 100000
/-- May the car at i leave lane a for lane b? -/
def chg (a b : List Int) (i : Int) : Prop :=
  0 ≤ at_ 0 a i ∧ 0 ≤ at_ 0 a ((i + 1).tmod a.length) ∧ at_ 0 b i < 0 ∧ at_ 0 b ((i + 1).tmod a.length) < 0 ∧ at_ 0 b ((i + a.length - 1).tmod a.length) < 0
instance (a b : List Int) (i : Int) : Decidable (chg a b i) := by unfold chg; infer_instance
def okSw (l m : List Int) : Prop := isLane l ∧ isLane m ∧ l.length = m.length
instance (l m : List Int) : Decidable (okSw l m) := by unfold okSw; infer_instance
end Go.Proofs.Ythmdmbbdjbhcoaa
/- What the small functions of structs come to: copies, sizes, what is alike. -/
namespace Go.Proofs.Ythmdmbbdjbhcoaa
open HL
set_option maxRecDepth 100000
end Go.Proofs.Ythmdmbbdjbhcoaa
/- What says whether lists are equal, and whether gases are. -/
namespace Go.Proofs.Ythmdmbbdjbhcoaa
open HL
set_option maxRecDepth 100000
end Go.Proofs.Ythmdmbbdjbhcoaa
/- Rings: lists of one ring that are searched. -/
namespace Go.Proofs.Ythmdmbbdjbhcoaa
open HL
set_option maxRecDepth 100000
end Go.Proofs.Ythmdmbbdjbhcoaa
/- New slices, and places in rows, for seats without fields. -/
namespace Go.Proofs.Ythmdmbbdjbhcoaa
open HL
set_option maxRecDepth 100000
end Go.Proofs.Ythmdmbbdjbhcoaa
/- Rules on rings: tables, digits, steps. -/
namespace Go.Proofs.Ythmdmbbdjbhcoaa
open HL
set_option maxRecDepth 100000
theorem all_take {l : List Int} {i : Nat} {p : Int → Prop} (h : ∀ x ∈ l.take i, p x) (hi : i < l.length) (hp : p (at_ 0 l (i : Int))) : ∀ x ∈ l.take (i + 1), p x := by
  rw [take_at 0 l hi]
  intro x hx
  rcases List.mem_append.mp hx with hx | hx
  · exact h x hx
  · simp only [List.mem_singleton] at hx; subst hx; exact hp
theorem mul3_bnd {a b : Int} (h : 0 ≤ a) (b0 : 1 ≤ b) (b1 : b ≤ 3) : 0 ≤ a * b ∧ a * b ≤ 3 * a := by
  refine ⟨Int.mul_nonneg h (by omega), ?_⟩
  have := Int.mul_le_mul_of_nonneg_left b1 h
  omega
theorem stp_set {st rc : Int} {T l : List Int} {i : Nat} (h : i < l.length) : (stpF st rc T l i ++ List.replicate (l.length - i) (0 : Int)).set (i : Int).toNat (tdN st rc T l (i : Int)) = stpF st rc T l (i + 1) ++ List.replicate (l.length - (i + 1)) 0 := by
  rw [Int.toNat_natCast, List.set_append_right _ _ (by rw [stpF_len]; omega), ← stpF_succ, List.append_assoc]
  congr 1
  rw [show i - (stpF st rc T l i).length = 0 by rw [stpF_len]; omega, show l.length - i = (l.length - (i + 1)) + 1 by omega, List.replicate_succ]; rfl
theorem C.spec_l02Ring {va : Value} {st : Int} {l : List Int}  {H : Hp} {K : Value → Hp → Prop} (hva0 : Sl eI H va l) (k1 : l.length ≤ 9223372036854775807) (s0 : 0 ≤ st) (s1 : st ≤ 100)
    (hk : ∀ H', Le H H' → K (.bool (decide (ringP st l))) H') : HT prg I.spec_l02Ring [va, (.int .i64 (st))].toArray H K := by
 have lE := Le.refl H
 have hva := hva0
 refine R.spec_l02Ring ?_
 unfold F.spec_l02Ring
 refine jn_i (fun σ' H' => σ' 0 = va ∧ Le H H' ∧ ∀ x ∈ l, 0 ≤ x ∧ x ≤ st - 1) (fun σ1 H1 hP => ?_) (fun J1 hJ1 => ?_)
 ·skip
  obtain ⟨g0L1, lE, ho0⟩ := hP
  have hva := hva0.le lE
  try simp only [g0L1]
  refine ob_i (hva.len) ?_
  refine ob_i (vInt_geq _ _ _) ?_
  by_cases hc2 : 1 ≤ (((l).length : Int))
  ·skip
   refine gop_e (decide_eq_true hc2) ?_
   refine gop_rt ?_
   refine gop_e (decide_eq_true hc2) ?_
   refine gop_rt ?_
   refine ob_i (hva.len) ?_
   refine gop_e (decide_eq_true hc2) ?_
   refine gop_rt ?_
   refine ob_i (vInt_leq _ _ _) ?_
   refine ob_i (vPick_et (decide_eq_true hc2) _ _) ?_
   skip
   exact keq (K := K) (by rw [show decide ((((l).length : Int)) ≤ 64) = decide (ringP st l) from decide_eq_decide.mpr (by exact ⟨fun h => ⟨ho0, by omega, h⟩, fun h => h.2.2⟩)]) (hk   _    lE)
  ·skip
   refine gop_e (decide_eq_false hc2) ?_
   refine gop_sf ?_
   refine gop_e (decide_eq_false hc2) ?_
   refine gop_sf ?_
   refine gop_e (decide_eq_false hc2) ?_
   refine gop_sf ?_
   refine ob_i (vPick_ef (decide_eq_false hc2) _ _) ?_
   skip
   exact keq (K := K) (by rw [decide_eq_false (show ¬ (ringP st l) from by intro h; first | (have h1 := h.1 _ (at_mem 0 l (i := (i : Int)) (by omega) (by omega)); omega) | (have h2 := h.2; omega))]) (hk   _    lE)
 refine ⟨fun n' σ' H' => ∃ i : Nat, n' = l.length - i ∧ i ≤ l.length ∧ σ' 0 = va ∧ σ' 1 = (.int .i64 (st)) ∧ σ' 5 = (.int .i64 ((i : Int))) ∧ Le H H' ∧ ∀ x ∈ l.take i, 0 ≤ x ∧ x ≤ st - 1,
  ⟨_, 0, rfl, by omega, rfl, rfl, (congrArg (Value.int .i64) (by first | omega | rfl | (simp; done))), lE, (by simp)⟩, ?_⟩
 rintro n3 σ3 H3 ⟨i, rfl, hiN, g0L3, g1L3, g5L3, lE, hm0⟩
 have hva := hva0.le lE
 try simp only [g0L3, g1L3, g5L3]
 refine ob_i (hva.len) ?_
 refine ob_i (vInt_lss _ _ _) ?_
 refine cnd_d (fun hg4 => ?_) (fun hg4 => ?_)
 ·skip
  have ti := hg4
  refine ob_i (hva.ix (by omega) (by omega)) ?_
  refine ob_i (hva.ld 0 (by omega) (by omega)) ?_
  refine ob_i (vInt_sub (by omega) (by omega)) ?_
  refine C.spec_l00In  ?_
  refine ob_nd (fun hc5 => ?_) (fun hc5 => ?_)
  ·skip
   refine cnd_f1 ?_
   refine ob_i (vInt_add (by omega) (by omega)) ?_
   exact nxt (l.length - (i + 1)) (by omega) ⟨i + 1, rfl, by omega, g0L3, g1L3, (congrArg (Value.int .i64) (by first | omega | rfl | (simp; done))), lE, (all_take hm0 (by omega) (by assumption))⟩
  ·skip
   refine cnd_t1 ?_
   refine retK (K := K) (v' := (.bool false)) rfl ?_
   skip
   exact keq (K := K) (by rw [decide_eq_false (show ¬ (ringP st l) from by intro h; first | (have h1 := h.1 _ (at_mem 0 l (i := (i : Int)) (by omega) (by omega)); omega) | (have h2 := h.2; omega))]) (hk   _    lE)
 ·skip
  have ti := hg4
  exact hJ1 _ _ ⟨g0L3, lE, (by rw [List.take_of_length_le (by omega)] at hm0; exact hm0)⟩
theorem C.impl_areStates {st : Int}  {H : Hp} {K : Value → Hp → Prop}
    (hk : ∀ H', Le H H' → K (.bool (decide (st = 2 ∨ st = 3))) H') : HT prg I.impl_areStates [(.int .i64 (st))].toArray H K := by
 have lE := Le.refl H
 refine R.impl_areStates ?_
 unfold F.impl_areStates
 refine ob_i (vInt_eql _ _ _) ?_
 by_cases hc1 : st = 2
 ·skip
  refine gop_e (decide_eq_true hc1) ?_
  refine gop_st ?_
  refine gop_e (decide_eq_true hc1) ?_
  refine gop_st ?_
  refine ob_i (vPick_et (decide_eq_true hc1) _ _) ?_
  skip
  exact keq (K := K) (by rw [decide_eq_true (show (st = 2 ∨ st = 3) from by omega)]) (hk   _    lE)
 ·skip
  refine gop_e (decide_eq_false hc1) ?_
  refine gop_rf ?_
  refine gop_e (decide_eq_false hc1) ?_
  refine gop_rf ?_
  refine ob_i (vInt_eql _ _ _) ?_
  refine ob_i (vPick_ef (decide_eq_false hc1) _ _) ?_
  skip
  exact keq (K := K) (by rw [show decide (st = 3) = decide (st = 2 ∨ st = 3) from decide_eq_decide.mpr (by omega)]) (hk   _    lE)
theorem C.spec_l02Powers {b n : Int}  {H : Hp} {K : Value → Hp → Prop} (b0 : 1 ≤ b) (b1 : b ≤ 3) (n0 : 0 ≤ n) (n1 : n ≤ 16)
    (hk : ∀ H', Le H H' → K (.int .i64 (pwr b n)) H') : HT prg I.spec_l02Powers [(.int .i64 (b)), (.int .i64 (n))].toArray H K := by
 have lE := Le.refl H
 refine R.spec_l02Powers ?_
 unfold F.spec_l02Powers
 refine jn_i (fun σ' H' => σ' 5 = (.int .i64 (pwr b n)) ∧ Le H H') (fun σ1 H1 hP => ?_) (fun J1 hJ1 => ?_)
 ·skip
  obtain ⟨g5L1, lE⟩ := hP
  try simp only [g5L1]
  skip
  exact hk   _    lE
 refine ⟨fun n' σ' H' => ∃ i : Nat, n' = n.toNat - i ∧ i ≤ n.toNat ∧ σ' 0 = (.int .i64 (b)) ∧ σ' 1 = (.int .i64 (n - (i : Int))) ∧ σ' 5 = (.int .i64 (b ^ i)) ∧ Le H H',
  ⟨_, 0, rfl, by omega, rfl, (congrArg (Value.int .i64) (by first | omega | rfl | (simp; done))), (congrArg (Value.int .i64) (Int.pow_zero b).symm), lE⟩, ?_⟩
 rintro n2 σ2 H2 ⟨i, rfl, hiN, g0L2, g1L2, g5L2, lE⟩
 try simp only [g0L2, g1L2, g5L2]
 have p1 := pow_le16 b0 b1 (i := i) (by omega)
 refine ob_i (vInt_gtr _ _ _) ?_
 refine cnd_d (fun hg3 => ?_) (fun hg3 => ?_)
 ·skip
  have ti := hg3
  have p2 := pow_le16 b0 b1 (i := i + 1) (by omega)
  rw [Int.pow_succ] at p2
  refine ob_i (vInt_mul (by omega) (by omega)) ?_
  refine ob_i (vInt_sub (by omega) (by omega)) ?_
  exact nxt (n.toNat - (i + 1)) (by omega) ⟨i + 1, rfl, by omega, g0L2, (congrArg (Value.int .i64) (by first | omega | rfl | (simp; done))), (congrArg (Value.int .i64) (Int.pow_succ b i).symm), lE⟩
 ·skip
  have ti := hg3
  obtain rfl : i = n.toNat := by omega
  exact hJ1 _ _ ⟨(g5L2.trans (congrArg (Value.int .i64) (by first | omega | rfl | (simp; done)))), lE⟩
theorem C.spec_l03Power {b n : Int}  {H : Hp} {K : Value → Hp → Prop} (b0 : 1 ≤ b) (b1 : b ≤ 3) (n0 : 0 ≤ n) (n1 : n ≤ 16)
    (hk : ∀ H', Le H H' → K (.int .i64 (pwr b n)) H') : HT prg I.spec_l03Power [(.int .i64 (b)), (.int .i64 (n))].toArray H K := by
 have lE := Le.refl H
 refine R.spec_l03Power ?_
 unfold F.spec_l03Power
 refine jn_i (fun σ' H' => σ' 5 = (.int .i64 (pwr b n)) ∧ Le H H') (fun σ1 H1 hP => ?_) (fun J1 hJ1 => ?_)
 ·skip
  obtain ⟨g5L1, lE⟩ := hP
  try simp only [g5L1]
  skip
  exact hk   _    lE
 refine ⟨fun n' σ' H' => ∃ i : Nat, n' = n.toNat - i ∧ i ≤ n.toNat ∧ σ' 0 = (.int .i64 (b)) ∧ σ' 1 = (.int .i64 (n - (i : Int))) ∧ σ' 5 = (.int .i64 (b ^ i)) ∧ Le H H',
  ⟨_, 0, rfl, by omega, rfl, (congrArg (Value.int .i64) (by first | omega | rfl | (simp; done))), (congrArg (Value.int .i64) (Int.pow_zero b).symm), lE⟩, ?_⟩
 rintro n2 σ2 H2 ⟨i, rfl, hiN, g0L2, g1L2, g5L2, lE⟩
 try simp only [g0L2, g1L2, g5L2]
 have p1 := pow_le16 b0 b1 (i := i) (by omega)
 refine ob_i (vInt_gtr _ _ _) ?_
 refine cnd_d (fun hg3 => ?_) (fun hg3 => ?_)
 ·skip
  have ti := hg3
  have p2 := pow_le16 b0 b1 (i := i + 1) (by omega)
  rw [Int.pow_succ] at p2
  refine ob_i (vInt_mul (by omega) (by omega)) ?_
  refine ob_i (vInt_sub (by omega) (by omega)) ?_
  exact nxt (n.toNat - (i + 1)) (by omega) ⟨i + 1, rfl, by omega, g0L2, (congrArg (Value.int .i64) (by first | omega | rfl | (simp; done))), (congrArg (Value.int .i64) (Int.pow_succ b i).symm), lE⟩
 ·skip
  have ti := hg3
  obtain rfl : i = n.toNat := by omega
  exact hJ1 _ _ ⟨(g5L2.trans (congrArg (Value.int .i64) (by first | omega | rfl | (simp; done)))), lE⟩
theorem C.impl_raised {b n : Int}  {H : Hp} {K : Value → Hp → Prop} (b0 : 1 ≤ b) (b1 : b ≤ 3) (n0 : 0 ≤ n) (n1 : n ≤ 16)
    (hk : ∀ H', Le H H' → K (.int .i64 (pwr b n)) H') : HT prg I.impl_raised [(.int .i64 (b)), (.int .i64 (n))].toArray H K := by
 have lE := Le.refl H
 refine R.impl_raised ?_
 unfold F.impl_raised
 refine jn_i (fun σ' H' => σ' 5 = (.int .i64 (pwr b n)) ∧ Le H H') (fun σ1 H1 hP => ?_) (fun J1 hJ1 => ?_)
 ·skip
  obtain ⟨g5L1, lE⟩ := hP
  try simp only [g5L1]
  skip
  exact hk   _    lE
 refine ⟨fun n' σ' H' => ∃ i : Nat, n' = n.toNat - i ∧ i ≤ n.toNat ∧ σ' 0 = (.int .i64 (b)) ∧ σ' 5 = (.int .i64 (b ^ i)) ∧ σ' 6 = (.int .i64 (n)) ∧ σ' 7 = (.int .i64 ((i : Int))) ∧ Le H H',
  ⟨_, 0, rfl, by omega, rfl, (congrArg (Value.int .i64) (Int.pow_zero b).symm), rfl, (congrArg (Value.int .i64) (by first | omega | rfl | (simp; done))), lE⟩, ?_⟩
 rintro n2 σ2 H2 ⟨i, rfl, hiN, g0L2, g5L2, g6L2, g7L2, lE⟩
 try simp only [g0L2, g5L2, g6L2, g7L2]
 have p1 := pow_le16 b0 b1 (i := i) (by omega)
 refine ob_i (vInt_lss _ _ _) ?_
 refine cnd_d (fun hg3 => ?_) (fun hg3 => ?_)
 ·skip
  have ti := hg3
  have p2 := pow_le16 b0 b1 (i := i + 1) (by omega)
  rw [Int.pow_succ] at p2
  refine ob_i (vInt_mul (by omega) (by omega)) ?_
  refine ob_i (vInt_add (by omega) (by omega)) ?_
  exact nxt (n.toNat - (i + 1)) (by omega) ⟨i + 1, rfl, by omega, g0L2, (congrArg (Value.int .i64) (Int.pow_succ b i).symm), g6L2, (congrArg (Value.int .i64) (by first | omega | rfl | (simp; done))), lE⟩
 ·skip
  have ti := hg3
  obtain rfl : i = n.toNat := by omega
  exact hJ1 _ _ ⟨(g5L2.trans (congrArg (Value.int .i64) (by first | omega | rfl | (simp; done)))), lE⟩
theorem C.impl_Rule_cells {vt : Value} {st rc : Int} {T : List Int}  {H : Hp} {K : Value → Hp → Prop} (hvt0 : Sl eI H vt T) (c0 : -1000000 ≤ rc) (c1 : rc ≤ 1000000)
    (hk : ∀ H', Le H H' → K (.int .i64 (2 * rc + 1)) H') : HT prg I.impl_Rule_cells [(.agg #[(.int .i64 (st)), (.int .i64 (rc)), vt])].toArray H K := by
 have lE := Le.refl H
 refine R.impl_Rule_cells ?_
 unfold F.impl_Rule_cells
 refine nw_i (fun p1 H2 op1 nn3 le4 => ?_)
 replace lE := lE.trans le4
 replace op1 : Cel H2 p1 [(.int .i64 (st)), (.int .i64 (rc)), vt] := op1
 refine ob_i (op1.fa 1) ?_
 refine ob_i (op1.ld 1 rfl) ?_
 refine ob_i (vInt_mul (by omega) (by omega)) ?_
 refine ob_i (vInt_add (by omega) (by omega)) ?_
 skip
 exact keq (K := K) (by rw [show (((2 * rc) + 1) : Int) = (2 * rc + 1) from by omega]) (hk   _    lE)
theorem C.spec_l03Wide {p vt : Value} {st rc : Int} {T : List Int}  {H : Hp} {K : Value → Hp → Prop} (hp0 : Cel H p [(.int .i64 (st)), (.int .i64 (rc)), vt]) (hvt0 : Sl eI H vt T) (c0 : -1000000 ≤ rc) (c1 : rc ≤ 1000000)
    (hk : K (.int .i64 (2 * rc + 1)) H) : HT prg I.spec_l03Wide [p].toArray H K := by
 have lE := Le.refl H
 have hp := hp0
 refine R.spec_l03Wide ?_
 unfold F.spec_l03Wide
 refine ob_i (hp.nilC) ?_
 refine ob_i (hp.fa 1) ?_
 refine ob_i (hp.ld 1 rfl) ?_
 refine ob_i (vInt_mul (by omega) (by omega)) ?_
 refine ob_i (vInt_add (by omega) (by omega)) ?_
 skip
 exact keq (K := K) (by rw [show (((2 * rc) + 1) : Int) = (2 * rc + 1) from by omega]) (hk )
theorem C.impl_isReach {rc : Int}  {H : Hp} {K : Value → Hp → Prop}
    (hk : ∀ H', Le H H' → K (.bool (decide (0 ≤ rc ∧ rc ≤ 2))) H') : HT prg I.impl_isReach [(.int .i64 (rc))].toArray H K := by
 have lE := Le.refl H
 refine R.impl_isReach ?_
 unfold F.impl_isReach
 refine C.impl_within  ?_
 skip
 exact hk   _    lE
theorem C.impl_ValidRule {vt : Value} {st rc : Int} {T : List Int}  {H : Hp} {K : Value → Hp → Prop} (hvt0 : Sl eI H vt T) (k1 : T.length ≤ 9223372036854775807)
    (hk : ∀ H', Le H H' → K (.bool (decide (ruleP st rc T))) H') : HT prg I.impl_ValidRule [(.agg #[(.int .i64 (st)), (.int .i64 (rc)), vt])].toArray H K := by
 have lE := Le.refl H
 have hvt := hvt0
 refine R.impl_ValidRule ?_
 unfold F.impl_ValidRule
 refine nw_i (fun p1 H2 op1 nn3 le4 => ?_)
 replace hvt := hvt.le le4
 replace lE := lE.trans le4
 replace op1 : Cel H2 p1 [(.int .i64 (st)), (.int .i64 (rc)), vt] := op1
 refine ob_i (op1.fa 0) ?_
 refine ob_i (op1.ld 0 rfl) ?_
 refine C.impl_areStates  (fun   H5    le6 => ?_)
 replace op1 := op1.le le6
 replace hvt := hvt.le le6
 replace lE := lE.trans le6
 refine ob_nd (fun hc7 => ?_) (fun hc7 => ?_)
 ·skip
  refine gop_rf ?_
  refine ob_i (op1.fa 1) ?_
  refine gop_rf ?_
  refine ob_i (op1.ld 1 rfl) ?_
  refine gop_rf ?_
  refine C.impl_isReach  (fun   H8    le9 => ?_)
  replace op1 := op1.le le9
  replace hvt := hvt.le le9
  replace lE := lE.trans le9
  refine gop_rf ?_
  refine ob_nd (fun hc10 => ?_) (fun hc10 => ?_)
  ·skip
   have pb := pwr_bnd (b := st) (n := 2 * rc + 1) (by omega) (by omega) (by omega)
   refine ob_i (vPick_f _ _) ?_
   refine cnd_f1 ?_
   refine ob_i (op1.fa 0) ?_
   refine ob_i (op1.ld 0 rfl) ?_
   refine ob_i (op1.ldn rfl) ?_
   refine C.impl_Rule_cells hvt (by first | omega | assumption) (by first | omega | assumption) (fun   H11    le12 => ?_)
   replace op1 := op1.le le12
   replace hvt := hvt.le le12
   replace lE := lE.trans le12
   refine ⟨le12, ?_⟩
   refine C.impl_raised (by first | omega | assumption) (by first | omega | assumption) (by first | omega | assumption) (by first | omega | assumption) (fun   H13    le14 => ?_)
   replace op1 := op1.le le14
   replace hvt := hvt.le le14
   replace lE := lE.trans le14
   refine ⟨le14, ?_⟩
   refine ob_i (op1.fa 2) ?_
   refine ob_i (op1.ld 2 rfl) ?_
   refine ob_i (op1.fa 0) ?_
   refine ob_i (op1.ld 0 rfl) ?_
   refine ob_i (vInt_sub (by omega) (by omega)) ?_
   refine C.impl_areMany hvt (by first | omega | assumption) ?_
   skip
   exact keq (K := K) (by rw [show decide (((pwr st (2 * rc + 1)) ≤ (T.length : Int) ∧ (T.length : Int) ≤ (pwr st (2 * rc + 1))) ∧ ∀ x ∈ T, 0 ≤ x ∧ x ≤ (st - 1)) = decide (ruleP st rc T) from decide_eq_decide.mpr (by exact ⟨fun h => ⟨by assumption, by assumption, by omega, h.2⟩, fun h => ⟨by have := h.2.2.1; omega, h.2.2.2⟩⟩)]) (hk   _    lE)
  ·skip
   refine ob_i (vPick_f _ _) ?_
   refine cnd_t1 ?_
   skip
   exact keq (K := K) (by rw [decide_eq_false (show ¬ (ruleP st rc T) from by intro h; have h1 := h.1; have h2 := h.2.1; first | contradiction | omega)]) (hk   _    lE)
 ·skip
  refine gop_st ?_
  refine gop_st ?_
  refine gop_st ?_
  refine gop_st ?_
  refine ob_i (vPick_t _ _) ?_
  refine cnd_t1 ?_
  skip
  exact keq (K := K) (by rw [decide_eq_false (show ¬ (ruleP st rc T) from by intro h; have h1 := h.1; have h2 := h.2.1; first | contradiction | omega)]) (hk   _    lE)
theorem C.spec_l02Is {p vt : Value} {st rc : Int} {T : List Int}  {H : Hp} {K : Value → Hp → Prop} (hp0 : Cel H p [(.int .i64 (st)), (.int .i64 (rc)), vt]) (hvt0 : Sl eI H vt T) (k1 : T.length ≤ 9223372036854775807)
    (hk : ∀ H', Le H H' → K (.bool (decide (ruleP st rc T))) H') : HT prg I.spec_l02Is [p].toArray H K := by
 have lE := Le.refl H
 have hp := hp0
 have hvt := hvt0
 refine R.spec_l02Is ?_
 unfold F.spec_l02Is
 refine ob_i (hp.nilC) ?_
 refine ob_i (hp.fa 0) ?_
 refine ob_i (hp.ld 0 rfl) ?_
 refine C.spec_l00In  ?_
 refine ⟨Le.refl _, ?_⟩
 refine ob_nd (fun hc1 => ?_) (fun hc1 => ?_)
 ·skip
  refine gop_rf ?_
  refine gop_rf ?_
  refine ob_i (hp.nilC) ?_
  refine gop_rf ?_
  refine ob_i (hp.fa 1) ?_
  refine gop_rf ?_
  refine ob_i (hp.ld 1 rfl) ?_
  refine gop_rf ?_
  refine C.spec_l00In  ?_
  refine ⟨Le.refl _, ?_⟩
  refine gop_rf ?_
  refine ob_nd (fun hc2 => ?_) (fun hc2 => ?_)
  ·skip
   refine ob_i (vPick_f _ _) ?_
   refine gop_rf ?_
   refine gop_rf ?_
   refine ob_i (hp.nilC) ?_
   refine gop_rf ?_
   refine ob_i (hp.fa 2) ?_
   refine gop_rf ?_
   refine ob_i (hp.ld 2 rfl) ?_
   refine gop_rf ?_
   refine ob_i (hvt.len) ?_
   refine gop_rf ?_
   refine gop_rf ?_
   refine ob_i (hp.nilC) ?_
   refine gop_rf ?_
   refine ob_i (hp.fa 0) ?_
   refine gop_rf ?_
   refine ob_i (hp.ld 0 rfl) ?_
   refine gop_rf ?_
   refine gop_rf ?_
   refine ob_i (hp.nilC) ?_
   refine gop_rf ?_
   refine ob_i (hp.fa 1) ?_
   refine gop_rf ?_
   refine ob_i (hp.ld 1 rfl) ?_
   refine gop_rf ?_
   refine ob_i (vInt_mul (by omega) (by omega)) ?_
   refine gop_rf ?_
   refine ob_i (vInt_add (by omega) (by omega)) ?_
   refine gop_rf ?_
   refine C.spec_l02Powers (by first | omega | assumption) (by first | omega | assumption) (by first | omega | assumption) (by first | omega | assumption) (fun   H3    le4 => ?_)
   replace hp := hp.le le4
   replace hvt := hvt.le le4
   replace lE := lE.trans le4
   refine ⟨le4, ?_⟩
   refine gop_rf ?_
   refine ob_i (vInt_neq _ _ _) ?_
   refine ob_i (vPick_f _ _) ?_
   refine cnd_d (fun hg5 => ?_) (fun hg5 => ?_)
   ·skip
    skip
    exact keq (K := K) (by rw [decide_eq_false (show ¬ (ruleP st rc T) from by intro h; obtain ⟨h1, h2, h3, h4⟩ := h; first | contradiction | omega | (have h5 := h4 _ (at_mem 0 T (i := (i : Int)) (by omega) (by omega)); contradiction))]) (hk   _    lE)
   ·skip
    refine jn_i (fun σ' H' => Le H H' ∧ ∀ x ∈ T, 0 ≤ x ∧ x ≤ st - 1) (fun σ6 H6 hP => ?_) (fun J6 hJ6 => ?_)
    ·skip
     obtain ⟨lE, ho0⟩ := hP
     skip
     exact keq (K := K) (by rw [decide_eq_true (show (ruleP st rc T) from by exact ⟨by omega, by assumption, by omega, ho0⟩)]) (hk   _    lE)
    refine ⟨fun n' σ' H' => ∃ i : Nat, n' = T.length - i ∧ i ≤ T.length ∧ σ' 0 = p ∧ σ' 3 = (.int .i64 ((i : Int))) ∧ Le H H' ∧ ∀ x ∈ T.take i, 0 ≤ x ∧ x ≤ st - 1,
     ⟨_, 0, rfl, by omega, rfl, (congrArg (Value.int .i64) (by first | omega | rfl | (simp; done))), lE, (by simp)⟩, ?_⟩
    rintro n7 σ7 H7 ⟨i, rfl, hiN, g0L7, g3L7, lE, hm0⟩
    have hp := hp0.le lE
    have hvt := hvt0.le lE
    try simp only [g0L7, g3L7]
    refine ob_i (hp.nilC) ?_
    refine ob_i (hp.fa 2) ?_
    refine ob_i (hp.ld 2 rfl) ?_
    refine ob_i (hvt.len) ?_
    refine ob_i (vInt_lss _ _ _) ?_
    refine cnd_d (fun hg8 => ?_) (fun hg8 => ?_)
    ·skip
     have ti := hg8
     refine ob_i (hp.nilC) ?_
     refine ob_i (hp.fa 2) ?_
     refine ob_i (hp.ld 2 rfl) ?_
     refine ob_i (hvt.ix (by omega) (by omega)) ?_
     refine ob_i (hvt.ld 0 (by omega) (by omega)) ?_
     refine ob_i (hp.nilC) ?_
     refine ob_i (hp.fa 0) ?_
     refine ob_i (hp.ld 0 rfl) ?_
     refine ob_i (vInt_sub (by omega) (by omega)) ?_
     refine C.spec_l00In  ?_
     refine ⟨Le.refl _, ?_⟩
     refine ob_nd (fun hc9 => ?_) (fun hc9 => ?_)
     ·skip
      refine cnd_f1 ?_
      refine ob_i (vInt_add (by omega) (by omega)) ?_
      exact nxt (T.length - (i + 1)) (by omega) ⟨i + 1, rfl, by omega, g0L7, (congrArg (Value.int .i64) (by first | omega | rfl | (simp; done))), lE, (all_take hm0 (by omega) (by assumption))⟩
     ·skip
      refine cnd_t1 ?_
      refine retK (K := K) (v' := (.bool false)) rfl ?_
      skip
      exact keq (K := K) (by rw [decide_eq_false (show ¬ (ruleP st rc T) from by intro h; obtain ⟨h1, h2, h3, h4⟩ := h; first | contradiction | omega | (have h5 := h4 _ (at_mem 0 T (i := (i : Int)) (by omega) (by omega)); contradiction))]) (hk   _    lE)
    ·skip
     have ti := hg8
     exact hJ6 _ _ ⟨lE, (by rw [List.take_of_length_le (by omega)] at hm0; exact hm0)⟩
  ·skip
   refine ob_i (vPick_f _ _) ?_
   refine gop_st ?_
   refine gop_st ?_
   refine gop_st ?_
   refine gop_st ?_
   refine gop_st ?_
   refine gop_st ?_
   refine gop_st ?_
   refine gop_st ?_
   refine gop_st ?_
   refine gop_st ?_
   refine gop_st ?_
   refine gop_st ?_
   refine gop_st ?_
   refine gop_st ?_
   refine gop_st ?_
   refine gop_st ?_
   refine gop_st ?_
   refine ob_i (vPick_t _ _) ?_
   refine cnd_t1 ?_
   skip
   exact keq (K := K) (by rw [decide_eq_false (show ¬ (ruleP st rc T) from by intro h; obtain ⟨h1, h2, h3, h4⟩ := h; first | contradiction | omega | (have h5 := h4 _ (at_mem 0 T (i := (i : Int)) (by omega) (by omega)); contradiction))]) (hk   _    lE)
 ·skip
  refine gop_st ?_
  refine gop_st ?_
  refine gop_st ?_
  refine gop_st ?_
  refine gop_st ?_
  refine gop_st ?_
  refine ob_i (vPick_t _ _) ?_
  refine gop_st ?_
  refine gop_st ?_
  refine gop_st ?_
  refine gop_st ?_
  refine gop_st ?_
  refine gop_st ?_
  refine gop_st ?_
  refine gop_st ?_
  refine gop_st ?_
  refine gop_st ?_
  refine gop_st ?_
  refine gop_st ?_
  refine gop_st ?_
  refine gop_st ?_
  refine gop_st ?_
  refine gop_st ?_
  refine gop_st ?_
  refine ob_i (vPick_t _ _) ?_
  refine cnd_t1 ?_
  skip
  exact keq (K := K) (by rw [decide_eq_false (show ¬ (ruleP st rc T) from by intro h; obtain ⟨h1, h2, h3, h4⟩ := h; first | contradiction | omega | (have h5 := h4 _ (at_mem 0 T (i := (i : Int)) (by omega) (by omega)); contradiction))]) (hk   _    lE)
theorem C.impl_digitsOf {n b k : Int}  {H : Hp} {K : Value → Hp → Prop} (b0 : 1 ≤ b) (b1 : b ≤ 3) (n0 : 0 ≤ n) (n1 : n ≤ 50000000) (k0 : 0 ≤ k) (k1 : k ≤ 16)
    (hk : ∀ u1 H', Own eI H' u1 (digL n b k.toNat) → Nw H u1 → Le H H' → K u1 H') : HT prg I.impl_digitsOf [(.int .i64 (n)), (.int .i64 (b)), (.int .i64 (k))].toArray H K := by
 have lE := Le.refl H
 refine R.impl_digitsOf ?_
 unfold F.impl_digitsOf
 refine Own.mk_ (z := (0 : Int)) (by omega) (by omega) (by omega) (by omega) (fun u H1 ou nn2 le3 => ?_)
 have nu : Nw H u := nn2.le lE
 replace lE := lE.trans le3
 refine jn_i (fun σ' H' => σ' 7 = u ∧ Own eI H' u (digL n b k.toNat) ∧ Le H H') (fun σ4 H4 hP => ?_) (fun J4 hJ4 => ?_)
 ·skip
  obtain ⟨g7L4, ou, lE⟩ := hP
  try simp only [g7L4]
  skip
  exact hk  u _ ou nu  lE
 refine ob_i (vInt_sub (by omega) (by omega)) ?_
 refine ⟨fun n' σ' H' => ∃ j : Nat, n' = k.toNat - j ∧ j ≤ k.toNat ∧ σ' 0 = (.int .i64 (n / b ^ j)) ∧ σ' 1 = (.int .i64 (b)) ∧ σ' 7 = u ∧ σ' 8 = (.int .i64 (k - 1 - (j : Int))) ∧ Own eI H' u (digF n b k.toNat j) ∧ Le H H',
  ⟨_, 0, rfl, by omega, (congrArg (Value.int .i64) (by rw [Int.pow_zero, Int.ediv_one])), rfl, rfl, (congrArg (Value.int .i64) (by first | omega | rfl | (simp; done))), (Own.cast (digF_zero n b k.toNat).symm ou), lE⟩, ?_⟩
 rintro n5 σ5 H5 ⟨j, rfl, hjN, g0L5, g1L5, g7L5, g8L5, ou, lE⟩
 try simp only [g0L5, g1L5, g7L5, g8L5]
 have dl := digF_len n b k.toNat j
 have db := div_pow_bnd n0 b0 j
 refine ob_i (vInt_geq _ _ _) ?_
 refine cnd_d (fun hg6 => ?_) (fun hg6 => ?_)
 ·skip
  have tj := hg6
  have rm7 := And.intro (Int.emod_nonneg (n / b ^ j) (b := b) (by omega)) (Int.emod_lt_of_pos (n / b ^ j) (b := b) (by omega))
  refine ob_i (vInt_remN (by omega) (by omega)) ?_
  refine ob_i (ou.sl.ix (by omega) (by omega)) ?_
  refine ou.st (x := (n / b ^ j) % b) (by omega) (by omega) rfl rfl (fun H8 ou off9 => ?_)
  replace lE := off9.le lE nu
  refine ob_i (vInt_quoN (by omega) (by omega) (by omega)) ?_
  refine ob_i (vInt_sub (by omega) (by omega)) ?_
  exact nxt (k.toNat - (j + 1)) (by omega) ⟨j + 1, rfl, by omega, (congrArg (Value.int .i64) (div_pow_succ (by omega) j)), g1L5, g7L5, (congrArg (Value.int .i64) (by first | omega | rfl | (simp; done))), (Own.cast (by rw [show (k - 1 - (j : Int)).toNat = k.toNat - 1 - j by omega]; exact digF_set (by omega)) ou), lE⟩
 ·skip
  have tj := hg6
  rw [digF_end (by omega)] at ou
  exact hJ4 _ _ ⟨g7L5, ou, lE⟩
theorem C.spec_l03Cells {n b k : Int}  {H : Hp} {K : Value → Hp → Prop} (b0 : 1 ≤ b) (b1 : b ≤ 3) (n0 : 0 ≤ n) (n1 : n ≤ 50000000) (k0 : 0 ≤ k) (k1 : k ≤ 16)
    (hk : ∀ u1 H', Own eI H' u1 (digL n b k.toNat) → Nw H u1 → Le H H' → K u1 H') : HT prg I.spec_l03Cells [(.int .i64 (n)), (.int .i64 (b)), (.int .i64 (k))].toArray H K := by
 have lE := Le.refl H
 refine R.spec_l03Cells ?_
 unfold F.spec_l03Cells
 refine Own.mk_ (z := (0 : Int)) (by omega) (by omega) (by omega) (by omega) (fun u H1 ou nn2 le3 => ?_)
 have nu : Nw H u := nn2.le lE
 replace lE := lE.trans le3
 refine jn_i (fun σ' H' => σ' 7 = u ∧ Own eI H' u (digL n b k.toNat) ∧ Le H H') (fun σ4 H4 hP => ?_) (fun J4 hJ4 => ?_)
 ·skip
  obtain ⟨g7L4, ou, lE⟩ := hP
  try simp only [g7L4]
  skip
  exact hk  u _ ou nu  lE
 refine ob_i (vInt_sub (by omega) (by omega)) ?_
 refine ⟨fun n' σ' H' => ∃ j : Nat, n' = k.toNat - j ∧ j ≤ k.toNat ∧ σ' 0 = (.int .i64 (n / b ^ j)) ∧ σ' 1 = (.int .i64 (b)) ∧ σ' 7 = u ∧ σ' 8 = (.int .i64 (k - 1 - (j : Int))) ∧ Own eI H' u (digF n b k.toNat j) ∧ Le H H',
  ⟨_, 0, rfl, by omega, (congrArg (Value.int .i64) (by rw [Int.pow_zero, Int.ediv_one])), rfl, rfl, (congrArg (Value.int .i64) (by first | omega | rfl | (simp; done))), (Own.cast (digF_zero n b k.toNat).symm ou), lE⟩, ?_⟩
 rintro n5 σ5 H5 ⟨j, rfl, hjN, g0L5, g1L5, g7L5, g8L5, ou, lE⟩
 try simp only [g0L5, g1L5, g7L5, g8L5]
 have dl := digF_len n b k.toNat j
 have db := div_pow_bnd n0 b0 j
 refine ob_i (vInt_geq _ _ _) ?_
 refine cnd_d (fun hg6 => ?_) (fun hg6 => ?_)
 ·skip
  have tj := hg6
  have rm7 := And.intro (Int.emod_nonneg (n / b ^ j) (b := b) (by omega)) (Int.emod_lt_of_pos (n / b ^ j) (b := b) (by omega))
  refine ob_i (vInt_remN (by omega) (by omega)) ?_
  refine ob_i (ou.sl.ix (by omega) (by omega)) ?_
  refine ou.st (x := (n / b ^ j) % b) (by omega) (by omega) rfl rfl (fun H8 ou off9 => ?_)
  replace lE := off9.le lE nu
  refine ob_i (vInt_quoN (by omega) (by omega) (by omega)) ?_
  refine ob_i (vInt_sub (by omega) (by omega)) ?_
  exact nxt (k.toNat - (j + 1)) (by omega) ⟨j + 1, rfl, by omega, (congrArg (Value.int .i64) (div_pow_succ (by omega) j)), g1L5, g7L5, (congrArg (Value.int .i64) (by first | omega | rfl | (simp; done))), (Own.cast (by rw [show (k - 1 - (j : Int)).toNat = k.toNat - 1 - j by omega]; exact digF_set (by omega)) ou), lE⟩
 ·skip
  have tj := hg6
  rw [digF_end (by omega)] at ou
  exact hJ4 _ _ ⟨g7L5, ou, lE⟩
theorem C.impl_numberOf {va : Value} {b : Int} {l : List Int}  {H : Hp} {K : Value → Hp → Prop} (hva0 : Sl eI H va l) (b0 : 1 ≤ b) (b1 : b ≤ 3) (he : ∀ x ∈ l, 0 ≤ x ∧ x ≤ b - 1) (hl : l.length ≤ 16)
    (hk : ∀ H', Le H H' → K (.int .i64 (numL b l)) H') : HT prg I.impl_numberOf [va, (.int .i64 (b))].toArray H K := by
 have lE := Le.refl H
 have hva := hva0
 refine R.impl_numberOf ?_
 unfold F.impl_numberOf
 refine jn_i (fun σ' H' => σ' 5 = (.int .i64 (numL b l)) ∧ Le H H') (fun σ1 H1 hP => ?_) (fun J1 hJ1 => ?_)
 ·skip
  obtain ⟨g5L1, lE⟩ := hP
  try simp only [g5L1]
  skip
  exact hk   _    lE
 refine ob_i (hva.len) ?_
 refine ⟨fun n' σ' H' => ∃ i : Nat, n' = l.length - i ∧ i ≤ l.length ∧ σ' 1 = (.int .i64 (b)) ∧ σ' 5 = (.int .i64 (numL b (l.take i))) ∧ σ' 8 = va ∧ σ' 9 = (.int .i64 (((l).length : Int))) ∧ σ' 10 = (.int .i64 ((i : Int))) ∧ Le H H',
  ⟨_, 0, rfl, by omega, rfl, (congrArg (Value.int .i64) (numL_nil b).symm), rfl, rfl, (congrArg (Value.int .i64) (by first | omega | rfl | (simp; done))), lE⟩, ?_⟩
 rintro n2 σ2 H2 ⟨i, rfl, hiN, g1L2, g5L2, g8L2, g9L2, g10L2, lE⟩
 have hva := hva0.le lE
 try simp only [g1L2, g5L2, g8L2, g9L2, g10L2]
 have n1 := numL_bnd16 b0 b1 (take_in (n := i) he) (by rw [List.length_take]; omega)
 refine ob_i (vInt_lss _ _ _) ?_
 refine cnd_d (fun hg3 => ?_) (fun hg3 => ?_)
 ·skip
  have ti := hg3
  have n2 := numL_bnd16 b0 b1 (take_in (n := i + 1) he) (by rw [List.length_take]; omega)
  rw [numL_take (by omega)] at n2
  have n3 := he _ (at_mem 0 l (i := (i : Int)) (by omega) (by omega))
  have n4 := mul3_bnd n1.1 b0 b1
  refine ob_i (hva.ix (by omega) (by omega)) ?_
  refine ob_i (hva.ld 0 (by omega) (by omega)) ?_
  refine ob_i (vInt_mul (by omega) (by omega)) ?_
  refine ob_i (vInt_add (by omega) (by omega)) ?_
  refine ob_i (vInt_add (by omega) (by omega)) ?_
  exact nxt (l.length - (i + 1)) (by omega) ⟨i + 1, rfl, by omega, g1L2, (congrArg (Value.int .i64) (numL_take (by omega)).symm), g8L2, g9L2, (congrArg (Value.int .i64) (by first | omega | rfl | (simp; done))), lE⟩
 ·skip
  have ti := hg3
  obtain rfl : i = l.length := by omega
  exact hJ1 _ _ ⟨(g5L2.trans (congrArg (Value.int .i64) (by rw [List.take_of_length_le (by omega)]))), lE⟩
theorem C.spec_l03Number {va : Value} {b : Int} {l : List Int}  {H : Hp} {K : Value → Hp → Prop} (hva0 : Sl eI H va l) (b0 : 1 ≤ b) (b1 : b ≤ 3) (he : ∀ x ∈ l, 0 ≤ x ∧ x ≤ b - 1) (hl : l.length ≤ 16)
    (hk : ∀ H', Le H H' → K (.int .i64 (numL b l)) H') : HT prg I.spec_l03Number [va, (.int .i64 (b))].toArray H K := by
 have lE := Le.refl H
 have hva := hva0
 refine R.spec_l03Number ?_
 unfold F.spec_l03Number
 refine jn_i (fun σ' H' => σ' 5 = (.int .i64 (numL b l)) ∧ Le H H') (fun σ1 H1 hP => ?_) (fun J1 hJ1 => ?_)
 ·skip
  obtain ⟨g5L1, lE⟩ := hP
  try simp only [g5L1]
  skip
  exact hk   _    lE
 refine ob_i (hva.len) ?_
 refine ⟨fun n' σ' H' => ∃ i : Nat, n' = l.length - i ∧ i ≤ l.length ∧ σ' 0 = va ∧ σ' 1 = (.int .i64 (b)) ∧ σ' 5 = (.int .i64 (numL b (l.take i))) ∧ σ' 8 = (.int .i64 (((l).length : Int))) ∧ σ' 9 = (.int .i64 ((i : Int))) ∧ Le H H',
  ⟨_, 0, rfl, by omega, rfl, rfl, (congrArg (Value.int .i64) (numL_nil b).symm), rfl, (congrArg (Value.int .i64) (by first | omega | rfl | (simp; done))), lE⟩, ?_⟩
 rintro n2 σ2 H2 ⟨i, rfl, hiN, g0L2, g1L2, g5L2, g8L2, g9L2, lE⟩
 have hva := hva0.le lE
 try simp only [g0L2, g1L2, g5L2, g8L2, g9L2]
 have n1 := numL_bnd16 b0 b1 (take_in (n := i) he) (by rw [List.length_take]; omega)
 refine ob_i (vInt_lss _ _ _) ?_
 refine cnd_d (fun hg3 => ?_) (fun hg3 => ?_)
 ·skip
  have ti := hg3
  have n2 := numL_bnd16 b0 b1 (take_in (n := i + 1) he) (by rw [List.length_take]; omega)
  rw [numL_take (by omega)] at n2
  have n3 := he _ (at_mem 0 l (i := (i : Int)) (by omega) (by omega))
  have n4 := mul3_bnd n1.1 b0 b1
  refine ob_i (vInt_mul (by omega) (by omega)) ?_
  refine ob_i (hva.ix (by omega) (by omega)) ?_
  refine ob_i (hva.ld 0 (by omega) (by omega)) ?_
  refine ob_i (vInt_add (by omega) (by omega)) ?_
  refine ob_i (vInt_add (by omega) (by omega)) ?_
  exact nxt (l.length - (i + 1)) (by omega) ⟨i + 1, rfl, by omega, g0L2, g1L2, (congrArg (Value.int .i64) (numL_take (by omega)).symm), g8L2, (congrArg (Value.int .i64) (by first | omega | rfl | (simp; done))), lE⟩
 ·skip
  have ti := hg3
  obtain rfl : i = l.length := by omega
  exact hJ1 _ _ ⟨(g5L2.trans (congrArg (Value.int .i64) (by rw [List.take_of_length_le (by omega)]))), lE⟩
theorem C.impl_Rule_at {vt va : Value} {st rc i : Int} {T : List Int} {l : List Int}  {H : Hp} {K : Value → Hp → Prop} (hvt0 : Sl eI H vt T) (hva0 : Sl eI H va l) (hr : ruleP st rc T) (h0 : 0 < l.length) (h1 : l.length ≤ 64) (he : ∀ x ∈ l, 0 ≤ x ∧ x ≤ st - 1) (i0 : 0 ≤ i) (i1 : i < l.length)
    (hk : ∀ H', Le H H' → K (.int .i64 (tdN st rc T l i)) H') : HT prg I.impl_Rule_at [(.agg #[(.int .i64 (st)), (.int .i64 (rc)), vt]), va, (.int .i64 (i))].toArray H K := by
 have lE := Le.refl H
 have hvt := hvt0
 have hva := hva0
 refine R.impl_Rule_at ?_
 unfold F.impl_Rule_at
 have hr1 := hr.1
 have hr2 := hr.2.1
 have hr3 := ruleP_len hr
 have hr4 := hr.2.2.2
 have hix := hdN_ix hr he h0 i
 refine nw_i (fun p1 H2 op1 nn3 le4 => ?_)
 replace hvt := hvt.le le4
 replace hva := hva.le le4
 replace lE := lE.trans le4
 replace op1 : Cel H2 p1 [(.int .i64 (st)), (.int .i64 (rc)), vt] := op1
 refine ob_i (hva.len) ?_
 refine jn_i (fun σ' H' => σ' 3 = p1 ∧ σ' 8 = (.int .i64 (hdN st rc l i (2 * rc + 1).toNat)) ∧ Cel H' p1 [(.int .i64 (st)), (.int .i64 (rc)), vt] ∧ Le H H') (fun σ5 H5 hP => ?_) (fun J5 hJ5 => ?_)
 ·skip
  obtain ⟨g3L5, g8L5, op1, lE⟩ := hP
  have hvt := hvt0.le lE
  try simp only [g3L5, g8L5]
  refine ob_i (op1.fa 2) ?_
  refine ob_i (op1.ld 2 rfl) ?_
  refine ob_i (hvt.ix (by omega) (by omega)) ?_
  refine ob_i (hvt.ld 0 (by omega) (by omega)) ?_
  skip
  exact keq (K := K) (by rw [show ((at_ 0 (T) (hdN st rc l i (2 * rc + 1).toNat)) : Int) = (tdN st rc T l i) from by rfl]) (hk   _    lE)
 refine ob_i (op1.fa 1) ?_
 refine ob_i (op1.ld 1 rfl) ?_
 refine ob_i (vInt_sub (by omega) (by omega)) ?_
 refine ⟨fun n' σ' H' => ∃ t : Nat, n' = (2 * rc + 1).toNat - t ∧ t ≤ (2 * rc + 1).toNat ∧ σ' 1 = va ∧ σ' 2 = (.int .i64 (i)) ∧ σ' 3 = p1 ∧ σ' 7 = (.int .i64 (((l).length : Int))) ∧ σ' 8 = (.int .i64 (hdN st rc l i t)) ∧ σ' 9 = (.int .i64 (i - rc + (t : Int))) ∧ Cel H' p1 [(.int .i64 (st)), (.int .i64 (rc)), vt] ∧ Le H H',
  ⟨_, 0, rfl, by omega, rfl, rfl, rfl, rfl, (congrArg (Value.int .i64) (by first | omega | rfl | (simp; done))), (congrArg (Value.int .i64) (by first | omega | rfl | (simp; done))), op1, lE⟩, ?_⟩
 rintro n6 σ6 H6 ⟨t, rfl, htN, g1L6, g2L6, g3L6, g7L6, g8L6, g9L6, op1, lE⟩
 have hva := hva0.le lE
 try simp only [g1L6, g2L6, g3L6, g7L6, g8L6, g9L6]
 have z1 := hdN_bnd5 (st := st) (rc := rc) (by omega) (by omega) he h0 i (t := t) (by omega)
 refine ob_i (op1.fa 1) ?_
 refine ob_i (op1.ld 1 rfl) ?_
 refine ob_i (vInt_add (by omega) (by omega)) ?_
 refine ob_i (vInt_leq _ _ _) ?_
 refine cnd_d (fun hg7 => ?_) (fun hg7 => ?_)
 ·skip
  have tt := hg7
  have z2 := hdN_bnd5 (st := st) (rc := rc) (by omega) (by omega) he h0 i (t := t + 1) (by omega)
  have z3 : hdN st rc l i (t + 1) = hdN st rc l i t * st + at_ 0 l ((i - rc + (t : Int)) % (l.length : Int)) := rfl
  have z4 := Int.emod_nonneg (i - rc + (t : Int)) (b := (l.length : Int)) (by omega)
  have z5 := Int.emod_lt_of_pos (i - rc + (t : Int)) (b := (l.length : Int)) (by omega)
  have z6 := he _ (at_mem 0 l z4 z5)
  have z7 := mul3_bnd z1.1 (show 1 ≤ st by omega) (by omega)
  refine ob_i (op1.fa 0) ?_
  refine ob_i (op1.ld 0 rfl) ?_
  refine ob_i (vInt_mul (by omega) (by omega)) ?_
  refine C.floorMod (by first | omega | assumption) (by first | omega | assumption) (by first | omega | assumption) (by first | omega | assumption) ?_
  refine ⟨Le.refl _, ?_⟩
  refine ob_i (hva.ix (by omega) (by omega)) ?_
  refine ob_i (hva.ld 0 (by omega) (by omega)) ?_
  refine ob_i (vInt_add (by omega) (by omega)) ?_
  refine ob_i (vInt_add (by omega) (by omega)) ?_
  exact nxt ((2 * rc + 1).toNat - (t + 1)) (by omega) ⟨t + 1, rfl, by omega, g1L6, g2L6, g3L6, g7L6, (congrArg (Value.int .i64) (by first | omega | rfl | (simp; done))), (congrArg (Value.int .i64) (by first | omega | rfl | (simp; done))), op1, lE⟩
 ·skip
  have tt := hg7
  obtain rfl : t = (2 * rc + 1).toNat := by omega
  exact hJ5 _ _ ⟨g3L6, (g8L6.trans (congrArg (Value.int .i64) (by first | omega | rfl | (simp; done)))), op1, lE⟩
theorem C.spec_l02Told {p vt va : Value} {i st rc : Int} {T : List Int} {l : List Int}  {H : Hp} {K : Value → Hp → Prop} (hp0 : Cel H p [(.int .i64 (st)), (.int .i64 (rc)), vt]) (hvt0 : Sl eI H vt T) (hva0 : Sl eI H va l) (hr : ruleP st rc T) (h0 : 0 < l.length) (h1 : l.length ≤ 64) (he : ∀ x ∈ l, 0 ≤ x ∧ x ≤ st - 1) (i0 : 0 ≤ i) (i1 : i < l.length)
    (hk : ∀ H', Le H H' → K (.int .i64 (tdN st rc T l i)) H') : HT prg I.spec_l02Told [p, va, (.int .i64 (i))].toArray H K := by
 have lE := Le.refl H
 have hp := hp0
 have hvt := hvt0
 have hva := hva0
 refine R.spec_l02Told ?_
 unfold F.spec_l02Told
 have hr1 := hr.1
 have hr2 := hr.2.1
 have hr3 := ruleP_len hr
 have hr4 := hr.2.2.2
 have hix := hdN_ix hr he h0 i
 refine ob_i (hva.len) ?_
 refine jn_i (fun σ' H' => σ' 0 = p ∧ σ' 8 = (.int .i64 (hdN st rc l i (2 * rc + 1).toNat)) ∧ Le H H') (fun σ1 H1 hP => ?_) (fun J1 hJ1 => ?_)
 ·skip
  obtain ⟨g0L1, g8L1, lE⟩ := hP
  have hp := hp0.le lE
  have hvt := hvt0.le lE
  try simp only [g0L1, g8L1]
  refine ob_i (hp.nilC) ?_
  refine ob_i (hp.fa 2) ?_
  refine ob_i (hp.ld 2 rfl) ?_
  refine ob_i (hvt.ix (by omega) (by omega)) ?_
  refine ob_i (hvt.ld 0 (by omega) (by omega)) ?_
  skip
  exact keq (K := K) (by rw [show ((at_ 0 (T) (hdN st rc l i (2 * rc + 1).toNat)) : Int) = (tdN st rc T l i) from by rfl]) (hk   _    lE)
 refine ob_i (hp.nilC) ?_
 refine ob_i (hp.fa 1) ?_
 refine ob_i (hp.ld 1 rfl) ?_
 refine ob_i (vInt_sub (by omega) (by omega)) ?_
 refine ⟨fun n' σ' H' => ∃ t : Nat, n' = (2 * rc + 1).toNat - t ∧ t ≤ (2 * rc + 1).toNat ∧ σ' 0 = p ∧ σ' 1 = va ∧ σ' 2 = (.int .i64 (i)) ∧ σ' 7 = (.int .i64 (((l).length : Int))) ∧ σ' 8 = (.int .i64 (hdN st rc l i t)) ∧ σ' 9 = (.int .i64 (i - rc + (t : Int))) ∧ Le H H',
  ⟨_, 0, rfl, by omega, rfl, rfl, rfl, rfl, (congrArg (Value.int .i64) (by first | omega | rfl | (simp; done))), (congrArg (Value.int .i64) (by first | omega | rfl | (simp; done))), lE⟩, ?_⟩
 rintro n2 σ2 H2 ⟨t, rfl, htN, g0L2, g1L2, g2L2, g7L2, g8L2, g9L2, lE⟩
 have hp := hp0.le lE
 have hva := hva0.le lE
 try simp only [g0L2, g1L2, g2L2, g7L2, g8L2, g9L2]
 have z1 := hdN_bnd5 (st := st) (rc := rc) (by omega) (by omega) he h0 i (t := t) (by omega)
 refine ob_i (hp.nilC) ?_
 refine ob_i (hp.fa 1) ?_
 refine ob_i (hp.ld 1 rfl) ?_
 refine ob_i (vInt_add (by omega) (by omega)) ?_
 refine ob_i (vInt_leq _ _ _) ?_
 refine cnd_d (fun hg3 => ?_) (fun hg3 => ?_)
 ·skip
  have tt := hg3
  have z2 := hdN_bnd5 (st := st) (rc := rc) (by omega) (by omega) he h0 i (t := t + 1) (by omega)
  have z3 : hdN st rc l i (t + 1) = hdN st rc l i t * st + at_ 0 l ((i - rc + (t : Int)) % (l.length : Int)) := rfl
  have z4 := Int.emod_nonneg (i - rc + (t : Int)) (b := (l.length : Int)) (by omega)
  have z5 := Int.emod_lt_of_pos (i - rc + (t : Int)) (b := (l.length : Int)) (by omega)
  have z6 := he _ (at_mem 0 l z4 z5)
  have z7 := mul3_bnd z1.1 (show 1 ≤ st by omega) (by omega)
  refine ob_i (hp.nilC) ?_
  refine ob_i (hp.fa 0) ?_
  refine ob_i (hp.ld 0 rfl) ?_
  refine ob_i (vInt_mul (by omega) (by omega)) ?_
  have tm4 := (fmod_eq (a := i - rc + (t : Int)) (n := ((l).length : Int)) (by omega)).2
  refine ob_i (vInt_rem (by omega)) ?_
  refine ob_i (vInt_add (by omega) (by omega)) ?_
  have rm5 := And.intro (Int.emod_nonneg (i - rc + (t : Int)) (b := ((l).length : Int)) (by omega)) (Int.emod_lt_of_pos (i - rc + (t : Int)) (b := ((l).length : Int)) (by omega))
  refine ob_i (a := .int .i64 ((i - rc + (t : Int)) % (((l).length : Int)))) (by rw [vInt_remN (by omega) (by omega), (fmod_eq (a := i - rc + (t : Int)) (n := ((l).length : Int)) (by omega)).1]) ?_
  refine ob_i (hva.ix (by omega) (by omega)) ?_
  refine ob_i (hva.ld 0 (by omega) (by omega)) ?_
  refine ob_i (vInt_add (by omega) (by omega)) ?_
  refine ob_i (vInt_add (by omega) (by omega)) ?_
  exact nxt ((2 * rc + 1).toNat - (t + 1)) (by omega) ⟨t + 1, rfl, by omega, g0L2, g1L2, g2L2, g7L2, (congrArg (Value.int .i64) (by first | omega | rfl | (simp; done))), (congrArg (Value.int .i64) (by first | omega | rfl | (simp; done))), lE⟩
 ·skip
  have tt := hg3
  obtain rfl : t = (2 * rc + 1).toNat := by omega
  exact hJ1 _ _ ⟨g0L2, (g8L2.trans (congrArg (Value.int .i64) (by first | omega | rfl | (simp; done)))), lE⟩
theorem C.impl_Rule_step {vt va : Value} {st rc : Int} {T : List Int} {l : List Int}  {H : Hp} {K : Value → Hp → Prop} (hvt0 : Sl eI H vt T) (hva0 : Sl eI H va l) (hr : ruleP st rc T) (h0 : 0 < l.length) (h1 : l.length ≤ 64) (he : ∀ x ∈ l, 0 ≤ x ∧ x ≤ st - 1)
    (hk : ∀ u1 H', Own eI H' u1 (stpL st rc T l) → Nw H u1 → Le H H' → K u1 H') : HT prg I.impl_Rule_step [(.agg #[(.int .i64 (st)), (.int .i64 (rc)), vt]), va].toArray H K := by
 have lE := Le.refl H
 have hvt := hvt0
 have hva := hva0
 refine R.impl_Rule_step ?_
 unfold F.impl_Rule_step
 have hr1 := hr.1
 have hr2 := hr.2.1
 have hr3 := ruleP_len hr
 have hr4 := hr.2.2.2
 refine nw_i (fun p1 H2 op1 nn3 le4 => ?_)
 replace hvt := hvt.le le4
 replace hva := hva.le le4
 replace lE := lE.trans le4
 replace op1 : Cel H2 p1 [(.int .i64 (st)), (.int .i64 (rc)), vt] := op1
 refine ob_i (hva.len) ?_
 refine Own.mk_ (z := (0 : Int)) (by omega) (by omega) (by omega) (by omega) (fun u H5 ou nn6 le7 => ?_)
 have ap1Xu : Apart p1 u := op1.apart nn6
 have nu : Nw H u := nn6.le lE
 replace op1 := op1.le le7
 replace hvt := hvt.le le7
 replace hva := hva.le le7
 replace lE := lE.trans le7
 refine jn_i (fun σ' H' => σ' 5 = u ∧ Cel H' p1 [(.int .i64 (st)), (.int .i64 (rc)), vt] ∧ Own eI H' u (stpL st rc T l) ∧ Le H H') (fun σ8 H8 hP => ?_) (fun J8 hJ8 => ?_)
 ·skip
  obtain ⟨g5L8, op1, ou, lE⟩ := hP
  try simp only [g5L8]
  skip
  exact hk  u _ ou nu  lE
 refine ob_i (ou.len) ?_
 refine ⟨fun n' σ' H' => ∃ i : Nat, n' = l.length - i ∧ i ≤ l.length ∧ σ' 1 = va ∧ σ' 2 = p1 ∧ σ' 5 = u ∧ σ' 11 = (.int .i64 (((List.replicate (((l).length : Int) : Int).toNat 0).length : Int))) ∧ σ' 12 = (.int .i64 ((i : Int))) ∧ Cel H' p1 [(.int .i64 (st)), (.int .i64 (rc)), vt] ∧ Own eI H' u (stpF st rc T l i ++ List.replicate (l.length - i) 0) ∧ Le H H',
  ⟨_, 0, rfl, by omega, rfl, rfl, rfl, rfl, (congrArg (Value.int .i64) (by first | omega | rfl | (simp; done))), op1, (Own.cast (by simp [stpF]) ou), lE⟩, ?_⟩
 rintro n9 σ9 H9 ⟨i, rfl, hiN, g1L9, g2L9, g5L9, g11L9, g12L9, op1, ou, lE⟩
 have hvt := hvt0.le lE
 have hva := hva0.le lE
 try simp only [g1L9, g2L9, g5L9, g11L9, g12L9]
 have rl : (List.replicate ((l.length : Int)).toNat (0 : Int)).length = l.length := by simp
 have sl : (stpF st rc T l i ++ List.replicate (l.length - i) (0 : Int)).length = l.length := by simp [stpF]; omega
 refine ob_i (vInt_lss _ _ _) ?_
 refine cnd_d (fun hg10 => ?_) (fun hg10 => ?_)
 ·skip
  have ti := hg10
  refine ob_i (op1.ldn rfl) ?_
  refine C.impl_Rule_at hvt hva (by first | omega | assumption) (by first | omega | assumption) (by first | omega | assumption) (by first | omega | assumption) (by first | omega | assumption) (by first | omega | assumption) (fun   H11    le12 => ?_)
  replace op1 := op1.le le12
  replace ou := ou.le le12
  replace hvt := hvt.le le12
  replace hva := hva.le le12
  replace lE := lE.trans le12
  refine ob_i (ou.sl.ix (by omega) (by omega)) ?_
  refine ou.st (x := tdN st rc T l (i : Int)) (by omega) (by omega) rfl rfl (fun H13 ou off14 => ?_)
  replace op1 := op1.off off14 ap1Xu
  replace hvt := hvt0.le (off14.le lE nu)
  replace hva := hva0.le (off14.le lE nu)
  replace lE := off14.le lE nu
  refine ob_i (vInt_add (by omega) (by omega)) ?_
  exact nxt (l.length - (i + 1)) (by omega) ⟨i + 1, rfl, by omega, g1L9, g2L9, g5L9, g11L9, (congrArg (Value.int .i64) (by first | omega | rfl | (simp; done))), op1, (Own.cast (stp_set (by omega)) ou), lE⟩
 ·skip
  have ti := hg10
  rw [show i = l.length by omega, Nat.sub_self, List.replicate_zero, List.append_nil] at ou
  exact hJ8 _ _ ⟨g5L9, op1, ou, lE⟩
theorem C.spec_l02Step {p vt va : Value} {st rc : Int} {T : List Int} {l : List Int}  {H : Hp} {K : Value → Hp → Prop} (hp0 : Cel H p [(.int .i64 (st)), (.int .i64 (rc)), vt]) (hvt0 : Sl eI H vt T) (hva0 : Sl eI H va l) (hr : ruleP st rc T) (h0 : 0 < l.length) (h1 : l.length ≤ 64) (he : ∀ x ∈ l, 0 ≤ x ∧ x ≤ st - 1)
    (hk : ∀ u1 H', Own eI H' u1 (stpL st rc T l) → Nw H u1 → Le H H' → K u1 H') : HT prg I.spec_l02Step [p, va].toArray H K := by
 have lE := Le.refl H
 have hp := hp0
 have hvt := hvt0
 have hva := hva0
 refine R.spec_l02Step ?_
 unfold F.spec_l02Step
 have hr1 := hr.1
 have hr2 := hr.2.1
 have hr3 := ruleP_len hr
 have hr4 := hr.2.2.2
 refine bS_nil (enc := eI) (fun u1 H2 ou1 nn3 kk4 le5 => ?_)
 have nu1 : Nw H u1 := nn3.le lE
 replace hp := hp.le le5
 replace hvt := hvt.le le5
 replace hva := hva.le le5
 replace lE := lE.trans le5
 refine jn_i (fun σ' H' => ∃ u, σ' 5 = u ∧ Own eI H' u (stpL st rc T l) ∧ Nw H u ∧ Le H H') (fun σ6 H6 hP => ?_) (fun J6 hJ6 => ?_)
 ·skip
  obtain ⟨u, g5L6, ou, nu, lE⟩ := hP
  try simp only [g5L6]
  skip
  exact hk  u _ ou nu  lE
 refine ⟨fun n' σ' H' => ∃ i : Nat, n' = l.length - i ∧ i ≤ l.length ∧ ∃ u, σ' 0 = p ∧ σ' 1 = va ∧ σ' 5 = u ∧ σ' 6 = (.int .i64 ((i : Int))) ∧ Own eI H' u (stpF st rc T l i) ∧ Nw H u ∧ Le H H',
  ⟨_, 0, rfl, by omega, u1, rfl, rfl, rfl, (congrArg (Value.int .i64) (by first | omega | rfl | (simp; done))), (Own.cast (by first | rfl | (simp; done)) ou1), nu1, lE⟩, ?_⟩
 rintro n7 σ7 H7 ⟨i, rfl, hiN, u, g0L7, g1L7, g5L7, g6L7, ou, nu, lE⟩
 have hp := hp0.le lE
 have hvt := hvt0.le lE
 have hva := hva0.le lE
 try simp only [g0L7, g1L7, g5L7, g6L7]
 have sl := stpF_len st rc T l i
 refine ob_i (hva.len) ?_
 refine ob_i (vInt_lss _ _ _) ?_
 refine cnd_d (fun hg8 => ?_) (fun hg8 => ?_)
 ·skip
  have ti := hg8
  refine C.spec_l02Told hp hvt hva (by first | omega | assumption) (by first | omega | assumption) (by first | omega | assumption) (by first | omega | assumption) (by first | omega | assumption) (by first | omega | assumption) (fun   H9    le10 => ?_)
  replace ou := ou.le le10
  replace hp := hp.le le10
  replace hvt := hvt.le le10
  replace hva := hva.le le10
  replace lE := lE.trans le10
  refine bS_i (enc := eI) (l := [tdN st rc T l (i : Int)]) (by omega) rfl (by kernel_rfl) (fun u11 H12 ou11 nn13 le15 => ?_)
  replace ou := ou.le le15
  replace hp := hp.le le15
  replace hvt := hvt.le le15
  replace hva := hva.le le15
  replace lE := lE.trans le15
  refine apd_any ou ou11.sl (fun _ => rfl) (by omega) (by first | omega | (simp only [List.length_cons, List.length_nil, List.length_append, List.length_replicate, List.length_map, List.length_range]; omega)) (fun u19 H16 ou19 off17 hb18 => ?_)
  have nu19 : Nw H u19 := Nw.ap2 nu lE hb18
  replace hp := hp0.le (off17.le lE nu)
  replace hvt := hvt0.le (off17.le lE nu)
  replace hva := hva0.le (off17.le lE nu)
  replace lE := off17.le lE nu
  refine ob_i (vInt_add (by omega) (by omega)) ?_
  exact nxt (l.length - (i + 1)) (by omega) ⟨i + 1, rfl, by omega, u19, g0L7, g1L7, rfl, (congrArg (Value.int .i64) (by first | omega | rfl | (simp; done))), (Own.cast (stpF_succ st rc T l i) ou19), nu19, lE⟩
 ·skip
  have ti := hg8
  rw [show i = l.length by omega] at ou
  exact hJ6 _ _ ⟨u, g5L7, ou, nu, lE⟩
end Go.Proofs.Ythmdmbbdjbhcoaa
/- Copies from slice to slice; slices of one thing many times. -/
namespace Go.Proofs.Ythmdmbbdjbhcoaa
open HL
set_option maxRecDepth 100000
namespace HL
theorem Sl.firstN {α : Type} {enc : α → Value} {H : Hp} {v : Value} {l : List α} (h : Sl enc H v l) {n : Nat} (hn : n ≤ l.length) : HL.firstC H 1 n v = some ((l.take n).map enc) := by
  obtain ⟨a, c, rfl, hc, hr⟩ := h
  cases a with
  | none =>
    have : l = [] := by
      cases l with
      | nil => rfl
      | cons x r => obtain ⟨ad, e, _⟩ := hr 0 (by simp); simp at e
    subst this
    have : n = 0 := by simpa using hn
    subst this
    rfl
  | some ad =>
    simp only [HL.firstC, Nat.mul_one]
    rw [rd_cells (enc := enc) ad n 0 (l.take n) (by simp; omega) (fun i hi => by
      simp only [List.length_take] at hi
      obtain ⟨ad', e, hh⟩ := hr i (by omega)
      simp only [Option.some.injEq] at e
      subst e
      rw [Nat.zero_add, hh, List.getElem_take])]
def isSl1 (P : Program) (t : TypeId) : Bool := match P.underlying t with | some (.slice e) => (match szO P e with | some 1 => true | _ => false) | _ => false
theorem isSl1_of {P : Program} {t : TypeId} (h : isSl1 P t = true) : ∃ e, P.underlying t = some (.slice e) ∧ szO P e = some 1 := by
  unfold isSl1 at h
  split at h
  · rename_i e he
    split at h
    · rename_i h1; exact ⟨e, he, h1⟩
    · simp at h
  · simp at h
theorem copy_i {α : Type} {enc : α → Value} {P : Program} {t t' ty : TypeId} {bs : Array Bool} {a : Addr} {dl dc : Nat} {src : Value} {m : List α} {H : Hp} {K : Value → Hp → Prop} (ht : isSl1 P t = true) (hm : Sl enc H src m)
    (h : stC a (fun H' => K (.int .i64 ((min m.length dl : Nat) : Int)) H') ((m.take (min m.length dl)).map enc) 0 H) : hp P (builtin .copy #[t, t'] ty bs [.slice (some a) dl dc, src].toArray) H (nextH P K) := by
  obtain ⟨e, ht, hn⟩ := isSl1_of ht
  have hl := hm.lenO
  have hf : HL.firstC H 1 (min m.length dl) src = some ((m.take (min m.length dl)).map enc) := hm.firstN (Nat.min_le_left _ _)
  unfold builtin
  simp only [hp_bind']
  unfold Builtin.copy_
  refine hp_val_bind P _ _ H _ _ (by rw [val_underlying]; exact ht) ?_
  simp only
  refine hp_val_bind P _ _ H _ _ (val_lenOf P H src _ hl) ?_
  refine hp_val_bind P _ _ H _ _ (by rw [val_sizeOf, hn]) ?_
  refine hp_val_bind P _ _ H _ _ (val_firstCells P H 1 _ src _ hf) ?_
  simp only
  rw [hp_bind']
  exact hp_mono P _ _ _ _ (fun _ _ hh => hh) (hp_storeCells P _ _ _ _ _ h)
theorem stC_run2 {K : Hp → Prop} {b : Nat} {e : TypeId} : ∀ (m : List Value) (ad : Addr) (i : Nat) (cs : Array Value) (H : Hp), ad.block = b → ad.spot = none → H b = some (.cells cs e (0, 0)) → ad.off + i + m.length ≤ cs.size →
    (∀ x ∈ m, oneCell x = true) →
    (∀ H' cs', H' b = some (.cells cs' e (0, 0)) → cs'.size = cs.size → (∀ j, j < ad.off + i → cs'[j]? = cs[j]?) → (∀ j (h : j < m.length), cs'[ad.off + i + j]? = some m[j]) → (∀ j, ad.off + i + m.length ≤ j → cs'[j]? = cs[j]?) → (∀ x, x ≠ b → H' x = H x) → K H') → stC ad K m i H
  | [], ad, i, cs, H, hb, hsp, hH, hs, ho, hk => hk H cs hH rfl (fun _ _ => rfl) (fun j h => absurd h (by simp)) (fun _ _ => rfl) (fun _ _ => rfl)
  | x :: m, ad, i, cs, H, hb, hsp, hH, hs, ho, hk => by
    obtain ⟨abk, aoff, asp⟩ := ad
    simp only at hb hsp hs hk
    subst hb hsp
    simp only [List.length_cons] at hs hk
    refine ⟨ho x (by simp), ?_, ?_, ?_⟩
    · simp only [Hp.cell?, add_none, hH]
      rw [Array.getElem?_eq_getElem (by omega)]; rfl
    · simp only [Hp.frozen?, add_none, hH]; simp
    · refine stC_run2 (b := abk) (e := e) m _ (i + 1) (cs.setIfInBounds (aoff + i) x) _ rfl rfl ?_ (by simp; omega) (fun y hy => ho y (by simp [hy])) ?_
      · simp only [Hp.setCell, add_none, hH, Hp.put_same]; rfl
      · intro H' cs' h1 h2 h3 h4 h6 h5
        refine hk H' cs' h1 (by simpa using h2) ?_ ?_ ?_ ?_
        · intro j hj
          rw [h3 j (by simp only; omega), Array.getElem?_setIfInBounds_ne (by omega)]
        · intro j hj
          cases j with
          | zero =>
            rw [Nat.add_zero, h3 _ (by simp only; omega), Array.getElem?_setIfInBounds_self_of_lt (by omega)]; rfl
          | succ j =>
            have := h4 j (by simpa using hj)
            simp only at this
            rw [show aoff + i + (j + 1) = aoff + (i + 1) + j by omega, this]; rfl
        · intro j hj
          rw [h6 j (by simp only; omega), Array.getElem?_setIfInBounds_ne (by omega)]
        · intro x' hx'
          rw [h5 x' hx']
          simp only [Hp.setCell, add_none, hH]
          rw [Hp.put_ne _ _ hx']
theorem Own.copyAt {α : Type} {enc : α → Value} {H : Hp} {ad : Addr} {len cap : Nat} {l m : List α} {n : Nat} {K : Hp → Prop} (h : Own enc H (.slice (some ad) len cap) l) (hn : n + m.length ≤ l.length) (hp : 0 < l.length) (ho : ∀ x, oneCell (enc x) = true)
    (hk : ∀ H', Own enc H' (.slice (some ad) len cap) (l.take n ++ m ++ l.drop (n + m.length)) → Off (.slice (some ad) len cap) H H' → K H') : stC (ad.add n) K (m.map enc) 0 H := by
  obtain ⟨a, c, e, hc, hr⟩ := h
  simp only [Value.slice.injEq] at e
  obtain ⟨rfl, rfl, rfl⟩ := e
  obtain ⟨b, off, cs, e, hab, hb, hs, hcs⟩ := hr (by omega)
  simp only [Option.some.injEq] at hab
  subst hab
  have hlen : (l.take n ++ m ++ l.drop (n + m.length)).length = l.length := by simp; omega
  refine stC_run2 (b := b) (e := e) (m.map enc) _ 0 cs H (by rw [add_none]) (by rw [add_none]) hb (by rw [add_none]; simp; omega) (fun x hx => by obtain ⟨y, _, rfl⟩ := List.mem_map.mp hx; exact ho y) ?_
  intro H' cs' h1 h2 h3 h4 h6 h5
  rw [add_none] at h3 h4 h6
  simp only [Nat.add_zero, List.length_map] at h3 h4 h6
  refine hk H' ⟨_, cap, by rw [hlen], by rw [hlen]; exact hc, fun _ => ⟨b, off, cs', e, rfl, h1, by omega, fun i hi => ?_⟩⟩ ?_
  · rw [hlen] at hi
    by_cases g1 : i < n
    · rw [h3 _ (by omega), hcs i hi]
      rw [List.getElem_append_left (by simp; omega), List.getElem_append_left (by simp; omega), List.getElem_take]
    · by_cases g2 : i < n + m.length
      · have g3 := h4 (i - n) (by omega)
        rw [show off + n + (i - n) = off + i by omega] at g3
        rw [g3, List.getElem_append_left (by simp; omega), List.getElem_append_right (by simp; omega)]
        simp [show min n l.length = n by omega]
      · have g4 : cs'[off + i]? = cs[off + i]? := h6 _ (by omega)
        rw [g4, hcs i hi, List.getElem_append_right (by simp; omega)]
        simp [show min n l.length = n by omega]
        congr 2; omega
  · intro x o hx hv
    simp only [bk] at hv
    rw [if_neg (by omega)] at hv
    rw [h5 x (by rintro rfl; exact hv rfl)]; exact hx
theorem wrapU {x : Int} (h : 0 ≤ x) (h' : x < 18446744073709551616) : IntKind.u64.wrap x = x := by
  unfold IntKind.wrap; simp [IntKind.signed, IntKind.bits]; omega
theorem vAndU {a : Int} (h0 : 0 ≤ a) (h1 : a < 4294967296) : vInt .and (.int .u64 a) (.int .u64 4294967295) = some (.int .u64 a) := by
  obtain ⟨n, rfl⟩ := Int.eq_ofNat_of_zero_le h0
  have e : (BitVec.ofInt 64 (n : Int) &&& BitVec.ofInt 64 4294967295).toNat = n := by
    have e1 : BitVec.ofInt 64 (n : Int) = BitVec.ofNat 64 n := BitVec.ofInt_natCast 64 n
    have e2 : BitVec.ofInt 64 4294967295 = BitVec.ofNat 64 4294967295 := rfl
    rw [e1, e2, BitVec.toNat_and, BitVec.toNat_ofNat, BitVec.toNat_ofNat, Nat.mod_eq_of_lt (by omega), Nat.mod_eq_of_lt (by omega)]
    exact Nat.and_two_pow_sub_one_of_lt_two_pow (n := 32) (by omega)
  simp only [vInt, if_true]
  show some (Value.int .u64 (IntKind.u64.wrap ((BitVec.ofInt 64 (n : Int) &&& BitVec.ofInt 64 4294967295).toNat : Int))) = _
  rw [e, wrapU h0 (by omega)]
theorem vShrU {a : Int} (h0 : 0 ≤ a) (h1 : a < 4294967296) : vInt .shr (.int .u64 a) (.int .u64 32) = some (.int .u64 0) := by
  simp only [vInt]
  rw [if_pos (by omega)]
  have : min (32 : Int).toNat IntKind.u64.bits = 32 := by decide
  rw [this, Int.fdiv_eq_ediv_of_nonneg _ (by decide), Int.ediv_eq_zero_of_lt h0 (by simpa using h1)]
theorem vMulU {a b : Int} (h0 : 0 ≤ a * b) (h1 : a * b < 18446744073709551616) : vInt .mul (.int .u64 a) (.int .u64 b) = some (.int .u64 (a * b)) := by
  simp only [vInt, if_true, wrapU h0 h1]
theorem vAddU {a b : Int} (h0 : 0 ≤ a + b) (h1 : a + b < 18446744073709551616) : vInt .add (.int .u64 a) (.int .u64 b) = some (.int .u64 (a + b)) := by
  simp only [vInt, if_true, wrapU h0 h1]
end HL
theorem C.math_bits_Mul64 {x y : Int} {H : Hp} {K : Value → Hp → Prop} (x0 : 0 ≤ x) (x1 : x < 65536) (y0 : 0 ≤ y) (y1 : y < 65536) (hk : K (.tuple #[.int .u64 0, .int .u64 (x * y)]) H) : HT prg I.math_bits_Mul64 [.int .u64 x, .int .u64 y].toArray H K := by
 have m0 : 0 ≤ x * y := Int.mul_nonneg x0 y0
 have m1 : x * y < 4294967296 := by
  have := Int.mul_le_mul (show x ≤ 65535 by omega) (show y ≤ 65535 by omega) y0 (by omega)
  omega
 refine R.math_bits_Mul64 ?_
 unfold F.math_bits_Mul64
 refine ob_i (vAndU x0 (by omega)) (ob_i (vShrU x0 (by omega)) (ob_i (vAndU y0 (by omega)) (ob_i (vShrU y0 (by omega)) (ob_i (vMulU m0 (by omega)) ?_))))
 refine ob_i (vMulU (a := 0) (b := y) (by omega) (by omega)) (ob_i (vShrU m0 m1) (ob_i (vAddU (by omega) (by omega)) ?_))
 refine ob_i (vAndU (by omega) (by omega)) (ob_i (vShrU (by omega) (by omega)) (ob_i (vMulU (a := x) (b := 0) (by omega) (by omega)) (ob_i (vAddU (by omega) (by omega)) ?_)))
 refine ob_i (vMulU (a := 0) (b := 0) (by omega) (by omega)) (ob_i (vAddU (by omega) (by omega)) (ob_i (vShrU (by omega) (by omega)) (ob_i (vAddU (by omega) (by omega)) (ob_i (vMulU m0 (by omega)) ?_))))
 rw [show (0 : Int) * 0 + 0 + 0 = 0 by omega]
 exact hk
theorem C.math_bits_Mul {x y : Int} {H : Hp} {K : Value → Hp → Prop} (x0 : 0 ≤ x) (x1 : x < 65536) (y0 : 0 ≤ y) (y1 : y < 65536) (hk : K (.tuple #[.int .u64 0, .int .u64 (x * y)]) H) : HT prg I.math_bits_Mul [.int .u64 x, .int .u64 y].toArray H K := by
 refine R.math_bits_Mul ?_
 unfold F.math_bits_Mul
 refine cnd_f1 ?_
 refine C.math_bits_Mul64 x0 x1 y0 y1 ?_
 rw [vExt_20, ob_some, vExt_21, ob_some]
 exact hk
theorem rep_step {a : Int} {i c : Nat} (hi : 1 ≤ i) (hc : i ≤ c) : (List.replicate i a ++ List.replicate (c - i) 0).take i ++ ((List.replicate i a).take (min i (c - i))) ++ (List.replicate i a ++ List.replicate (c - i) 0).drop (i + ((List.replicate i a).take (min i (c - i))).length) = List.replicate (i + min i (c - i)) a ++ List.replicate (c - (i + min i (c - i))) (0 : Int) := by
  rw [List.take_append_of_le_length (by simp), List.take_of_length_le (by simp), List.take_replicate, show min (min i (c - i)) i = min i (c - i) by omega, List.replicate_append_replicate, List.length_replicate, List.drop_append, List.drop_of_length_le (by simp), List.nil_append, List.length_replicate, List.drop_replicate]
  congr 2; omega
theorem C.slices_Repeat_int64Zint64 {va : Value} {l : List Int} {n : Int} {H : Hp} {K : Value → Hp → Prop} (hva0 : Sl eI H va l) (h1 : l.length = 1) (n0 : 1 ≤ n) (n1 : n ≤ 65535) (hk : ∀ u1 H', Own eI H' u1 (List.replicate n.toNat (at_ 0 l 0)) → Nw H u1 → Le H H' → K u1 H') :
    HT prg I.slices_Repeat_int64Zint64 [va, .int .i64 n].toArray H K := by
 obtain ⟨a, rfl⟩ : ∃ a, l = [a] := by
  match l, h1 with
  | [a], _ => exact ⟨a, rfl⟩
 refine R.slices_Repeat_int64Zint64 ?_
 unfold F.slices_Repeat_int64Zint64
 refine jn_i (fun σ' H' => σ' 0 = va ∧ σ' 1 = .int .i64 n ∧ H' = H) (fun σ1 H1 hP => ?_) (fun J1 hJ1 => ?_)
 ·obtain ⟨g0, g1, rfl⟩ := hP
  refine ob_i (by rw [g0]; exact hva0.len) (ob_i (vCI_u64 (by simp) (by simp)) ?_)
  rw [g1]
  refine ob_i (vCI_u64 (by omega) (by omega)) ?_
  refine C.math_bits_Mul (by simp) (by simp) (by omega) (by omega) ?_
  rw [vExt_20, ob_some, vExt_21, ob_some, show (([a].length : Nat) : Int) * n = n by simp]
  refine jn_i (fun σ' H' => σ' 0 = va ∧ σ' 6 = .int .u64 n ∧ H' = H1) (fun σ2 H2 hP => ?_) (fun J2 hJ2 => ?_)
  ·obtain ⟨g2, g6, rfl⟩ := hP
   rw [g6]
   refine ob_i (vCI_64 _ (by omega) (by omega)) ?_
   refine Own.mk_ (z := (0 : Int)) (by omega) (by omega) (by omega) (by omega) (fun u H3 ou nn le => ?_)
   obtain ⟨ad, cp, rfl⟩ : ∃ ad cp, u = .slice (some ad) n.toNat cp := by
    obtain ⟨x, c, rfl, hc, hr⟩ := ou
    obtain ⟨b, off, cs, e, rfl, _⟩ := hr (by simp at hc; omega)
    exact ⟨_, c, by rw [List.length_replicate]⟩
   rw [g2]
   refine copy_i (m := [a]) (by kernel_rfl) (hva0.le le) ?_
   rw [show min [a].length n.toNat = 1 by simp; omega]
   have e0 : ad.add 0 = ad := by unfold Addr.add; simp
   rw [← e0]
   refine Own.copyAt (n := 0) ou (by simp; omega) (by simp; omega) (fun _ => rfl) (fun H4 ou off => ?_)
   have le4 : Le H2 H4 := off.le le nn
   have lx : (List.replicate n.toNat (0 : Int)).take 0 ++ [a].take 1 ++ (List.replicate n.toNat 0).drop (0 + ([a].take 1).length) = List.replicate 1 a ++ List.replicate (n.toNat - 1) 0 := by simp [List.drop_replicate]
   rw [lx] at ou
   refine jn_i (fun σ' H' => σ' 7 = .slice (some ad) n.toNat cp ∧ Own eI H' (.slice (some ad) n.toNat cp) (List.replicate n.toNat a) ∧ Le H2 H') (fun σ3 H5 hP => ?_) (fun J3 hJ3 => ?_)
   ·obtain ⟨g7, o5, le5⟩ := hP
    rw [g7]
    exact hk _ _ o5 nn le5
   ·refine ⟨fun n' σ' H' => ∃ i : Nat, n' = n.toNat - i ∧ 1 ≤ i ∧ i ≤ n.toNat ∧ σ' 7 = .slice (some ad) n.toNat cp ∧ σ' 8 = .int .i64 i ∧ Own eI H' (.slice (some ad) n.toNat cp) (List.replicate i a ++ List.replicate (n.toNat - i) 0) ∧ Le H2 H',
     ⟨_, 1, rfl, by omega, by omega, rfl, rfl, ou, le4⟩, ?_⟩
    rintro n' σ4 H6 ⟨i, rfl, i1, i2, g7, g8, o6, le6⟩
    have hl6 : (List.replicate i a ++ List.replicate (n.toNat - i) (0 : Int)).length = n.toNat := by simp; omega
    rw [g7, g8]
    refine ob_i o6.len ?_
    rw [hl6, vInt_lss, ob_some]
    refine cnd_d (fun hlt => ?_) (fun hge => ?_)
    ·obtain ⟨x, e1, e2, e3, e4, hx, hbx⟩ := o6.sl.cut (lo := 0) (hi := (i : Int)) (by omega) (by omega) (by omega)
     obtain ⟨cc, hcc, hcc2⟩ : ∃ cc, cp = cc ∧ n.toNat ≤ cc := by
      obtain ⟨x, c, e, hc, hr⟩ := o6
      simp only [Value.slice.injEq] at e
      exact ⟨cp, rfl, by omega⟩
     have ed : vSl3 1 (.slice (some ad) n.toNat cp) (some (.int .i64 i)) none none = some (.slice (some (ad.add i)) (n.toNat - i) (cp - i)) := by
      simp only [vSl3, vSl, bnd]
      rw [if_pos (by omega)]
      simp only [Int.toNat_natCast, Option.map_some, Nat.mul_one]
      rw [if_neg (by omega)]
     refine ob_i ed (ob_i (e3 rfl) ?_)
     have hm : ((List.replicate i a ++ List.replicate (n.toNat - i) (0 : Int)).drop (0 : Int).toNat).take ((i : Int).toNat - (0 : Int).toNat) = List.replicate i a := by
      simp
     rw [hm] at hx
     refine copy_i (m := List.replicate i a) (by kernel_rfl) hx ?_
     rw [List.length_replicate]
     refine Own.copyAt (n := i) o6 (by simp; omega) (by omega) (fun _ => rfl) (fun H7 o7 off7 => ?_)
     rw [rep_step i1 i2] at o7
     rw [vInt_add (by omega) (by omega), ob_some]
     refine nxt (n.toNat - (i + min i (n.toNat - i))) (by omega) ⟨i + min i (n.toNat - i), rfl, by omega, by omega, g7, ?_, o7, off7.le le6 nn⟩
     show Value.int .i64 _ = _
     rw [Int.natCast_add]
    ·obtain rfl : i = n.toNat := by omega
     refine hJ3 _ _ ⟨g7, ?_, le6⟩
     rw [Nat.sub_self] at o6
     simpa using o6
  ·refine ob_i (vInt_gtr _ _ _) ?_
   rw [decide_eq_false (by omega)]
   refine gop_rf (gop_rf (ob_i (vInt_gtr _ _ _) ?_))
   rw [decide_eq_false (by omega)]
   refine ob_i (vPick_f _ _) (cnd_f1 ?_)
   exact hJ2 _ _ ⟨g0, rfl, rfl⟩
 ·rw [vInt_lss, ob_some, decide_eq_false (by omega)]
  exact cnd_f1 (hJ1 _ _ ⟨rfl, rfl, rfl⟩)
end Go.Proofs.Ythmdmbbdjbhcoaa
/- Ranges over functions: a rule by an invariant; slices.Chunk. -/
namespace Go.Proofs.Ythmdmbbdjbhcoaa
open HL
set_option maxRecDepth 100000
namespace HL
/-- A range over an iterator that gives N times something: what holds ahead of each round. -/
theorem rgE_i {fv : Value} {ps : List Nat} {body : (Exit → S → Hp → Prop) → S → Hp → Prop} {Q : Exit → S → Hp → Prop} {σ : S} {H : Hp} (N : Nat) (arg : Nat → List Value) (I : Nat → Hp → Prop) (hfv : match fv with | .func (.func _) _ _ => True | _ => False) (hps : ∀ t, (arg t).length = ps.length) (h0 : I 0 H)
    (hb : ∀ t A σ' (Q' : Exit → S → Hp → Prop), t < N → σ' = ups σ ps (arg t) → (∀ σ'' B, I (t + 1) B → Q' .normal σ'' B) → (∀ σ'' B, Q .ret σ B → Q' .ret σ'' B) → (∀ id σ'' B, Q (.exit id) σ B → Q' (.exit id) σ'' B) → I t A → body Q' σ' A)
    (hend : ∀ A, I N A → Q .normal σ A)
    (hcall : ∀ (yv : Value) (J : Nat → Hp → Prop) (St : Hp → Prop) (H1 : Hp) (K : Value → Hp → Prop), (∀ t A, J t A → ∃ A' b o, A = A'.put b o ∧ A' b = none ∧ I t A') → J 0 H1 →
      (∀ t A (Z : Value → Hp → Prop), t < N → J t A → (∀ B, J (t + 1) B → Z (.bool true) B) → (∀ B, St B → Z (.bool false) B) → callV prg yv (arg t) A Z) → (∀ A, J N A → K (.tuple #[]) A) → (∀ A, St A → K (.tuple #[]) A) → callV prg fv [yv] H1 K) :
    rgE prg fv ps body Q σ H := by
  refine ⟨hfv, fun l X hl hy => ?_⟩
  refine hcall _ (fun t A => ∃ A', A = A'.put l (X none) ∧ A' l = none ∧ I t A') (fun A => ∃ A' j, A = A'.put l (X j) ∧ A' l = none ∧ jmpQ Q σ A' j) _ _ ?_ ⟨H, rfl, hl, h0⟩ ?_ ?_ ?_
  · rintro t A ⟨A', rfl, hn, hI⟩
    exact ⟨A', l, X none, rfl, hn, hI⟩
  · rintro t A Z ht ⟨A', rfl, hn, hI⟩ hT hF
    refine hy (arg t) A' Z (hps t) hn (hb t A' _ _ ht rfl (fun σ'' B hB hBl => ?_) (fun σ'' B hB hBl => ?_) (fun id σ'' B hB hBl => ?_) hI)
    · exact hT _ ⟨B, rfl, hBl, hB⟩
    · exact hF _ ⟨B, some .ret, rfl, hBl, hB⟩
    · exact hF _ ⟨B, some (.exit id), rfl, hBl, hB⟩
  · rintro A ⟨A', rfl, hn, hI⟩
    exact ⟨A', none, rfl, hn, hend A' hI⟩
  · rintro A ⟨A', j, rfl, hn, hj⟩
    exact ⟨A', j, rfl, hn, hj⟩
end HL
end Go.Proofs.Ythmdmbbdjbhcoaa
