/- Slices over a partial heap: what is read, what is owned, and what stays when something else is written. -/
import Derived.Test.YtkehomlkgcfjnaaHI
namespace Go.Proofs.Ytkehomlkgcfjnaa.HL

abbrev eI : Int → Value := .int .i64
abbrev eB : Bool → Value := .bool
abbrev eF : Nat → Value := .float .f32

/-- The pointer to a slice's cell, where its elements have one cell each. -/
def ptr (v : Value) (i : Int) : Value := match v with | .slice (some a) _ _ => .pointer (some (a.add (i.toNat * 1))) | _ => undef
/-- The block that a slice or a pointer may write. -/
def bk (v : Value) : Option Nat := match v with | .slice (some a) _ c => if c = 0 then none else some a.block | .pointer (some a) => some a.block | _ => none
/-- The element at an index. -/
def at_ {α : Type} (d : α) (l : List α) (i : Int) : α := l.getD i.toNat d

/-- A slice that reads so. -/
def Sl {α : Type} (enc : α → Value) (H : Hp) (v : Value) (l : List α) : Prop :=
  ∃ a c, v = .slice a l.length c ∧ l.length ≤ c ∧ ∀ i (h : i < l.length), ∃ ad, a = some ad ∧ H.cell? (ad.add i) = some (enc l[i])
/-- A slice whose block is known whole, and may be written. -/
def Own {α : Type} (enc : α → Value) (H : Hp) (v : Value) (l : List α) : Prop :=
  ∃ a c, v = .slice a l.length c ∧ l.length ≤ c ∧ (0 < c → ∃ b off cs e, a = some ⟨b, off, none⟩ ∧ H b = some (.cells cs e (0, 0)) ∧ off + c ≤ cs.size ∧ ∀ i (h : i < l.length), cs[off + i]? = some (enc l[i]))
/-- A slice whose block is not known in a heap. -/
def Nw (H : Hp) (v : Value) : Prop := ∀ b, bk v = some b → H b = none
def Apart (u v : Value) : Prop := ∀ b, bk u = some b → bk v ≠ some b
/-- All that is known stays, but for a slice's block. -/
def Off (v : Value) (H H' : Hp) : Prop := ∀ b o, H b = some o → bk v ≠ some b → H' b = some o

theorem add_none (b off i : Nat) : (⟨b, off, none⟩ : Addr).add i = ⟨b, off + i, none⟩ := by
  unfold Addr.add
  split
  · rename_i h; subst h; rfl
  · rfl
theorem Apart.symm {u v : Value} (h : Apart u v) : Apart v u := fun b hb hu => h b hu hb
theorem Nw.le {H H' : Hp} {v : Value} (h : Nw H' v) (hl : Le H H') : Nw H v := fun b hb => by
  cases ho : H b with
  | none => rfl
  | some o => have := hl b o ho; rw [h b hb] at this; exact absurd this (by simp)
theorem Off.le {H0 H H' : Hp} {v : Value} (h : Off v H H') (hl : Le H0 H) (hn : Nw H0 v) : Le H0 H' := fun b o hb =>
  h b o (hl b o hb) (fun e => by rw [hn b e] at hb; exact absurd hb (by simp))
theorem Off.of_le {H H' : Hp} {v : Value} (h : Le H H') : Off v H H' := fun b o hb _ => h b o hb
theorem Off.trans {A B C : Hp} {v : Value} (h : Off v A B) (h' : Off v B C) : Off v A C := fun b o hb hv => h' b o (h b o hb hv) hv

section
variable {α : Type} {enc : α → Value} {H H' : Hp} {u v : Value} {l : List α}

theorem Sl.le (h : Sl enc H v l) (hl : Le H H') : Sl enc H' v l := by
  obtain ⟨a, c, rfl, hc, hr⟩ := h
  exact ⟨a, c, rfl, hc, fun i hi => by obtain ⟨ad, e, hh⟩ := hr i hi; exact ⟨ad, e, hl.cell hh⟩⟩
theorem Sl.len (h : Sl enc H v l) : vLenSl v = some (.int .i64 l.length) := by
  obtain ⟨a, c, rfl, hc, hr⟩ := h; rfl
theorem Sl.ix (h : Sl enc H v l) {k : IntKind} {i : Int} (h0 : 0 ≤ i) (h1 : i < l.length) : vIx 1 v (.int k i) = some (ptr v i) := by
  obtain ⟨a, c, rfl, hc, hr⟩ := h
  obtain ⟨ad, rfl, hh⟩ := hr i.toNat (by omega)
  simp only [vIx, ptr]
  rw [if_pos ⟨h0, by simpa using h1⟩]
theorem Sl.ld (h : Sl enc H v l) (d : α) {i : Int} (h0 : 0 ≤ i) (h1 : i < l.length) : vLoad (ptr v i) H = some (enc (at_ d l i)) := by
  obtain ⟨a, c, rfl, hc, hr⟩ := h
  have hi : i.toNat < l.length := by omega
  obtain ⟨ad, rfl, hh⟩ := hr i.toNat hi
  simp only [vLoad, ptr, Nat.mul_one, hh, at_, List.getD_eq_getElem?_getD, List.getElem?_eq_getElem hi, Option.getD_some]
theorem Sl.nil (c : Nat) (a : Option Addr) : Sl enc H (.slice a 0 c) [] := ⟨a, c, rfl, by simp, fun i hi => absurd hi (by simp)⟩

theorem Own.len (h : Own enc H v l) : vLenSl v = some (.int .i64 l.length) := by
  obtain ⟨a, c, rfl, hc, hr⟩ := h; rfl
theorem Own.sl (h : Own enc H v l) : Sl enc H v l := by
  obtain ⟨a, c, rfl, hc, hr⟩ := h
  refine ⟨a, c, rfl, hc, fun i hi => ?_⟩
  obtain ⟨b, off, cs, e, rfl, hb, hs, hcs⟩ := hr (by omega)
  exact ⟨_, rfl, by simp only [Hp.cell?, add_none, hb, hcs i hi]; rfl⟩
theorem Own.off (h : Own enc H u l) (ho : Off v H H') (ha : Apart u v) : Own enc H' u l := by
  obtain ⟨a, c, rfl, hc, hr⟩ := h
  refine ⟨a, c, rfl, hc, fun h0 => ?_⟩
  obtain ⟨b, off, cs, e, rfl, hb, hs, hcs⟩ := hr h0
  refine ⟨b, off, cs, e, rfl, ho b _ hb (ha b ?_), hs, hcs⟩
  simp only [bk]
  rw [if_neg (by omega)]
theorem Own.le (h : Own enc H u l) (hl : Le H H') : Own enc H' u l := by
  obtain ⟨a, c, rfl, hc, hr⟩ := h
  refine ⟨a, c, rfl, hc, fun h0 => ?_⟩
  obtain ⟨b, off, cs, e, rfl, hb, hs, hcs⟩ := hr h0
  exact ⟨b, off, cs, e, rfl, hl b _ hb, hs, hcs⟩
theorem Own.known (h : Own enc H u l) : ∀ b, bk u = some b → ∃ o, H b = some o := by
  obtain ⟨a, c, rfl, hc, hr⟩ := h
  intro b hb
  cases a with
  | none => simp [bk] at hb
  | some ad =>
    simp only [bk] at hb
    by_cases h0 : c = 0
    · rw [if_pos h0] at hb; simp at hb
    · rw [if_neg h0] at hb
      obtain ⟨b', off, cs, e, he, hbb, _⟩ := hr (by omega)
      simp only [Option.some.injEq] at hb he
      subst he
      simp only at hb
      subst hb
      exact ⟨_, hbb⟩
theorem Own.apart (h : Own enc H u l) (hn : Nw H v) : Apart u v := fun b hb hv => by
  obtain ⟨o, ho⟩ := h.known b hb
  rw [hn b hv] at ho
  exact absurd ho (by simp)
theorem Apart.of_nw {H : Hp} {u v : Value} (hu : ∀ b, bk u = some b → ∃ o, H b = some o) (hn : Nw H v) : Apart u v := fun b hb hv => by
  obtain ⟨o, ho⟩ := hu b hb
  rw [hn b hv] at ho
  exact absurd ho (by simp)
theorem Own.nil_of (a : Option Addr) : Own enc H (.slice a 0 0) [] := ⟨a, 0, rfl, by simp, fun h0 => absurd h0 (by simp)⟩

/-- A write of one cell. -/
theorem Own.st (h : Own enc H v l) {x : α} {K : Hp → Prop} {i : Int} (h0 : 0 ≤ i) (h1 : i < l.length) (hx : oneCell (enc x) = true) (hz : (enc x).cells = #[enc x])
    (hk : ∀ H', Own enc H' v (l.set i.toNat x) → Off v H H' → K H') : st 1 (ptr v i) (enc x) H K := by
  obtain ⟨a, c, rfl, hc, hr⟩ := h
  obtain ⟨b, off, cs, e, rfl, hb, hs, hcs⟩ := hr (by omega)
  have hi : i.toNat < l.length := by omega
  simp only [HL.st, ptr, hz, List.toList_toArray, Nat.mul_one, List.size_toArray, List.length_singleton, true_and, stC]
  refine ⟨hx, ?_, ?_, ?_⟩
  · simp only [Hp.cell?, add_none, hb, hcs _ hi, Nat.add_zero]; rfl
  · simp only [Hp.frozen?, add_none, hb]; simp
  · refine hk _ ⟨_, c, by simp, by simpa using hc, fun _ => ⟨b, off, cs.setIfInBounds (off + i.toNat) (enc x), e, rfl, ?_, by simpa using hs, ?_⟩⟩ ?_
    · simp only [Hp.setCell, add_none, hb, Nat.add_zero, Hp.put_same]; rfl
    · intro j hj
      have hj' : j < l.length := by simpa using hj
      rw [Array.getElem?_setIfInBounds]
      by_cases e1 : off + i.toNat = off + j
      · have : i.toNat = j := by omega
        subst this
        rw [if_pos rfl, if_pos (by omega)]; simp
      · have : i.toNat ≠ j := by omega
        rw [if_neg e1, hcs j hj', List.getElem_set_ne this]
    · intro x' o ho hv
      simp only [bk, if_neg (by omega : ¬ c = 0)] at hv
      simp only [Hp.setCell, add_none, hb]
      rw [Hp.put_ne _ _ (by rintro rfl; exact hv rfl)]
      exact ho

theorem zrow_get (z : Value) (n i : Nat) (h : i < n) : (zrow #[z] n)[i]? = some z := by
  simp only [zrow, List.size_toArray, List.length_singleton, Nat.mod_one]
  simp [h]
theorem zrow_size (zs : Array Value) (n : Nat) : (zrow zs n).size = n := by simp [zrow]

/-- A new row. -/
theorem Own.mk_ {bytes : Nat} {z : α} {e : TypeId} {k k' : IntKind} {n c : Int} {K : Value → Hp → Prop} (h0 : 0 ≤ n) (h1 : n ≤ c) (h2 : c ≤ 281474976710656) (h3 : bytes * c ≤ 281474976710656)
    (hk : ∀ v H', Own enc H' v (List.replicate n.toNat z) → Nw H v → Le H H' → K v H') : mkS 1 bytes #[enc z] e (.int k n) (.int k' c) H K := by
  refine ⟨h0, h1, h2, h3, fun r hr => hk _ _ ⟨some ⟨r, 0, none⟩, c.toNat, by simp, by simp; omega, fun h4 => ⟨r, 0, _, e, rfl, Hp.put_same _ _ _, ?_, ?_⟩⟩ ?_ (Le.put _ hr)⟩
  · rw [Nat.mul_one, if_neg (by omega), zrow_size]; omega
  · intro i hi
    have : i < n.toNat := by simpa using hi
    rw [Nat.mul_one, if_neg (by omega), Nat.zero_add, zrow_get _ _ _ (by omega)]; simp
  · intro b hb
    simp only [bk] at hb
    split at hb
    · simp at hb
    · simp only [Option.some.injEq] at hb; subst hb; exact hr

theorem rd_cells (ad : Addr) : ∀ (n s : Nat) (l : List α), l.length = n → (∀ i (h : i < l.length), H.cell? (ad.add (s + i)) = some (enc l[i])) → rdCells H ad s n = some (l.map enc)
  | 0, s, l, hn, _ => by have : l = [] := List.length_eq_zero_iff.mp hn; subst this; rfl
  | n + 1, s, l, hn, h => by
    cases l with
    | nil => simp at hn
    | cons x r =>
      simp only [rdCells]
      have h0 := h 0 (by simp)
      simp only [Nat.add_zero, List.getElem_cons_zero] at h0
      rw [h0, rd_cells ad n (s + 1) r (by simpa using hn) (fun i hi => by
        have := h (i + 1) (by simpa using hi)
        rw [show s + 1 + i = s + (i + 1) by omega]
        simpa using this)]
      rfl
theorem Sl.firstC (h : Sl enc H v l) : firstC H 1 l.length v = some (l.map enc) := by
  obtain ⟨a, c, rfl, hc, hr⟩ := h
  cases l with
  | nil => cases a <;> rfl
  | cons x r =>
    obtain ⟨ad, rfl, _⟩ := hr 0 (by simp)
    simp only [HL.firstC, Nat.mul_one]
    exact rd_cells ad _ 0 _ rfl (fun i hi => by obtain ⟨ad', e, hh⟩ := hr i hi; cases e; simpa using hh)
theorem Sl.lenO (h : Sl enc H v l) : lenO v = some l.length := by
  obtain ⟨a, c, rfl, hc, hr⟩ := h; rfl

theorem stC_run {K : Hp → Prop} {b : Nat} {e : TypeId} : ∀ (m : List Value) (ad : Addr) (i : Nat) (cs : Array Value) (H : Hp), ad.block = b → ad.spot = none → H b = some (.cells cs e (0, 0)) → ad.off + i + m.length ≤ cs.size →
    (∀ x ∈ m, oneCell x = true) →
    (∀ H' cs', H' b = some (.cells cs' e (0, 0)) → cs'.size = cs.size → (∀ j, j < ad.off + i → cs'[j]? = cs[j]?) → (∀ j (h : j < m.length), cs'[ad.off + i + j]? = some m[j]) → (∀ x, x ≠ b → H' x = H x) → K H') → stC ad K m i H
  | [], ad, i, cs, H, hb, hsp, hH, hs, ho, hk => hk H cs hH rfl (fun _ _ => rfl) (fun j h => absurd h (by simp)) (fun _ _ => rfl)
  | x :: m, ad, i, cs, H, hb, hsp, hH, hs, ho, hk => by
    obtain ⟨abk, aoff, asp⟩ := ad
    simp only at hb hsp hs hk
    subst hb hsp
    simp only [List.length_cons] at hs
    refine ⟨ho x (by simp), ?_, ?_, ?_⟩
    · simp only [Hp.cell?, add_none, hH]
      rw [Array.getElem?_eq_getElem (by omega)]; rfl
    · simp only [Hp.frozen?, add_none, hH]; simp
    · refine stC_run (b := abk) (e := e) m _ (i + 1) (cs.setIfInBounds (aoff + i) x) _ rfl rfl ?_ (by simp; omega) (fun y hy => ho y (by simp [hy])) ?_
      · simp only [Hp.setCell, add_none, hH, Hp.put_same]; rfl
      · intro H' cs' h1 h2 h3 h4 h5
        refine hk H' cs' h1 (by simpa using h2) ?_ ?_ ?_
        · intro j hj
          rw [h3 j (by simp only; omega), Array.getElem?_setIfInBounds_ne (by omega)]
        · intro j hj
          cases j with
          | zero =>
            rw [Nat.add_zero, h3 _ (by simp only; omega), Array.getElem?_setIfInBounds_self_of_lt (by omega)]; rfl
          | succ j =>
            have := h4 j (by simpa using hj)
            simp only at this
            rw [show aoff + i + (j + 1) = aoff + (i + 1) + j by omega, this]; rfl
        · intro x' hx'
          rw [h5 x' hx']
          simp only [Hp.setCell, add_none, hH]
          rw [Hp.put_ne _ _ hx']

/-- An append. -/
theorem Own.apd {bytes : Nat} {z : Value} {e : TypeId} {w : Value} {m : List α} {K : Value → Hp → Prop} (h : Own enc H v l) (hm : Sl enc H w m) (ho : ∀ x, oneCell (enc x) = true)
    (hb : l.length + m.length < 9223372036854775808) (hc : ∀ c, l.length + m.length > c → Builtin.nextslicecap (l.length + m.length) c * bytes ≤ 281474976710656)
    (hk : ∀ v' H', Own enc H' v' (l ++ m) → Off v H H' → (∀ b, bk v' = some b → bk v = some b ∨ H b = none) → K v' H') : apd 1 bytes #[z] e v w H K := by
  have hmf := hm.firstC
  have hml := hm.lenO
  have hlf := h.sl.firstC
  obtain ⟨a, c, rfl, hlc, hr⟩ := h
  simp only [HL.apd, hml]
  by_cases hcap : l.length + m.length ≤ c
  · rw [if_pos hcap]
    simp only [hmf]
    by_cases hc0 : c = 0
    · have hl : l = [] := List.length_eq_zero_iff.mp (by omega)
      have hm' : m = [] := List.length_eq_zero_iff.mp (by omega)
      subst hl hm' hc0
      have : K (.slice a (([] : List α).length + ([] : List α).length) 0) H := hk _ H ⟨a, 0, rfl, by simp, fun h0 => absurd h0 (by simp)⟩ (fun b o hb _ => hb) (fun b hb => by cases a <;> simp [bk] at hb)
      cases a with
      | none => exact this
      | some ad => exact this
    · obtain ⟨b, off, cs, e', rfl, hbb, hs, hcs⟩ := hr (by omega)
      simp only [add_none, Nat.mul_one]
      refine stC_run (b := b) (e := e') (m.map enc) _ 0 cs H rfl rfl hbb (by simp; omega) (by simp; intro x _; exact ho x) ?_
      intro H' cs' h1 h2 h3 h4 h5
      simp only [Nat.add_zero] at h3 h4
      refine hk _ H' ⟨some ⟨b, off, none⟩, c, by simp, by simpa using hcap, fun _ => ⟨b, off, cs', e', rfl, h1, by omega, ?_⟩⟩ ?_ ?_
      · intro i hi
        by_cases hil : i < l.length
        · rw [h3 _ (by omega), hcs i hil, List.getElem_append_left hil]
        · have := h4 (i - l.length) (by simp at hi ⊢; omega)
          rw [show off + l.length + (i - l.length) = off + i by omega] at this
          rw [this, List.getElem_append_right (by omega)]; simp
      · intro x o hx hne
        simp only [bk, if_neg hc0] at hne
        rw [h5 x (by rintro rfl; exact hne rfl)]; exact hx
      · intro x hx
        left; exact hx
  · rw [if_neg hcap]
    refine ⟨hb, hc c (by omega), ?_⟩
    simp only [hlf, hmf]
    intro c' hc1 hc2 r hr'
    refine hk _ _ ⟨some ⟨r, 0, none⟩, c', by simp, by simpa using hc1, fun _ => ⟨r, 0, _, e, rfl, Hp.put_same _ _ _, ?_, ?_⟩⟩ ?_ ?_
    · have : (Builtin.zeroCells #[z] (c' - (l.length + m.length))).size = c' - (l.length + m.length) := by simp [Builtin.zeroCells]
      simp [this]; omega
    · intro i hi
      rw [Nat.zero_add, Array.getElem?_append_left (by simpa using hi)]
      rw [← Array.getElem?_toList]
      simp only [Array.toList_append, ← List.map_append, List.getElem?_map]
      rw [List.getElem?_eq_getElem hi]; rfl
    · intro x o hx _
      rw [Hp.put_ne _ _ (by rintro rfl; rw [hr'] at hx; exact absurd hx (by simp))]; exact hx
    · intro x hx
      right
      simp only [bk] at hx
      split at hx
      · simp at hx
      · simp only [Option.some.injEq] at hx; subst hx; exact hr'
end
end Go.Proofs.Ytkehomlkgcfjnaa.HL
