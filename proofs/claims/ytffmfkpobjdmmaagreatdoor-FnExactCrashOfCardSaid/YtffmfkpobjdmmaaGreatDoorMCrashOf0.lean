/- Several texts in one. -/
import Derived.Test.YtffmfkpobjdmmaaGreatDoorHI
import Derived.Test.YtffmfkpobjdmmaaGreatDoorG0
/- Slices over a partial heap: what is read, what is owned, and what stays when something else is written. -/
namespace Go.Proofs.YtffmfkpobjdmmaaGreatDoor.HL
abbrev eI : Int → Value := .int .i64
abbrev eB : Bool → Value := .bool
/-- The pointer to a slice's cell, where its elements have one cell each. -/
def ptr (v : Value) (i : Int) : Value := match v with | .slice (some a) _ _ => .pointer (some (a.add (i.toNat * 1))) | _ => undef
/-- The block that a slice or a pointer may write. -/
def bk (v : Value) : Option Nat := match v with | .slice (some a) _ c => if c = 0 then none else some a.block | .pointer (some a) => some a.block | _ => none
/-- The element at an index. -/
def at_ {α : Type} (d : α) (l : List α) (i : Int) : α := l.getD i.toNat d

/-- A slice that reads so. -/
def Sl {α : Type} (enc : α → Value) (H : Hp) (v : Value) (l : List α) : Prop :=
  ∃ a c, v = .slice a l.length c ∧ l.length ≤ c ∧ ∀ i (h : i < l.length), ∃ ad, a = some ad ∧ H.cell? (ad.add i) = some (enc l[i])
/-- A slice whose block is known whole, and may be written. -/
def Own {α : Type} (enc : α → Value) (H : Hp) (v : Value) (l : List α) : Prop :=
  ∃ a c, v = .slice a l.length c ∧ l.length ≤ c ∧ (0 < c → ∃ b off cs e, a = some ⟨b, off, none⟩ ∧ H b = some (.cells cs e (0, 0)) ∧ off + c ≤ cs.size ∧ ∀ i (h : i < l.length), cs[off + i]? = some (enc l[i]))
/-- A slice whose block is not known in a heap. -/
def Nw (H : Hp) (v : Value) : Prop := ∀ b, bk v = some b → H b = none
def Apart (u v : Value) : Prop := ∀ b, bk u = some b → bk v ≠ some b
/-- All that is known stays, but for a slice's block. -/
def Off (v : Value) (H H' : Hp) : Prop := ∀ b o, H b = some o → bk v ≠ some b → H' b = some o

theorem add_none (b off i : Nat) : (⟨b, off, none⟩ : Addr).add i = ⟨b, off + i, none⟩ := by
  unfold Addr.add
  split
  · rename_i h; subst h; rfl
  · rfl
theorem Apart.symm {u v : Value} (h : Apart u v) : Apart v u := fun b hb hu => h b hu hb
theorem Nw.le {H H' : Hp} {v : Value} (h : Nw H' v) (hl : Le H H') : Nw H v := fun b hb => by
  cases ho : H b with
  | none => rfl
  | some o => have := hl b o ho; rw [h b hb] at this; exact absurd this (by simp)
theorem Off.le {H0 H H' : Hp} {v : Value} (h : Off v H H') (hl : Le H0 H) (hn : Nw H0 v) : Le H0 H' := fun b o hb =>
  h b o (hl b o hb) (fun e => by rw [hn b e] at hb; exact absurd hb (by simp))
theorem Off.of_le {H H' : Hp} {v : Value} (h : Le H H') : Off v H H' := fun b o hb _ => h b o hb
theorem Off.trans {A B C : Hp} {v : Value} (h : Off v A B) (h' : Off v B C) : Off v A C := fun b o hb hv => h' b o (h b o hb hv) hv

section
variable {α : Type} {enc : α → Value} {H H' : Hp} {u v : Value} {l : List α}
theorem Sl.le (h : Sl enc H v l) (hl : Le H H') : Sl enc H' v l := by
  obtain ⟨a, c, rfl, hc, hr⟩ := h
  exact ⟨a, c, rfl, hc, fun i hi => by obtain ⟨ad, e, hh⟩ := hr i hi; exact ⟨ad, e, hl.cell hh⟩⟩
theorem Sl.len (h : Sl enc H v l) : vLenSl v = some (.int .i64 l.length) := by
  obtain ⟨a, c, rfl, hc, hr⟩ := h; rfl
theorem Sl.ix (h : Sl enc H v l) {k : IntKind} {i : Int} (h0 : 0 ≤ i) (h1 : i < l.length) : vIx 1 v (.int k i) = some (ptr v i) := by
  obtain ⟨a, c, rfl, hc, hr⟩ := h
  obtain ⟨ad, rfl, hh⟩ := hr i.toNat (by omega)
  simp only [vIx, ptr]
  rw [if_pos ⟨h0, by simpa using h1⟩]
theorem Sl.ld (h : Sl enc H v l) (d : α) {i : Int} (h0 : 0 ≤ i) (h1 : i < l.length) : vLoad (ptr v i) H = some (enc (at_ d l i)) := by
  obtain ⟨a, c, rfl, hc, hr⟩ := h
  have hi : i.toNat < l.length := by omega
  obtain ⟨ad, rfl, hh⟩ := hr i.toNat hi
  simp only [vLoad, ptr, Nat.mul_one, hh, at_, List.getD_eq_getElem?_getD, List.getElem?_eq_getElem hi, Option.getD_some]
theorem Sl.nil (c : Nat) (a : Option Addr) : Sl enc H (.slice a 0 c) [] := ⟨a, c, rfl, by simp, fun i hi => absurd hi (by simp)⟩

theorem Own.len (h : Own enc H v l) : vLenSl v = some (.int .i64 l.length) := by
  obtain ⟨a, c, rfl, hc, hr⟩ := h; rfl
theorem Own.sl (h : Own enc H v l) : Sl enc H v l := by
  obtain ⟨a, c, rfl, hc, hr⟩ := h
  refine ⟨a, c, rfl, hc, fun i hi => ?_⟩
  obtain ⟨b, off, cs, e, rfl, hb, hs, hcs⟩ := hr (by omega)
  exact ⟨_, rfl, by simp only [Hp.cell?, add_none, hb, hcs i hi]; rfl⟩
theorem Own.off (h : Own enc H u l) (ho : Off v H H') (ha : Apart u v) : Own enc H' u l := by
  obtain ⟨a, c, rfl, hc, hr⟩ := h
  refine ⟨a, c, rfl, hc, fun h0 => ?_⟩
  obtain ⟨b, off, cs, e, rfl, hb, hs, hcs⟩ := hr h0
  refine ⟨b, off, cs, e, rfl, ho b _ hb (ha b ?_), hs, hcs⟩
  simp only [bk]
  rw [if_neg (by omega)]
theorem Own.le (h : Own enc H u l) (hl : Le H H') : Own enc H' u l := by
  obtain ⟨a, c, rfl, hc, hr⟩ := h
  refine ⟨a, c, rfl, hc, fun h0 => ?_⟩
  obtain ⟨b, off, cs, e, rfl, hb, hs, hcs⟩ := hr h0
  exact ⟨b, off, cs, e, rfl, hl b _ hb, hs, hcs⟩
theorem Own.known (h : Own enc H u l) : ∀ b, bk u = some b → ∃ o, H b = some o := by
  obtain ⟨a, c, rfl, hc, hr⟩ := h
  intro b hb
  cases a with
  | none => simp [bk] at hb
  | some ad =>
    simp only [bk] at hb
    by_cases h0 : c = 0
    · rw [if_pos h0] at hb; simp at hb
    · rw [if_neg h0] at hb
      obtain ⟨b', off, cs, e, he, hbb, _⟩ := hr (by omega)
      simp only [Option.some.injEq] at hb he
      subst he
      simp only at hb
      subst hb
      exact ⟨_, hbb⟩
theorem Own.apart (h : Own enc H u l) (hn : Nw H v) : Apart u v := fun b hb hv => by
  obtain ⟨o, ho⟩ := h.known b hb
  rw [hn b hv] at ho
  exact absurd ho (by simp)
theorem Apart.of_nw {H : Hp} {u v : Value} (hu : ∀ b, bk u = some b → ∃ o, H b = some o) (hn : Nw H v) : Apart u v := fun b hb hv => by
  obtain ⟨o, ho⟩ := hu b hb
  rw [hn b hv] at ho
  exact absurd ho (by simp)
theorem Own.nil_of (a : Option Addr) : Own enc H (.slice a 0 0) [] := ⟨a, 0, rfl, by simp, fun h0 => absurd h0 (by simp)⟩

/-- A write of one cell. -/
theorem Own.st (h : Own enc H v l) {x : α} {K : Hp → Prop} {i : Int} (h0 : 0 ≤ i) (h1 : i < l.length) (hx : oneCell (enc x) = true) (hz : (enc x).cells = #[enc x])
    (hk : ∀ H', Own enc H' v (l.set i.toNat x) → Off v H H' → K H') : st 1 (ptr v i) (enc x) H K := by
  obtain ⟨a, c, rfl, hc, hr⟩ := h
  obtain ⟨b, off, cs, e, rfl, hb, hs, hcs⟩ := hr (by omega)
  have hi : i.toNat < l.length := by omega
  simp only [HL.st, ptr, hz, List.toList_toArray, Nat.mul_one, List.size_toArray, List.length_singleton, true_and, stC]
  refine ⟨hx, ?_, ?_, ?_⟩
  · simp only [Hp.cell?, add_none, hb, hcs _ hi, Nat.add_zero]; rfl
  · simp only [Hp.frozen?, add_none, hb]; simp
  · refine hk _ ⟨_, c, by simp, by simpa using hc, fun _ => ⟨b, off, cs.setIfInBounds (off + i.toNat) (enc x), e, rfl, ?_, by simpa using hs, ?_⟩⟩ ?_
    · simp only [Hp.setCell, add_none, hb, Nat.add_zero, Hp.put_same]; rfl
    · intro j hj
      have hj' : j < l.length := by simpa using hj
      rw [Array.getElem?_setIfInBounds]
      by_cases e1 : off + i.toNat = off + j
      · have : i.toNat = j := by omega
        subst this
        rw [if_pos rfl, if_pos (by omega)]; simp
      · have : i.toNat ≠ j := by omega
        rw [if_neg e1, hcs j hj', List.getElem_set_ne this]
    · intro x' o ho hv
      simp only [bk, if_neg (by omega : ¬ c = 0)] at hv
      simp only [Hp.setCell, add_none, hb]
      rw [Hp.put_ne _ _ (by rintro rfl; exact hv rfl)]
      exact ho

theorem zrow_get (z : Value) (n i : Nat) (h : i < n) : (zrow #[z] n)[i]? = some z := by
  simp only [zrow, List.size_toArray, List.length_singleton, Nat.mod_one]
  simp [h]
theorem zrow_size (zs : Array Value) (n : Nat) : (zrow zs n).size = n := by simp [zrow]

/-- A new row. -/
theorem Own.mk_ {bytes : Nat} {z : α} {e : TypeId} {k k' : IntKind} {n c : Int} {K : Value → Hp → Prop} (h0 : 0 ≤ n) (h1 : n ≤ c) (h2 : c ≤ 281474976710656) (h3 : bytes * c ≤ 281474976710656)
    (hk : ∀ v H', Own enc H' v (List.replicate n.toNat z) → Nw H v → Le H H' → K v H') : mkS 1 bytes #[enc z] e (.int k n) (.int k' c) H K := by
  refine ⟨h0, h1, h2, h3, fun r hr => hk _ _ ⟨some ⟨r, 0, none⟩, c.toNat, by simp, by simp; omega, fun h4 => ⟨r, 0, _, e, rfl, Hp.put_same _ _ _, ?_, ?_⟩⟩ ?_ (Le.put _ hr)⟩
  · rw [Nat.mul_one, if_neg (by omega), zrow_size]; omega
  · intro i hi
    have : i < n.toNat := by simpa using hi
    rw [Nat.mul_one, if_neg (by omega), Nat.zero_add, zrow_get _ _ _ (by omega)]; simp
  · intro b hb
    simp only [bk] at hb
    split at hb
    · simp at hb
    · simp only [Option.some.injEq] at hb; subst hb; exact hr

theorem rd_cells (ad : Addr) : ∀ (n s : Nat) (l : List α), l.length = n → (∀ i (h : i < l.length), H.cell? (ad.add (s + i)) = some (enc l[i])) → rdCells H ad s n = some (l.map enc)
  | 0, s, l, hn, _ => by have : l = [] := List.length_eq_zero_iff.mp hn; subst this; rfl
  | n + 1, s, l, hn, h => by
    cases l with
    | nil => simp at hn
    | cons x r =>
      simp only [rdCells]
      have h0 := h 0 (by simp)
      simp only [Nat.add_zero, List.getElem_cons_zero] at h0
      rw [h0, rd_cells ad n (s + 1) r (by simpa using hn) (fun i hi => by
        have := h (i + 1) (by simpa using hi)
        rw [show s + 1 + i = s + (i + 1) by omega]
        simpa using this)]
      rfl
theorem Sl.firstC (h : Sl enc H v l) : firstC H 1 l.length v = some (l.map enc) := by
  obtain ⟨a, c, rfl, hc, hr⟩ := h
  cases l with
  | nil => cases a <;> rfl
  | cons x r =>
    obtain ⟨ad, rfl, _⟩ := hr 0 (by simp)
    simp only [HL.firstC, Nat.mul_one]
    exact rd_cells ad _ 0 _ rfl (fun i hi => by obtain ⟨ad', e, hh⟩ := hr i hi; cases e; simpa using hh)
theorem Sl.lenO (h : Sl enc H v l) : lenO v = some l.length := by
  obtain ⟨a, c, rfl, hc, hr⟩ := h; rfl

theorem stC_run {K : Hp → Prop} {b : Nat} {e : TypeId} : ∀ (m : List Value) (ad : Addr) (i : Nat) (cs : Array Value) (H : Hp), ad.block = b → ad.spot = none → H b = some (.cells cs e (0, 0)) → ad.off + i + m.length ≤ cs.size →
    (∀ x ∈ m, oneCell x = true) →
    (∀ H' cs', H' b = some (.cells cs' e (0, 0)) → cs'.size = cs.size → (∀ j, j < ad.off + i → cs'[j]? = cs[j]?) → (∀ j (h : j < m.length), cs'[ad.off + i + j]? = some m[j]) → (∀ x, x ≠ b → H' x = H x) → K H') → stC ad K m i H
  | [], ad, i, cs, H, hb, hsp, hH, hs, ho, hk => hk H cs hH rfl (fun _ _ => rfl) (fun j h => absurd h (by simp)) (fun _ _ => rfl)
  | x :: m, ad, i, cs, H, hb, hsp, hH, hs, ho, hk => by
    obtain ⟨abk, aoff, asp⟩ := ad
    simp only at hb hsp hs hk
    subst hb hsp
    simp only [List.length_cons] at hs
    refine ⟨ho x (by simp), ?_, ?_, ?_⟩
    · simp only [Hp.cell?, add_none, hH]
      rw [Array.getElem?_eq_getElem (by omega)]; rfl
    · simp only [Hp.frozen?, add_none, hH]; simp
    · refine stC_run (b := abk) (e := e) m _ (i + 1) (cs.setIfInBounds (aoff + i) x) _ rfl rfl ?_ (by simp; omega) (fun y hy => ho y (by simp [hy])) ?_
      · simp only [Hp.setCell, add_none, hH, Hp.put_same]; rfl
      · intro H' cs' h1 h2 h3 h4 h5
        refine hk H' cs' h1 (by simpa using h2) ?_ ?_ ?_
        · intro j hj
          rw [h3 j (by simp only; omega), Array.getElem?_setIfInBounds_ne (by omega)]
        · intro j hj
          cases j with
          | zero =>
            rw [Nat.add_zero, h3 _ (by simp only; omega), Array.getElem?_setIfInBounds_self_of_lt (by omega)]; rfl
          | succ j =>
            have := h4 j (by simpa using hj)
            simp only at this
            rw [show aoff + i + (j + 1) = aoff + (i + 1) + j by omega, this]; rfl
        · intro x' hx'
          rw [h5 x' hx']
          simp only [Hp.setCell, add_none, hH]
          rw [Hp.put_ne _ _ hx']

/-- An append. -/
theorem Own.apd {bytes : Nat} {z : Value} {e : TypeId} {w : Value} {m : List α} {K : Value → Hp → Prop} (h : Own enc H v l) (hm : Sl enc H w m) (ho : ∀ x, oneCell (enc x) = true)
    (hb : l.length + m.length < 9223372036854775808) (hc : ∀ c, l.length + m.length > c → Builtin.nextslicecap (l.length + m.length) c * bytes ≤ 281474976710656)
    (hk : ∀ v' H', Own enc H' v' (l ++ m) → Off v H H' → (∀ b, bk v' = some b → bk v = some b ∨ H b = none) → K v' H') : apd 1 bytes #[z] e v w H K := by
  have hmf := hm.firstC
  have hml := hm.lenO
  have hlf := h.sl.firstC
  obtain ⟨a, c, rfl, hlc, hr⟩ := h
  simp only [HL.apd, hml]
  by_cases hcap : l.length + m.length ≤ c
  · rw [if_pos hcap]
    simp only [hmf]
    by_cases hc0 : c = 0
    · have hl : l = [] := List.length_eq_zero_iff.mp (by omega)
      have hm' : m = [] := List.length_eq_zero_iff.mp (by omega)
      subst hl hm' hc0
      have : K (.slice a (([] : List α).length + ([] : List α).length) 0) H := hk _ H ⟨a, 0, rfl, by simp, fun h0 => absurd h0 (by simp)⟩ (fun b o hb _ => hb) (fun b hb => by cases a <;> simp [bk] at hb)
      cases a with
      | none => exact this
      | some ad => exact this
    · obtain ⟨b, off, cs, e', rfl, hbb, hs, hcs⟩ := hr (by omega)
      simp only [add_none, Nat.mul_one]
      refine stC_run (b := b) (e := e') (m.map enc) _ 0 cs H rfl rfl hbb (by simp; omega) (by simp; intro x _; exact ho x) ?_
      intro H' cs' h1 h2 h3 h4 h5
      simp only [Nat.add_zero] at h3 h4
      refine hk _ H' ⟨some ⟨b, off, none⟩, c, by simp, by simpa using hcap, fun _ => ⟨b, off, cs', e', rfl, h1, by omega, ?_⟩⟩ ?_ ?_
      · intro i hi
        by_cases hil : i < l.length
        · rw [h3 _ (by omega), hcs i hil, List.getElem_append_left hil]
        · have := h4 (i - l.length) (by simp at hi ⊢; omega)
          rw [show off + l.length + (i - l.length) = off + i by omega] at this
          rw [this, List.getElem_append_right (by omega)]; simp
      · intro x o hx hne
        simp only [bk, if_neg hc0] at hne
        rw [h5 x (by rintro rfl; exact hne rfl)]; exact hx
      · intro x hx
        left; exact hx
  · rw [if_neg hcap]
    refine ⟨hb, hc c (by omega), ?_⟩
    simp only [hlf, hmf]
    intro c' hc1 hc2 r hr'
    refine hk _ _ ⟨some ⟨r, 0, none⟩, c', by simp, by simpa using hc1, fun _ => ⟨r, 0, _, e, rfl, Hp.put_same _ _ _, ?_, ?_⟩⟩ ?_ ?_
    · have : (Builtin.zeroCells #[z] (c' - (l.length + m.length))).size = c' - (l.length + m.length) := by simp [Builtin.zeroCells]
      simp [this]; omega
    · intro i hi
      rw [Nat.zero_add, Array.getElem?_append_left (by simpa using hi)]
      rw [← Array.getElem?_toList]
      simp only [Array.toList_append, ← List.map_append, List.getElem?_map]
      rw [List.getElem?_eq_getElem hi]; rfl
    · intro x o hx _
      rw [Hp.put_ne _ _ (by rintro rfl; rw [hr'] at hx; exact absurd hx (by simp))]; exact hx
    · intro x hx
      right
      simp only [bk] at hx
      split at hx
      · simp at hx
      · simp only [Option.some.injEq] at hx; subst hx; exact hr'
end
end Go.Proofs.YtffmfkpobjdmmaaGreatDoor.HL
/- Values and loops over a partial heap: the rules that a proof of a function's text uses. -/
namespace Go.Proofs.YtffmfkpobjdmmaaGreatDoor.HL
theorem cnd_i {b : Bool} {A B : Prop} (h1 : b = true → A) (h2 : b = false → B) : cnd (.bool b) A B := by
  cases b
  · exact h2 rfl
  · exact h1 rfl
theorem cnd_d {p : Prop} [Decidable p] {A B : Prop} (h1 : p → A) (h2 : ¬ p → B) : cnd (.bool (decide p)) A B := by
  by_cases h : p
  · rw [decide_eq_true h]; exact h1 h
  · rw [decide_eq_false h]; exact h2 h
theorem gop_tt (F : (Value → Hp → Prop) → Prop) (H : Hp) (K : Value → Hp → Prop) : gop (.bool true) true F H K = F K := rfl
theorem gop_ft (F : (Value → Hp → Prop) → Prop) (H : Hp) (K : Value → Hp → Prop) : gop (.bool false) true F H K = K undef H := rfl
theorem vPick_t (a b : Value) : vPick (.bool true) a b = some a := rfl
theorem vPick_f (a b : Value) : vPick (.bool false) a b = some b := rfl
theorem vExt_20 (a b : Value) : vExt (.tuple #[a, b]) 0 = some a := rfl
theorem vExt_21 (a b : Value) : vExt (.tuple #[a, b]) 1 = some b := rfl
theorem vExt_30 (a b c : Value) : vExt (.tuple #[a, b, c]) 0 = some a := rfl
theorem vExt_31 (a b c : Value) : vExt (.tuple #[a, b, c]) 1 = some b := rfl
theorem vExt_32 (a b c : Value) : vExt (.tuple #[a, b, c]) 2 = some c := rfl
theorem vExt_40 (a b c d : Value) : vExt (.tuple #[a, b, c, d]) 0 = some a := rfl
theorem vExt_41 (a b c d : Value) : vExt (.tuple #[a, b, c, d]) 1 = some b := rfl
theorem vExt_42 (a b c d : Value) : vExt (.tuple #[a, b, c, d]) 2 = some c := rfl
theorem vExt_43 (a b c d : Value) : vExt (.tuple #[a, b, c, d]) 3 = some d := rfl
theorem vUn_not (b : Bool) : vUn .not (.bool b) = some (.bool !b) := rfl
theorem vInt_lss (k : IntKind) (a b : Int) : vInt .lss (.int k a) (.int k b) = some (.bool (decide (a < b))) := by simp [vInt]
theorem vInt_leq (k : IntKind) (a b : Int) : vInt .leq (.int k a) (.int k b) = some (.bool (decide (a ≤ b))) := by simp [vInt]
theorem vInt_gtr (k : IntKind) (a b : Int) : vInt .gtr (.int k a) (.int k b) = some (.bool (decide (b < a))) := by simp [vInt]
theorem vInt_geq (k : IntKind) (a b : Int) : vInt .geq (.int k a) (.int k b) = some (.bool (decide (b ≤ a))) := by simp [vInt]
theorem vInt_eql (k : IntKind) (a b : Int) : vInt .eql (.int k a) (.int k b) = some (.bool (decide (a = b))) := by
  simp only [vInt, if_true]; rfl
theorem vInt_neq (k : IntKind) (a b : Int) : vInt .neq (.int k a) (.int k b) = some (.bool (decide (a ≠ b))) := by
  simp only [vInt, if_true, bne, ne_eq, decide_not]; rfl
theorem wrap64 {x : Int} (h : -9223372036854775808 ≤ x) (h' : x < 9223372036854775808) : IntKind.i64.wrap x = x := by
  unfold IntKind.wrap; simp [IntKind.signed, IntKind.bits]; omega
theorem vInt_add {a b : Int} (h : -9223372036854775808 ≤ a + b) (h' : a + b < 9223372036854775808) : vInt .add (.int .i64 a) (.int .i64 b) = some (.int .i64 (a + b)) := by
  simp only [vInt, if_true, wrap64 h h']
theorem vInt_sub {a b : Int} (h : -9223372036854775808 ≤ a - b) (h' : a - b < 9223372036854775808) : vInt .sub (.int .i64 a) (.int .i64 b) = some (.int .i64 (a - b)) := by
  simp only [vInt, if_true, wrap64 h h']
theorem vInt_mul {a b : Int} (h : -9223372036854775808 ≤ a * b) (h' : a * b < 9223372036854775808) : vInt .mul (.int .i64 a) (.int .i64 b) = some (.int .i64 (a * b)) := by
  simp only [vInt, if_true, wrap64 h h']
theorem vInt_rem {a b : Int} (h : b ≠ 0) : vInt .rem (.int .i64 a) (.int .i64 b) = some (.int .i64 (a.tmod b)) := by
  simp only [vInt]; rw [if_pos ⟨trivial, h⟩]
theorem vInt_quo {a b : Int} (h : 0 < b) (h1 : -9223372036854775808 ≤ a) (h2 : a < 9223372036854775808) : vInt .quo (.int .i64 a) (.int .i64 b) = some (.int .i64 (a.tdiv b)) := by
  have e : IntKind.i64.wrap (a.tdiv b) = a.tdiv b := by
    have h3 := Int.natAbs_tdiv_le_natAbs a b
    by_cases h0 : 0 ≤ a
    · have := Int.tdiv_nonneg h0 (Int.le_of_lt h)
      exact wrap64 (by omega) (by omega)
    · have h4 := Int.tdiv_nonneg (a := -a) (by omega) (Int.le_of_lt h)
      rw [Int.neg_tdiv] at h4
      exact wrap64 (by omega) (by omega)
  simp only [vInt]; rw [if_pos ⟨trivial, by omega⟩, e]
/-- What is reckoned at once: the rules of straight code. -/
theorem EV : (∀ (a : Value) (K : Value → Prop), ob (some a) K = K a) ∧ (∀ F H K, gop (.bool true) true F H K = F K) ∧ (∀ F H K, gop (.bool false) true F H K = K undef H) ∧
    (∀ F H K, gop (.bool true) false F H K = K undef H) ∧ (∀ F H K, gop (.bool false) false F H K = F K) ∧ (∀ a b, vPick (.bool true) a b = some a) ∧ (∀ a b, vPick (.bool false) a b = some b) ∧
    (∀ b, vUn .not (.bool b) = some (.bool !b)) ∧ ((!true) = false) ∧ ((!false) = true) ∧ (∀ A B, cnd (.bool true) A B = A) ∧ (∀ A B, cnd (.bool false) A B = B) ∧
    (∀ a b, vBool .eql (.bool a) (.bool b) = some (.bool (a == b))) ∧ (∀ a b, vBool .neq (.bool a) (.bool b) = some (.bool (!(a == b)))) ∧ (∀ b : Bool, (b == b) = true) ∧
    (∀ k a b, vInt .neq (.int k a) (.int k b) = some (.bool (decide (a ≠ b)))) ∧ (∀ k a b, vInt .lss (.int k a) (.int k b) = some (.bool (decide (a < b)))) ∧ (∀ k a b, vInt .gtr (.int k a) (.int k b) = some (.bool (decide (b < a)))) ∧
    (∀ k a b, vInt .leq (.int k a) (.int k b) = some (.bool (decide (a ≤ b)))) ∧ (∀ k a b, vInt .geq (.int k a) (.int k b) = some (.bool (decide (b ≤ a)))) ∧ (∀ k a b, vInt .eql (.int k a) (.int k b) = some (.bool (decide (a = b)))) ∧
    (∀ a : Int, decide (a ≠ a) = false) ∧ (∀ a : Int, decide (a = a) = true) ∧ (decide False = false) ∧ (decide True = true) ∧
    (∀ a b, vExt (.tuple #[a, b]) 0 = some a) ∧ (∀ a b, vExt (.tuple #[a, b]) 1 = some b) ∧ (∀ a b c, vExt (.tuple #[a, b, c]) 0 = some a) ∧ (∀ a b c, vExt (.tuple #[a, b, c]) 1 = some b) ∧ (∀ a b c, vExt (.tuple #[a, b, c]) 2 = some c) ∧
    (∀ a b c d, vExt (.tuple #[a, b, c, d]) 0 = some a) ∧ (∀ a b c d, vExt (.tuple #[a, b, c, d]) 1 = some b) ∧ (∀ a b c d, vExt (.tuple #[a, b, c, d]) 2 = some c) ∧ (∀ a b c d, vExt (.tuple #[a, b, c, d]) 3 = some d) :=
  ⟨fun _ _ => rfl, fun _ _ _ => rfl, fun _ _ _ => rfl, fun _ _ _ => rfl, fun _ _ _ => rfl, fun _ _ => rfl, fun _ _ => rfl, fun _ => rfl, rfl, rfl, fun _ _ => rfl, fun _ _ => rfl,
    fun _ _ => rfl, fun _ _ => rfl, fun b => by simp, fun _ _ _ => vInt_neq _ _ _, fun _ _ _ => vInt_lss _ _ _, fun _ _ _ => vInt_gtr _ _ _, fun _ _ _ => vInt_leq _ _ _, fun _ _ _ => vInt_geq _ _ _, fun _ _ _ => vInt_eql _ _ _,
    fun a => by simp, fun a => by simp, by simp, by simp, fun _ _ => rfl, fun _ _ => rfl, fun _ _ _ => rfl, fun _ _ _ => rfl, fun _ _ _ => rfl, fun _ _ _ _ => rfl, fun _ _ _ _ => rfl, fun _ _ _ _ => rfl, fun _ _ _ _ => rfl⟩

theorem ob_i {α : Type} {x : Option α} {a : α} {K : α → Prop} (h : x = some a) (hk : K a) : ob x K := by rw [h]; exact hk
theorem cnd_t1 {A B : Prop} (h : A) : cnd (.bool true) A B := h
theorem cnd_f1 {A B : Prop} (h : B) : cnd (.bool false) A B := h
theorem gop_rt {F : (Value → Hp → Prop) → Prop} {H : Hp} {K : Value → Hp → Prop} (h : F K) : gop (.bool true) true F H K := h
theorem gop_rf {F : (Value → Hp → Prop) → Prop} {H : Hp} {K : Value → Hp → Prop} (h : F K) : gop (.bool false) false F H K := h
theorem gop_st {F : (Value → Hp → Prop) → Prop} {H : Hp} {K : Value → Hp → Prop} (h : K undef H) : gop (.bool true) false F H K := h
theorem gop_sf {F : (Value → Hp → Prop) → Prop} {H : Hp} {K : Value → Hp → Prop} (h : K undef H) : gop (.bool false) true F H K := h
theorem vBool_neq_same (b : Bool) : vBool .neq (.bool b) (.bool b) = some (.bool false) := by simp [vBool]
theorem vInt_neq_same (k : IntKind) (a : Int) : vInt .neq (.int k a) (.int k a) = some (.bool false) := by simp [vInt_neq]
theorem vInt_lss_t {k : IntKind} {a b : Int} (h : a < b) : vInt .lss (.int k a) (.int k b) = some (.bool true) := by simp [vInt_lss, h]
theorem vInt_lss_f {k : IntKind} {a b : Int} (h : ¬ a < b) : vInt .lss (.int k a) (.int k b) = some (.bool false) := by simp only [vInt_lss, h, decide_false]
theorem Own.one {α : Type} {enc : α → Value} {H : Hp} {v : Value} {l : List α} (h : Own enc H v l) : oneCell v = true := by
  obtain ⟨a, c, rfl, _⟩ := h; rfl
theorem Own.cells {α : Type} {enc : α → Value} {H : Hp} {v : Value} {l : List α} (h : Own enc H v l) : v.cells = #[v] := by
  obtain ⟨a, c, rfl, _⟩ := h; rfl
theorem Sl.one {α : Type} {enc : α → Value} {H : Hp} {v : Value} {l : List α} (h : Sl enc H v l) : oneCell v = true := by
  obtain ⟨a, c, rfl, _⟩ := h; rfl
theorem Sl.cells {α : Type} {enc : α → Value} {H : Hp} {v : Value} {l : List α} (h : Sl enc H v l) : v.cells = #[v] := by
  obtain ⟨a, c, rfl, _⟩ := h; rfl

/-- A loop's next round. -/
theorem nxt {I : Nat → S → Hp → Prop} {Q : Exit → S → Hp → Prop} {σ : S} {H : Hp} {n : Nat} (m : Nat) (hm : m < n) (h : I m σ H) : thenQ (fun σ' H' => ∃ m, m < n ∧ I m σ' H') Q .normal σ H := ⟨m, hm, h⟩
theorem retK {K : Value → Hp → Prop} {v v' : Value} {H : Hp} (e : v = v') (h : K v' H) : K v H := e ▸ h

/-- Several ways that meet: what holds where they meet. -/
theorem jn_i {K : S → Hp → Prop} {F : (S → Hp → Prop) → Prop} (P : S → Hp → Prop) (h : ∀ σ H, P σ H → K σ H) (hf : ∀ J : S → Hp → Prop, (∀ σ H, P σ H → J σ H) → F J) : jn K F := hf K h

theorem kF {p : Prop} [Decidable p] {K : Value → Hp → Prop} {H : Hp} (hk : K (.bool (decide p)) H) (h : ¬ p) : K (.bool false) H := by rw [decide_eq_false h] at hk; exact hk
theorem kT {p : Prop} [Decidable p] {K : Value → Hp → Prop} {H : Hp} (hk : K (.bool (decide p)) H) (h : p) : K (.bool true) H := by rw [decide_eq_true h] at hk; exact hk
theorem kQ {p q : Prop} [Decidable p] [Decidable q] {K : Value → Hp → Prop} {H : Hp} (hk : K (.bool (decide p)) H) (h : p ↔ q) : K (.bool (decide q)) H := by rw [decide_eq_decide.mpr h] at hk; exact hk

/-! ### copies -/
theorem growBy_le (n : Nat) : ∀ (r c : Nat), Builtin.growBy n r c ≤ max c (n + (n + 768) / 4)
  | 0, c => by simp only [Builtin.growBy]; omega
  | r + 1, c => by
    simp only [Builtin.growBy]
    split
    · omega
    · have := growBy_le n r (c + (c + 768) / 4)
      omega
theorem nsc_le {n c : Nat} (h : n > c) : Builtin.nextslicecap n c ≤ 2 * n + 1024 := by
  unfold Builtin.nextslicecap
  split
  · omega
  · split
    · omega
    · have := growBy_le n 4 c; omega
theorem bS_nil {α : Type} {enc : α → Value} {z : Value} {sz : Nat} {e : TypeId} {H : Hp} {K : Value → Hp → Prop} (hk : ∀ v H', Own enc H' v [] → Nw H v → bk v = none → Le H H' → K v H') : bS sz 0 #[z] e [] H K := by
  refine ⟨by simp, ?_⟩
  rw [if_pos (by simp)]
  show match some (#[] : Array Value) with
    | some cells => ∀ r, H r = none → K (.slice (some ⟨r, 0, none⟩) 0 0) (H.put r (.cells cells e))
    | none => False
  intro r hr
  refine hk _ _ ⟨some ⟨r, 0, none⟩, 0, rfl, by simp, fun h0 => absurd h0 (by simp)⟩ ?_ rfl (Le.put _ hr)
  intro b hb
  simp [bk] at hb
/-- An append to an empty slice of its own: a copy. -/
theorem apd_nil {α : Type} {enc : α → Value} {z : Value} {b : Nat} {e : TypeId} {a v1 : Value} {l : List α} {H : Hp} {K : Value → Hp → Prop} (o1 : Own enc H v1 []) (k1 : bk v1 = none) (ha : Sl enc H a l) (ho : ∀ x, oneCell (enc x) = true) (hb : b ≤ 64) (hl : l.length ≤ 68719476736)
    (hk : ∀ v H', Own enc H' v l → Nw H v → Le H H' → K v H') : apd 1 b #[z] e v1 a H K := by
  refine o1.apd ha ho (by simp; omega) (fun c hc => ?_) (fun v2 H2 o2 off2 hbk => ?_)
  · have := nsc_le hc
    simp only [List.length_nil, Nat.zero_add] at this ⊢
    exact Nat.le_trans (Nat.mul_le_mul this hb) (by omega)
  · rw [List.nil_append] at o2
    refine hk v2 H2 o2 (fun x hx => ?_) (fun x o hx => off2 x o hx (by rw [k1]; simp))
    rcases hbk x hx with h | h
    · rw [k1] at h; simp at h
    · exact h
theorem Own.isSl {α : Type} {enc : α → Value} {H : Hp} {v : Value} {l : List α} (h : Own enc H v l) : ∃ a n c, v = .slice a n c := by
  obtain ⟨a, c, h, _⟩ := h; exact ⟨_, _, _, h⟩
theorem Sl.isSl {α : Type} {enc : α → Value} {H : Hp} {v : Value} {l : List α} (h : Sl enc H v l) : ∃ a n c, v = .slice a n c := by
  obtain ⟨a, c, h, _⟩ := h; exact ⟨_, _, _, h⟩
/-- A copy of a slice: an append to an empty one. -/
theorem clone_i {α : Type} {enc : α → Value} {z z' : Value} {sz b : Nat} {e e' : TypeId} {a : Value} {l : List α} {H : Hp} {K : Value → Value → Hp → Prop} (ha : Sl enc H a l) (ho : ∀ x, oneCell (enc x) = true) (hb : b ≤ 64) (hl : l.length ≤ 68719476736)
    (hk : ∀ v1 v H', Own enc H' v l → Nw H v → Le H H' → K v1 v H') : bS sz 0 #[z] e [] H (fun v1 H1 => apd 1 b #[z'] e' v1 a H1 (K v1)) := by
  refine bS_nil (enc := enc) (fun v1 H1 o1 n1 k1 le1 => ?_)
  refine o1.apd (ha.le le1) ho (by simp; omega) (fun c hc => ?_) (fun v2 H2 o2 off2 hbk => ?_)
  · have := nsc_le hc
    simp only [List.length_nil, Nat.zero_add] at this ⊢
    exact Nat.le_trans (Nat.mul_le_mul this hb) (by omega)
  · rw [List.nil_append] at o2
    have hle : Le H1 H2 := fun x o hx => off2 x o hx (by rw [k1]; simp)
    refine hk v1 v2 H2 o2 (fun x hx => ?_) (le1.trans hle)
    rcases hbk x hx with h | h
    · rw [k1] at h; simp at h
    · cases ho : H x with
      | none => rfl
      | some o => rw [le1 x o ho] at h; simp at h

/-! ### lists by index -/
theorem at_eq {α : Type} (d : α) (l : List α) {i : Nat} (h : i < l.length) : at_ d l (i : Int) = l[i] := by
  unfold at_; rw [Int.toNat_natCast, List.getD_eq_getElem?_getD, List.getElem?_eq_getElem h]; rfl
theorem take_at {α : Type} (d : α) (l : List α) {i : Nat} (h : i < l.length) : l.take (i + 1) = l.take i ++ [at_ d l (i : Int)] := by
  rw [at_eq d l h, List.take_append_getElem h]
theorem at_mem {α : Type} (d : α) (l : List α) {i : Int} (h0 : 0 ≤ i) (h : i < l.length) : at_ d l i ∈ l := by
  have hn : i.toNat < l.length := by omega
  unfold at_; rw [List.getD_eq_getElem?_getD, List.getElem?_eq_getElem hn]; exact List.getElem_mem hn
end Go.Proofs.YtffmfkpobjdmmaaGreatDoor.HL
/- Functions' texts over a partial heap. -/
namespace Go.Proofs.YtffmfkpobjdmmaaGreatDoor
open HL
set_option linter.unusedVariables false
set_option maxRecDepth 100000
set_option maxHeartbeats 4000000
/-! loop.example/g01381/laws.szInt64S: function 23 -/
def F.laws_szInt64S (a0 a1 : Value) (H : Hp) (K : Value → Hp → Prop) : Prop :=
  ob (vLenSl a0) fun v7x1 =>
  ob (vInt .sub a1 v7x1) fun v8x2 =>
  ob (vInt .lss v8x2 (.int .i64 0)) fun v10x3 =>
  cnd v10x3
    (K (.int .i64 (-1)) H)
    (K v8x2 H)
def O.laws_szInt64S : Nat → Nat × List Nat := fun i => (0, [])
theorem R.laws_szInt64S {a0 a1 : Value} {H : Hp} {K : Value → Hp → Prop} (h : F.laws_szInt64S a0 a1 H K) : HT prg I.laws_szInt64S [a0, a1].toArray H K :=
  HT_of_fev O.laws_szInt64S mixed Tryz.func23 (by kernel_rfl) (Eq.mpr (by kernel_rfl : fev prg O.laws_szInt64S Tryz.f23 [a0, a1] H K = F.laws_szInt64S a0 a1 H K) h)

/-! loop.example/g01381/laws.szLife: function 5 -/
def F.laws_szLife (a0 a1 : Value) (H : Hp) (K : Value → Hp → Prop) : Prop :=
  nw (a0 : Value).cells 24 H fun v2x1 H2 =>
  ob (vFa 0 v2x1) fun v5x3 =>
  ob (vLoad v5x3 H2) fun v6x4 =>
  HT prg I.laws_szInt64S [v6x4, a1].toArray H2 fun v8x5 H6 =>
  ob (vInt .lss v8x5 (.int .i64 0)) fun v10x7 =>
  cnd v10x7
    (K (.int .i64 (-1)) H6)
    (ob (vFa 1 v2x1) fun v11x8 =>
  ob (vLoad v11x8 H6) fun v12x9 =>
  HT prg I.laws_szInt64S [v12x9, v8x5].toArray H6 fun v14x10 H11 =>
  ob (vInt .lss v14x10 (.int .i64 0)) fun v16x12 =>
  cnd v16x12
    (K (.int .i64 (-1)) H11)
    (K v14x10 H11))
def O.laws_szLife : Nat → Nat × List Nat := fun i => (0, [])
theorem R.laws_szLife {a0 a1 : Value} {H : Hp} {K : Value → Hp → Prop} (h : F.laws_szLife a0 a1 H K) : HT prg I.laws_szLife [a0, a1].toArray H K :=
  HT_of_fev O.laws_szLife mixed Tryz.func5 (by kernel_rfl) (Eq.mpr (by kernel_rfl : fev prg O.laws_szLife Tryz.f5 [a0, a1] H K = F.laws_szLife a0 a1 H K) h)

/-! loop.example/g01381/spec.l00In: function 32 -/
def F.spec_l00In (a0 a1 a2 : Value) (H : Hp) (K : Value → Hp → Prop) : Prop :=
  ob (vInt .geq a0 a1) fun v9x1 =>
  gop v9x1 true (fun K2 => K2 a0 H) H fun v11x3 H4 =>
  gop v9x1 true (fun K5 => K5 a2 H4) H4 fun v12x6 H7 =>
  gop v9x1 true (fun K8 => ob (vInt .leq v11x3 v12x6) fun u => K8 u H7) H7 fun v13x9 H10 =>
  ob (vPick v9x1 v13x9 (.bool false)) fun v14x11 =>
  K v14x11 H10
def O.spec_l00In : Nat → Nat × List Nat := fun i => (0, [])
theorem R.spec_l00In {a0 a1 a2 : Value} {H : Hp} {K : Value → Hp → Prop} (h : F.spec_l00In a0 a1 a2 H K) : HT prg I.spec_l00In [a0, a1, a2].toArray H K :=
  HT_of_fev O.spec_l00In mixed Tryz.func32 (by kernel_rfl) (Eq.mpr (by kernel_rfl : fev prg O.spec_l00In Tryz.f32 [a0, a1, a2] H K = F.spec_l00In a0 a1 a2 H K) h)

/-! loop.example/g01381/spec.l04Own: function 54 -/
def F.spec_l04Own (a0 : Value) (H : Hp) (K : Value → Hp → Prop) : Prop :=
  nw #[(.int .i64 0), (.int .i64 0), (.slice none 0 0)] 44 H fun v2x1 H2 =>
  ob (vNilC a0) fun v4x3 =>
  ob (vFa 0 v4x3) fun v5x4 =>
  ob (vLoad v5x4 H2) fun v6x5 =>
  ob (vNilC a0) fun v8x6 =>
  ob (vFa 1 v8x6) fun v9x7 =>
  ob (vLoad v9x7 H2) fun v10x8 =>
  ob (vNilC a0) fun v13x9 =>
  ob (vFa 2 v13x9) fun v14x10 =>
  ob (vLoad v14x10 H2) fun v15x11 =>
  bS 1 0 #[(.int .i64 0)] 2 [] H2 fun v11x12 H13 =>
  apd 1 8 #[(.int .i64 0)] 2 v11x12 v15x11 H13 fun v16x14 H15 =>
  Le H13 H15 ∧ (ob (vBuild [(0, 1), (1, 1), (2, 1)] (.agg #[(.int .i64 0), (.int .i64 0), (.slice none 0 0)]) [(0, v6x5), (1, v10x8), (2, v16x14)]) fun v17x16 =>
  st 3 v2x1 v17x16 H15 fun H17 =>
  ob (vLoadN 3 v2x1 H17) fun u18 => K u18 H17)
def O.spec_l04Own : Nat → Nat × List Nat := fun i => bif Nat.beq i 1 then (1, [0, 1, 2, 3, 4, 5, 6, 7, 9, 10, 11, 12, 8, 13, 14, 15]) else (0, [])
theorem R.spec_l04Own {a0 : Value} {H : Hp} {K : Value → Hp → Prop} (h : F.spec_l04Own a0 H K) : HT prg I.spec_l04Own [a0].toArray H K :=
  HT_of_fev O.spec_l04Own mixed Tryz.func54 (by kernel_rfl) (Eq.mpr (by kernel_rfl : fev prg O.spec_l04Own Tryz.f54 [a0] H K = F.spec_l04Own a0 H K) h)

/-! loop.example/g01381/spec.l04New: function 52 -/
def F.spec_l04New (a0 a1 : Value) (H : Hp) (K : Value → Hp → Prop) : Prop :=
  nw #[(.int .i64 0), (.int .i64 0), (.slice none 0 0)] 44 H fun v4x1 H2 =>
  ob (vInt .mul a0 a1) fun v9x3 =>
  mkS 1 8 #[(.int .i64 0)] 2 v9x3 v9x3 H2 fun v10x4 H5 =>
  ob (vBuild [(0, 1), (1, 1), (2, 1)] (.agg #[(.int .i64 0), (.int .i64 0), (.slice none 0 0)]) [(0, a0), (1, a1), (2, v10x4)]) fun v11x6 =>
  st 3 v4x1 v11x6 H5 fun H7 =>
  ob (vLoadN 3 v4x1 H7) fun u8 => K u8 H7
def O.spec_l04New : Nat → Nat × List Nat := fun i => (0, [])
theorem R.spec_l04New {a0 a1 : Value} {H : Hp} {K : Value → Hp → Prop} (h : F.spec_l04New a0 a1 H K) : HT prg I.spec_l04New [a0, a1].toArray H K :=
  HT_of_fev O.spec_l04New mixed Tryz.func52 (by kernel_rfl) (Eq.mpr (by kernel_rfl : fev prg O.spec_l04New Tryz.f52 [a0, a1] H K = F.spec_l04New a0 a1 H K) h)

/-! loop.example/g01381/spec.l04Round: function 121 -/
def F.spec_l04Round (a0 a1 a2 : Value) (H : Hp) (K : Value → Hp → Prop) : Prop :=
  ob (vNilC a0) fun v11x1 =>
  ob (vFa 0 v11x1) fun v12x2 =>
  ob (vLoad v12x2 H) fun v13x3 =>
  ob (vInt .rem a1 v13x3) fun v14x4 =>
  ob (vNilC a0) fun v16x5 =>
  ob (vFa 0 v16x5) fun v17x6 =>
  ob (vLoad v17x6 H) fun v18x7 =>
  ob (vInt .add v14x4 v18x7) fun v19x8 =>
  ob (vNilC a0) fun v21x9 =>
  ob (vFa 0 v21x9) fun v22x10 =>
  ob (vLoad v22x10 H) fun v23x11 =>
  ob (vInt .rem v19x8 v23x11) fun v24x12 =>
  ob (vNilC a0) fun v27x13 =>
  ob (vFa 1 v27x13) fun v28x14 =>
  ob (vLoad v28x14 H) fun v29x15 =>
  ob (vInt .rem a2 v29x15) fun v30x16 =>
  ob (vNilC a0) fun v32x17 =>
  ob (vFa 1 v32x17) fun v33x18 =>
  ob (vLoad v33x18 H) fun v34x19 =>
  ob (vInt .add v30x16 v34x19) fun v35x20 =>
  ob (vNilC a0) fun v37x21 =>
  ob (vFa 1 v37x21) fun v38x22 =>
  ob (vLoad v38x22 H) fun v39x23 =>
  ob (vInt .rem v35x20 v39x23) fun v40x24 =>
  ob (vNilC a0) fun v43x25 =>
  ob (vFa 1 v43x25) fun v44x26 =>
  ob (vLoad v44x26 H) fun v45x27 =>
  ob (vInt .mul v24x12 v45x27) fun v46x28 =>
  ob (vInt .add v46x28 v40x24) fun v48x29 =>
  K v48x29 H
def O.spec_l04Round : Nat → Nat × List Nat := fun i => bif Nat.beq i 1 then (0, [0, 1, 2, 3, 4, 5, 6, 7, 8, 9, 10, 11, 12, 13, 14, 15, 16]) else bif Nat.beq i 2 then (0, [0, 1, 2, 3, 4, 5, 6, 7, 8, 9, 10, 11, 12, 13, 14, 15, 16]) else (0, [])
theorem R.spec_l04Round {a0 a1 a2 : Value} {H : Hp} {K : Value → Hp → Prop} (h : F.spec_l04Round a0 a1 a2 H K) : HT prg I.spec_l04Round [a0, a1, a2].toArray H K :=
  HT_of_fev O.spec_l04Round mixed Tryz.func121 (by kernel_rfl) (Eq.mpr (by kernel_rfl : fev prg O.spec_l04Round Tryz.f121 [a0, a1, a2] H K = F.spec_l04Round a0 a1 a2 H K) h)

/-! loop.example/g01381/spec.l04Around: function 86 -/
def F.spec_l04Around (a0 a1 a2 a3 : Value) (H : Hp) (K : Value → Hp → Prop) : Prop :=
  jn (fun σ1 H1 =>
    K (σ1 9) H1) fun J1 =>
  ob (vInt .sub a1 (.int .i64 1)) fun v13x2 =>
  lpE (fun Q3 σ3 H3 =>
    ob (vInt .add (σ3 1) (.int .i64 1)) fun v16x4 =>
    ob (vInt .leq (σ3 10) v16x4) fun v17x5 =>
    cnd v17x5
      (jn (fun σ6 H6 =>
      ob (vInt .add (σ6 10) (.int .i64 1)) fun v19x7 =>
      Q3 .normal (up (up (up σ6 18 (σ6 10)) 19 v19x7) 10 v19x7) H6) fun J6 =>
    ob (vInt .sub (σ3 2) (.int .i64 1)) fun v21x8 =>
    lpE (fun Q9 σ9 H9 =>
      ob (vInt .add (σ9 2) (.int .i64 1)) fun v24x10 =>
      ob (vInt .leq (σ9 11) v24x10) fun v25x11 =>
      cnd v25x11
        (ob (vInt .eql (σ9 10) (σ9 1)) fun v30x12 =>
      gop v30x12 true (fun K13 => K13 (σ9 11) H9) H9 fun v32x14 H15 =>
      gop v30x12 true (fun K16 => K16 (σ9 2) H15) H15 fun v33x17 H18 =>
      gop v30x12 true (fun K19 => ob (vInt .eql v32x14 v33x17) fun u => K19 u H18) H18 fun v34x20 H21 =>
      ob (vPick v30x12 v34x20 (.bool false)) fun v35x22 =>
      cnd v35x22
        (ob (vInt .add (σ9 11) (.int .i64 1)) fun v27x23 =>
      Q9 .normal (up (up (up (up (up (up (up (up (up (up (up (up (up (up (up σ9 22 (σ9 11)) 23 (σ9 2)) 24 v24x10) 25 v25x11) 28 (σ9 10)) 29 (σ9 1)) 30 v30x12) 31 v30x12) 32 v32x14) 33 v33x17) 34 v34x20) 35 v35x22) 26 (σ9 11)) 27 v27x23) 11 v27x23) H21)
        (gop (σ9 3) false (fun K24 => K24 (σ9 10) H21) H21 fun v38x25 H26 =>
      gop (σ9 3) false (fun K27 => K27 (σ9 0) H26) H26 fun v39x28 H29 =>
      gop (σ9 3) false (fun K30 => ob (vNilC v39x28) fun u => K30 u H29) H29 fun v40x31 H32 =>
      gop (σ9 3) false (fun K33 => ob (vFa 0 v40x31) fun u => K33 u H32) H32 fun v41x34 H35 =>
      gop (σ9 3) false (fun K36 => ob (vLoad v41x34 H35) fun u => K36 u H35) H35 fun v42x37 H38 =>
      gop (σ9 3) false (fun K39 => ob (vInt .sub v42x37 (.int .i64 1)) fun u => K39 u H38) H38 fun v43x40 H41 =>
      gop (σ9 3) false (fun K42 => HT prg I.spec_l00In [v38x25, (.int .i64 0), v43x40].toArray H41 K42) H41 fun v44x43 H44 =>
      gop (σ9 3) false (fun K45 => K45 v44x43 H44) H44 fun v45x46 H47 =>
      gop v45x46 true (fun K48 => K48 (σ9 11) H47) H47 fun v46x49 H50 =>
      gop v45x46 true (fun K51 => K51 (σ9 0) H50) H50 fun v47x52 H53 =>
      gop v45x46 true (fun K54 => ob (vNilC v47x52) fun u => K54 u H53) H53 fun v48x55 H56 =>
      gop v45x46 true (fun K57 => ob (vFa 1 v48x55) fun u => K57 u H56) H56 fun v49x58 H59 =>
      gop v45x46 true (fun K60 => ob (vLoad v49x58 H59) fun u => K60 u H59) H59 fun v50x61 H62 =>
      gop v45x46 true (fun K63 => ob (vInt .sub v50x61 (.int .i64 1)) fun u => K63 u H62) H62 fun v51x64 H65 =>
      gop v45x46 true (fun K66 => HT prg I.spec_l00In [v46x49, (.int .i64 0), v51x64].toArray H65 K66) H65 fun v52x67 H68 =>
      gop (σ9 3) false (fun K69 => ob (vPick v45x46 v52x67 (.bool false)) fun u => K69 u H68) H68 fun v53x70 H71 =>
      ob (vPick (σ9 3) (.bool true) v53x70) fun v54x72 =>
      cnd v54x72
        (ob (vNilC (σ9 0)) fun v57x73 =>
        ob (vFa 2 v57x73) fun v58x74 =>
        ob (vLoad v58x74 H71) fun v59x75 =>
        HT prg I.spec_l04Round [(σ9 0), (σ9 10), (σ9 11)].toArray H71 fun v63x76 H77 =>
        Le H71 H77 ∧ (ob (vIx 1 v59x75 v63x76) fun v64x78 =>
        ob (vLoad v64x78 H77) fun v65x79 =>
        ob (vInt .add (σ9 9) v65x79) fun v66x80 =>
        ob (vInt .add (σ9 11) (.int .i64 1)) fun v27x81 =>
      Q9 .normal (up (up (up (up (up (up (up (up (up (up (up (up (up (up (up (up (up (up (up (up (up (up (up (up (up (up (up (up (up (up (up (up (up (up (up (up (up (up (up (up (up (up (up (up (up (up (up σ9 22 (σ9 11)) 23 (σ9 2)) 24 v24x10) 25 v25x11) 28 (σ9 10)) 29 (σ9 1)) 30 v30x12) 31 v30x12) 32 v32x14) 33 v33x17) 34 v34x20) 35 v35x22) 36 (σ9 3)) 37 (σ9 3)) 38 v38x25) 39 v39x28) 40 v40x31) 41 v41x34) 42 v42x37) 43 v43x40) 44 v44x43) 45 v45x46) 46 v46x49) 47 v47x52) 48 v48x55) 49 v49x58) 50 v50x61) 51 v51x64) 52 v52x67) 53 v53x70) 54 v54x72) 55 (σ9 9)) 56 (σ9 0)) 57 v57x73) 58 v58x74) 59 v59x75) 60 (σ9 0)) 61 (σ9 10)) 62 (σ9 11)) 63 v63x76) 64 v64x78) 65 v65x79) 66 v66x80) 9 v66x80) 26 (σ9 11)) 27 v27x81) 11 v27x81) H77))
        (ob (vInt .add (σ9 11) (.int .i64 1)) fun v27x82 =>
      Q9 .normal (up (up (up (up (up (up (up (up (up (up (up (up (up (up (up (up (up (up (up (up (up (up (up (up (up (up (up (up (up (up (up (up (up (up σ9 22 (σ9 11)) 23 (σ9 2)) 24 v24x10) 25 v25x11) 28 (σ9 10)) 29 (σ9 1)) 30 v30x12) 31 v30x12) 32 v32x14) 33 v33x17) 34 v34x20) 35 v35x22) 36 (σ9 3)) 37 (σ9 3)) 38 v38x25) 39 v39x28) 40 v40x31) 41 v41x34) 42 v42x37) 43 v43x40) 44 v44x43) 45 v45x46) 46 v46x49) 47 v47x52) 48 v48x55) 49 v49x58) 50 v50x61) 51 v51x64) 52 v52x67) 53 v53x70) 54 v54x72) 26 (σ9 11)) 27 v27x82) 11 v27x82) H71)))
        (Q9 (.exit 2) (up (up (up (up σ9 22 (σ9 11)) 23 (σ9 2)) 24 v24x10) 25 v25x11) H9)) (blkQ 2 (blkQ 1 (thenQ J6 Q3))) (up (up (up (up (up (up (up σ3 14 (σ3 10)) 15 (σ3 1)) 16 v16x4) 17 v17x5) 20 (σ3 2)) 21 v21x8) 11 v21x8) H3)
      (Q3 (.exit 0) (up (up (up (up σ3 14 (σ3 10)) 15 (σ3 1)) 16 v16x4) 17 v17x5) H3)) (blkQ 0 (thenQ J1 (retQ prg [(.tmp 8)] K))) (up (up (up (up (up (S0 [a0, a1, a2, a3]) 8 (.int .i64 0)) 9 (.int .i64 0)) 12 a1) 13 v13x2) 10 v13x2) H
def O.spec_l04Around : Nat → Nat × List Nat := fun i => bif Nat.beq i 10 then (0, [0, 1, 2, 3, 4, 5, 6, 7, 8, 9, 10, 11, 12]) else (0, [])
theorem R.spec_l04Around {a0 a1 a2 a3 : Value} {H : Hp} {K : Value → Hp → Prop} (h : F.spec_l04Around a0 a1 a2 a3 H K) : HT prg I.spec_l04Around [a0, a1, a2, a3].toArray H K :=
  HT_of_fev O.spec_l04Around mixed Tryz.func86 (by kernel_rfl) (Eq.mpr (by kernel_rfl : fev prg O.spec_l04Around Tryz.f86 [a0, a1, a2, a3] H K = F.spec_l04Around a0 a1 a2 a3 H K) h)

/-! loop.example/g01381/spec.l04Has: function 87 -/
def F.spec_l04Has (a0 a1 : Value) (H : Hp) (K : Value → Hp → Prop) : Prop :=
  jn (fun σ1 H1 =>
    K (.bool false) H1) fun J1 =>
  lpE (fun Q2 σ2 H2 =>
    ob (vLenSl (σ2 0)) fun v8x3 =>
    ob (vInt .lss (σ2 5) v8x3) fun v9x4 =>
    cnd v9x4
      (ob (vIx 1 (σ2 0) (σ2 5)) fun v14x5 =>
    ob (vLoad v14x5 H2) fun v15x6 =>
    ob (vInt .eql v15x6 (σ2 1)) fun v17x7 =>
    cnd v17x7
      (Q2 .ret (up (up (up (up (up (up (up (up (up (up (up σ2 6 (σ2 5)) 7 (σ2 0)) 8 v8x3) 9 v9x4) 12 (σ2 0)) 13 (σ2 5)) 14 v14x5) 15 v15x6) 16 (σ2 1)) 17 v17x7) 4 (.bool true)) H2)
      (ob (vInt .add (σ2 5) (.int .i64 1)) fun v11x8 =>
    Q2 .normal (up (up (up (up (up (up (up (up (up (up (up (up (up σ2 6 (σ2 5)) 7 (σ2 0)) 8 v8x3) 9 v9x4) 12 (σ2 0)) 13 (σ2 5)) 14 v14x5) 15 v15x6) 16 (σ2 1)) 17 v17x7) 10 (σ2 5)) 11 v11x8) 5 v11x8) H2))
      (Q2 (.exit 0) (up (up (up (up σ2 6 (σ2 5)) 7 (σ2 0)) 8 v8x3) 9 v9x4) H2)) (blkQ 0 (thenQ J1 (retQ prg [(.tmp 4)] K))) (up (up (S0 [a0, a1]) 4 (.bool false)) 5 (.int .i64 0)) H
def O.spec_l04Has : Nat → Nat × List Nat := fun i => (0, [])
theorem R.spec_l04Has {a0 a1 : Value} {H : Hp} {K : Value → Hp → Prop} (h : F.spec_l04Has a0 a1 H K) : HT prg I.spec_l04Has [a0, a1].toArray H K :=
  HT_of_fev O.spec_l04Has mixed Tryz.func87 (by kernel_rfl) (Eq.mpr (by kernel_rfl : fev prg O.spec_l04Has Tryz.f87 [a0, a1] H K = F.spec_l04Has a0 a1 H K) h)

/-! loop.example/g01381/spec.l04Next: function 55 -/
def F.spec_l04Next (a0 a1 a2 : Value) (H : Hp) (K : Value → Hp → Prop) : Prop :=
  nw #[(.int .i64 0), (.int .i64 0), (.slice none 0 0)] 44 H fun v6x1 H2 =>
  ob (vNilC a1) fun v13x3 =>
  ob (vFa 0 v13x3) fun v14x4 =>
  ob (vLoad v14x4 H2) fun v15x5 =>
  ob (vNilC a1) fun v17x6 =>
  ob (vFa 1 v17x6) fun v18x7 =>
  ob (vLoad v18x7 H2) fun v19x8 =>
  HT prg I.spec_l04New [v15x5, v19x8].toArray H2 fun v20x9 H10 =>
  Le H2 H10 ∧ (nw #[(.int .i64 0), (.int .i64 0), (.slice none 0 0)] 44 H10 fun v7x11 H12 =>
  st 3 v7x11 v20x9 H12 fun H13 =>
  jn (fun σ14 H14 =>
    ob (vLoadN 3 (σ14 7) H14) fun v88x15 =>
    st 3 (σ14 6) v88x15 H14 fun H16 =>
    ob (vLoadN 3 (σ14 6) H16) fun u17 => K u17 H16) fun J14 =>
  lpE (fun Q18 σ18 H18 =>
    ob (vNilC (σ18 1)) fun v23x19 =>
    ob (vFa 0 v23x19) fun v24x20 =>
    ob (vLoad v24x20 H18) fun v25x21 =>
    ob (vInt .lss (σ18 8) v25x21) fun v26x22 =>
    cnd v26x22
      (jn (fun σ23 H23 =>
      ob (vInt .add (σ23 8) (.int .i64 1)) fun v28x24 =>
      Q18 .normal (up (up (up σ23 27 (σ23 8)) 28 v28x24) 8 v28x24) H23) fun J23 =>
    lpE (fun Q25 σ25 H25 =>
      ob (vNilC (σ25 1)) fun v31x26 =>
      ob (vFa 1 v31x26) fun v32x27 =>
      ob (vLoad v32x27 H25) fun v33x28 =>
      ob (vInt .lss (σ25 9) v33x28) fun v34x29 =>
      cnd v34x29
        (HT prg I.spec_l04Around [(σ25 1), (σ25 8), (σ25 9), (σ25 2)].toArray H25 fun v41x30 H31 =>
      ob (vNilC (σ25 1)) fun v44x32 =>
      ob (vFa 1 v44x32) fun v45x33 =>
      ob (vLoad v45x33 H31) fun v46x34 =>
      ob (vInt .mul (σ25 8) v46x34) fun v47x35 =>
      ob (vInt .add v47x35 (σ25 9)) fun v49x36 =>
      ob (vNilC (σ25 1)) fun v51x37 =>
      ob (vFa 2 v51x37) fun v52x38 =>
      ob (vLoad v52x38 H31) fun v53x39 =>
      ob (vIx 1 v53x39 v49x36) fun v55x40 =>
      ob (vLoad v55x40 H31) fun v56x41 =>
      ob (vInt .eql v56x41 (.int .i64 0)) fun v57x42 =>
      gop v57x42 true (fun K43 => K43 (σ25 0) H31) H31 fun v59x44 H45 =>
      gop v57x42 true (fun K46 => ob (vNilC v59x44) fun u => K46 u H45) H45 fun v60x47 H48 =>
      gop v57x42 true (fun K49 => ob (vFa 0 v60x47) fun u => K49 u H48) H48 fun v61x50 H51 =>
      gop v57x42 true (fun K52 => ob (vLoad v61x50 H51) fun u => K52 u H51) H51 fun v62x53 H54 =>
      gop v57x42 true (fun K55 => K55 v41x30 H54) H54 fun v63x56 H57 =>
      gop v57x42 true (fun K58 => HT prg I.spec_l04Has [v62x53, v63x56].toArray H57 K58) H57 fun v64x59 H60 =>
      ob (vPick v57x42 v64x59 (.bool false)) fun v65x61 =>
      gop v65x61 false (fun K62 => K62 (σ25 1) H60) H60 fun v67x63 H64 =>
      gop v65x61 false (fun K65 => ob (vNilC v67x63) fun u => K65 u H64) H64 fun v68x66 H67 =>
      gop v65x61 false (fun K68 => ob (vFa 2 v68x66) fun u => K68 u H67) H67 fun v69x69 H70 =>
      gop v65x61 false (fun K71 => ob (vLoad v69x69 H70) fun u => K71 u H70) H70 fun v70x72 H73 =>
      gop v65x61 false (fun K74 => K74 v49x36 H73) H73 fun v71x75 H76 =>
      gop v65x61 false (fun K77 => ob (vIx 1 v70x72 v71x75) fun u => K77 u H76) H76 fun v72x78 H79 =>
      gop v65x61 false (fun K80 => ob (vLoad v72x78 H79) fun u => K80 u H79) H79 fun v73x81 H82 =>
      gop v65x61 false (fun K83 => ob (vInt .eql v73x81 (.int .i64 1)) fun u => K83 u H82) H82 fun v74x84 H85 =>
      gop v65x61 false (fun K86 => K86 v74x84 H85) H85 fun v75x87 H88 =>
      gop v75x87 true (fun K89 => K89 (σ25 0) H88) H88 fun v76x90 H91 =>
      gop v75x87 true (fun K92 => ob (vNilC v76x90) fun u => K92 u H91) H91 fun v77x93 H94 =>
      gop v75x87 true (fun K95 => ob (vFa 1 v77x93) fun u => K95 u H94) H94 fun v78x96 H97 =>
      gop v75x87 true (fun K98 => ob (vLoad v78x96 H97) fun u => K98 u H97) H97 fun v79x99 H100 =>
      gop v75x87 true (fun K101 => K101 v41x30 H100) H100 fun v80x102 H103 =>
      gop v75x87 true (fun K104 => HT prg I.spec_l04Has [v79x99, v80x102].toArray H103 K104) H103 fun v81x105 H106 =>
      gop v65x61 false (fun K107 => ob (vPick v75x87 v81x105 (.bool false)) fun u => K107 u H106) H106 fun v82x108 H109 =>
      ob (vPick v65x61 (.bool true) v82x108) fun v83x110 =>
      cnd v83x110
        (ob (vFa 2 (σ25 7)) fun v84x111 =>
        ob (vLoad v84x111 H109) fun v85x112 =>
        ob (vIx 1 v85x112 v49x36) fun v87x113 =>
        st 1 v87x113 (.int .i64 1) H109 fun H114 =>
        ob (vInt .add (σ25 9) (.int .i64 1)) fun v36x115 =>
      Q25 .normal (up (up (up (up (up (up (up (up (up (up (up (up (up (up (up (up (up (up (up (up (up (up (up (up (up (up (up (up (up (up (up (up (up (up (up (up (up (up (up (up (up (up (up (up (up (up (up (up (up (up (up (up (up (up (up (up (up (up (up (up (up (up σ25 29 (σ25 9)) 30 (σ25 1)) 31 v31x26) 32 v32x27) 33 v33x28) 34 v34x29) 37 (σ25 1)) 38 (σ25 8)) 39 (σ25 9)) 40 (σ25 2)) 41 v41x30) 10 v41x30) 42 (σ25 8)) 43 (σ25 1)) 44 v44x32) 45 v45x33) 46 v46x34) 47 v47x35) 48 (σ25 9)) 49 v49x36) 11 v49x36) 50 (σ25 1)) 51 v51x37) 52 v52x38) 53 v53x39) 54 v49x36) 55 v55x40) 56 v56x41) 57 v57x42) 58 v57x42) 59 v59x44) 60 v60x47) 61 v61x50) 62 v62x53) 63 v63x56) 64 v64x59) 65 v65x61) 66 v65x61) 67 v67x63) 68 v68x66) 69 v69x69) 70 v70x72) 71 v71x75) 72 v72x78) 73 v73x81) 74 v74x84) 75 v75x87) 76 v76x90) 77 v77x93) 78 v78x96) 79 v79x99) 80 v80x102) 81 v81x105) 82 v82x108) 83 v83x110) 84 v84x111) 85 v85x112) 86 v49x36) 87 v87x113) 35 (σ25 9)) 36 v36x115) 9 v36x115) H114)
        (ob (vInt .add (σ25 9) (.int .i64 1)) fun v36x116 =>
      Q25 .normal (up (up (up (up (up (up (up (up (up (up (up (up (up (up (up (up (up (up (up (up (up (up (up (up (up (up (up (up (up (up (up (up (up (up (up (up (up (up (up (up (up (up (up (up (up (up (up (up (up (up (up (up (up (up (up (up (up (up σ25 29 (σ25 9)) 30 (σ25 1)) 31 v31x26) 32 v32x27) 33 v33x28) 34 v34x29) 37 (σ25 1)) 38 (σ25 8)) 39 (σ25 9)) 40 (σ25 2)) 41 v41x30) 10 v41x30) 42 (σ25 8)) 43 (σ25 1)) 44 v44x32) 45 v45x33) 46 v46x34) 47 v47x35) 48 (σ25 9)) 49 v49x36) 11 v49x36) 50 (σ25 1)) 51 v51x37) 52 v52x38) 53 v53x39) 54 v49x36) 55 v55x40) 56 v56x41) 57 v57x42) 58 v57x42) 59 v59x44) 60 v60x47) 61 v61x50) 62 v62x53) 63 v63x56) 64 v64x59) 65 v65x61) 66 v65x61) 67 v67x63) 68 v68x66) 69 v69x69) 70 v70x72) 71 v71x75) 72 v72x78) 73 v73x81) 74 v74x84) 75 v75x87) 76 v76x90) 77 v77x93) 78 v78x96) 79 v79x99) 80 v80x102) 81 v81x105) 82 v82x108) 83 v83x110) 35 (σ25 9)) 36 v36x116) 9 v36x116) H109))
        (Q25 (.exit 2) (up (up (up (up (up (up σ25 29 (σ25 9)) 30 (σ25 1)) 31 v31x26) 32 v32x27) 33 v33x28) 34 v34x29) H25)) (blkQ 2 (blkQ 1 (thenQ J23 Q18))) (up (up (up (up (up (up (up σ18 21 (σ18 8)) 22 (σ18 1)) 23 v23x19) 24 v24x20) 25 v25x21) 26 v26x22) 9 (.int .i64 0)) H18)
      (Q18 (.exit 0) (up (up (up (up (up (up σ18 21 (σ18 8)) 22 (σ18 1)) 23 v23x19) 24 v24x20) 25 v25x21) 26 v26x22) H18)) (blkQ 0 (thenQ J14 (retQ prg [(.cell 6 44)] K))) (up (up (up (up (up (up (up (up (up (up (up (up (S0 [a0, a1, a2]) 6 v6x1) 12 a1) 13 v13x3) 14 v14x4) 15 v15x5) 16 a1) 17 v17x6) 18 v18x7) 19 v19x8) 20 v20x9) 7 v7x11) 8 (.int .i64 0)) H13)
def O.spec_l04Next : Nat → Nat × List Nat := fun i => bif Nat.beq i 1 then (0, [0, 1, 2, 3, 4, 5, 6, 7, 8, 9, 10]) else (0, [])
theorem R.spec_l04Next {a0 a1 a2 : Value} {H : Hp} {K : Value → Hp → Prop} (h : F.spec_l04Next a0 a1 a2 H K) : HT prg I.spec_l04Next [a0, a1, a2].toArray H K :=
  HT_of_fev O.spec_l04Next mixed Tryz.func55 (by kernel_rfl) (Eq.mpr (by kernel_rfl : fev prg O.spec_l04Next Tryz.f55 [a0, a1, a2] H K = F.spec_l04Next a0 a1 a2 H K) h)

/-! loop.example/g01381/spec.l04Run: function 35 -/
def F.spec_l04Run (a0 a1 a2 a3 : Value) (H : Hp) (K : Value → Hp → Prop) : Prop :=
  nw #[(.int .i64 0), (.int .i64 0), (.slice none 0 0)] 44 H fun v8x1 H2 =>
  HT prg I.spec_l04Own [a1].toArray H2 fun v11x3 H4 =>
  nw #[(.int .i64 0), (.int .i64 0), (.slice none 0 0)] 44 H4 fun v9x5 H6 =>
  st 3 v9x5 v11x3 H6 fun H7 =>
  jn (fun σ8 H8 =>
    ob (vLoadN 3 (σ8 9) H8) fun v19x9 =>
    st 3 (σ8 8) v19x9 H8 fun H10 =>
    ob (vLoadN 3 (σ8 8) H10) fun u11 => K u11 H10) fun J8 =>
  lpE (fun Q12 σ12 H12 =>
    ob (vInt .gtr (σ12 3) (.int .i64 0)) fun v13x13 =>
    cnd v13x13
      (HT prg I.spec_l04Next [(σ12 0), (σ12 9), (σ12 2)].toArray H12 fun v18x14 H15 =>
    st 3 (σ12 9) v18x14 H15 fun H16 =>
    ob (vInt .sub (σ12 3) (.int .i64 1)) fun v15x17 =>
    Q12 .normal (up (up (up (up (up (up (up (up σ12 12 (σ12 3)) 13 v13x13) 16 (σ12 0)) 17 (σ12 2)) 18 v18x14) 14 (σ12 3)) 15 v15x17) 3 v15x17) H16)
      (Q12 (.exit 0) (up (up σ12 12 (σ12 3)) 13 v13x13) H12)) (blkQ 0 (thenQ J8 (retQ prg [(.cell 8 44)] K))) (up (up (up (up (S0 [a0, a1, a2, a3]) 8 v8x1) 10 a1) 11 v11x3) 9 v9x5) H7
def O.spec_l04Run : Nat → Nat × List Nat := fun i => (0, [])
theorem R.spec_l04Run {a0 a1 a2 a3 : Value} {H : Hp} {K : Value → Hp → Prop} (h : F.spec_l04Run a0 a1 a2 a3 H K) : HT prg I.spec_l04Run [a0, a1, a2, a3].toArray H K :=
  HT_of_fev O.spec_l04Run mixed Tryz.func35 (by kernel_rfl) (Eq.mpr (by kernel_rfl : fev prg O.spec_l04Run Tryz.f35 [a0, a1, a2, a3] H K = F.spec_l04Run a0 a1 a2 a3 H K) h)

/-! loop.example/g01381/spec.l04Counts: function 65 -/
def F.spec_l04Counts (a0 : Value) (H : Hp) (K : Value → Hp → Prop) : Prop :=
  jn (fun σ1 H1 =>
    K (.bool true) H1) fun J1 =>
  lpE (fun Q2 σ2 H2 =>
    ob (vLenSl (σ2 0)) fun v6x3 =>
    ob (vInt .lss (σ2 3) v6x3) fun v7x4 =>
    cnd v7x4
      (ob (vIx 1 (σ2 0) (σ2 3)) fun v12x5 =>
    ob (vLoad v12x5 H2) fun v13x6 =>
    HT prg I.spec_l00In [v13x6, (.int .i64 0), (.int .i64 8)].toArray H2 fun v14x7 H8 =>
    Le H2 H8 ∧ (ob (vUn .not v14x7) fun v15x9 =>
    gop v15x9 false (fun K10 => K10 (σ2 3) H8) H8 fun v17x11 H12 =>
    gop v15x9 false (fun K13 => ob (vInt .gtr v17x11 (.int .i64 0)) fun u => K13 u H12) H12 fun v18x14 H15 =>
    gop v15x9 false (fun K16 => K16 v18x14 H15) H15 fun v19x17 H18 =>
    gop v19x17 true (fun K19 => K19 (σ2 0) H18) H18 fun v20x20 H21 =>
    gop v19x17 true (fun K22 => K22 (σ2 3) H21) H21 fun v21x23 H24 =>
    gop v19x17 true (fun K25 => ob (vIx 1 v20x20 v21x23) fun u => K25 u H24) H24 fun v22x26 H27 =>
    gop v19x17 true (fun K28 => ob (vLoad v22x26 H27) fun u => K28 u H27) H27 fun v23x29 H30 =>
    gop v19x17 true (fun K31 => K31 (σ2 0) H30) H30 fun v24x32 H33 =>
    gop v19x17 true (fun K34 => K34 (σ2 3) H33) H33 fun v25x35 H36 =>
    gop v19x17 true (fun K37 => ob (vInt .sub v25x35 (.int .i64 1)) fun u => K37 u H36) H36 fun v26x38 H39 =>
    gop v19x17 true (fun K40 => ob (vIx 1 v24x32 v26x38) fun u => K40 u H39) H39 fun v27x41 H42 =>
    gop v19x17 true (fun K43 => ob (vLoad v27x41 H42) fun u => K43 u H42) H42 fun v28x44 H45 =>
    gop v19x17 true (fun K46 => ob (vInt .leq v23x29 v28x44) fun u => K46 u H45) H45 fun v29x47 H48 =>
    gop v15x9 false (fun K49 => ob (vPick v19x17 v29x47 (.bool false)) fun u => K49 u H48) H48 fun v30x50 H51 =>
    ob (vPick v15x9 (.bool true) v30x50) fun v31x52 =>
    cnd v31x52
      (Q2 .ret (up (up (up (up (up (up (up (up (up (up (up (up (up (up (up (up (up (up (up (up (up (up (up (up (up (up (up σ2 4 (σ2 3)) 5 (σ2 0)) 6 v6x3) 7 v7x4) 10 (σ2 0)) 11 (σ2 3)) 12 v12x5) 13 v13x6) 14 v14x7) 15 v15x9) 16 v15x9) 17 v17x11) 18 v18x14) 19 v19x17) 20 v20x20) 21 v21x23) 22 v22x26) 23 v23x29) 24 v24x32) 25 v25x35) 26 v26x38) 27 v27x41) 28 v28x44) 29 v29x47) 30 v30x50) 31 v31x52) 2 (.bool false)) H51)
      (ob (vInt .add (σ2 3) (.int .i64 1)) fun v9x53 =>
    Q2 .normal (up (up (up (up (up (up (up (up (up (up (up (up (up (up (up (up (up (up (up (up (up (up (up (up (up (up (up (up (up σ2 4 (σ2 3)) 5 (σ2 0)) 6 v6x3) 7 v7x4) 10 (σ2 0)) 11 (σ2 3)) 12 v12x5) 13 v13x6) 14 v14x7) 15 v15x9) 16 v15x9) 17 v17x11) 18 v18x14) 19 v19x17) 20 v20x20) 21 v21x23) 22 v22x26) 23 v23x29) 24 v24x32) 25 v25x35) 26 v26x38) 27 v27x41) 28 v28x44) 29 v29x47) 30 v30x50) 31 v31x52) 8 (σ2 3)) 9 v9x53) 3 v9x53) H51)))
      (Q2 (.exit 0) (up (up (up (up σ2 4 (σ2 3)) 5 (σ2 0)) 6 v6x3) 7 v7x4) H2)) (blkQ 0 (thenQ J1 (retQ prg [(.tmp 2)] K))) (up (up (S0 [a0]) 2 (.bool false)) 3 (.int .i64 0)) H
def O.spec_l04Counts : Nat → Nat × List Nat := fun i => bif Nat.beq i 4 then (0, [0, 1, 2, 3, 4, 5, 6, 7, 8, 9, 10, 11, 12, 13, 14, 15, 16, 17, 18, 19, 20, 21]) else (0, [])
theorem R.spec_l04Counts {a0 : Value} {H : Hp} {K : Value → Hp → Prop} (h : F.spec_l04Counts a0 H K) : HT prg I.spec_l04Counts [a0].toArray H K :=
  HT_of_fev O.spec_l04Counts mixed Tryz.func65 (by kernel_rfl) (Eq.mpr (by kernel_rfl : fev prg O.spec_l04Counts Tryz.f65 [a0] H K = F.spec_l04Counts a0 H K) h)

/-! loop.example/g01381/spec.l04Life: function 41 -/
def F.spec_l04Life (a0 : Value) (H : Hp) (K : Value → Hp → Prop) : Prop :=
  ob (vNilC a0) fun v4x1 =>
  ob (vFa 0 v4x1) fun v5x2 =>
  ob (vLoad v5x2 H) fun v6x3 =>
  HT prg I.spec_l04Counts [v6x3].toArray H fun v7x4 H5 =>
  gop v7x4 true (fun K6 => K6 a0 H5) H5 fun v9x7 H8 =>
  gop v7x4 true (fun K9 => ob (vNilC v9x7) fun u => K9 u H8) H8 fun v10x10 H11 =>
  gop v7x4 true (fun K12 => ob (vFa 1 v10x10) fun u => K12 u H11) H11 fun v11x13 H14 =>
  gop v7x4 true (fun K15 => ob (vLoad v11x13 H14) fun u => K15 u H14) H14 fun v12x16 H17 =>
  gop v7x4 true (fun K18 => HT prg I.spec_l04Counts [v12x16].toArray H17 K18) H17 fun v13x19 H20 =>
  ob (vPick v7x4 v13x19 (.bool false)) fun v14x21 =>
  K v14x21 H20
def O.spec_l04Life : Nat → Nat × List Nat := fun i => (0, [])
theorem R.spec_l04Life {a0 : Value} {H : Hp} {K : Value → Hp → Prop} (h : F.spec_l04Life a0 H K) : HT prg I.spec_l04Life [a0].toArray H K :=
  HT_of_fev O.spec_l04Life mixed Tryz.func41 (by kernel_rfl) (Eq.mpr (by kernel_rfl : fev prg O.spec_l04Life Tryz.f41 [a0] H K = F.spec_l04Life a0 H K) h)

/-! loop.example/g01381/spec.l00Max: function 50 -/
def F.spec_l00Max (a0 a1 : Value) (H : Hp) (K : Value → Hp → Prop) : Prop :=
  ob (vInt .gtr a0 a1) fun v7x1 =>
  cnd v7x1
    (K a0 H)
    (K a1 H)
def O.spec_l00Max : Nat → Nat × List Nat := fun i => (0, [])
theorem R.spec_l00Max {a0 a1 : Value} {H : Hp} {K : Value → Hp → Prop} (h : F.spec_l00Max a0 a1 H K) : HT prg I.spec_l00Max [a0, a1].toArray H K :=
  HT_of_fev O.spec_l00Max mixed Tryz.func50 (by kernel_rfl) (Eq.mpr (by kernel_rfl : fev prg O.spec_l00Max Tryz.f50 [a0, a1] H K = F.spec_l00Max a0 a1 H K) h)

/-! loop.example/g01381/spec.l00Min: function 97 -/
def F.spec_l00Min (a0 a1 : Value) (H : Hp) (K : Value → Hp → Prop) : Prop :=
  ob (vInt .lss a0 a1) fun v7x1 =>
  cnd v7x1
    (K a0 H)
    (K a1 H)
def O.spec_l00Min : Nat → Nat × List Nat := fun i => (0, [])
theorem R.spec_l00Min {a0 a1 : Value} {H : Hp} {K : Value → Hp → Prop} (h : F.spec_l00Min a0 a1 H K) : HT prg I.spec_l00Min [a0, a1].toArray H K :=
  HT_of_fev O.spec_l00Min mixed Tryz.func97 (by kernel_rfl) (Eq.mpr (by kernel_rfl : fev prg O.spec_l00Min Tryz.f97 [a0, a1] H K = F.spec_l00Min a0 a1 H K) h)

/-! loop.example/g01381/spec.l05Cut: function 98 -/
def F.spec_l05Cut (a0 a1 a2 a3 a4 : Value) (H : Hp) (K : Value → Hp → Prop) : Prop :=
  nw #[(.int .i64 0), (.int .i64 0), (.slice none 0 0)] 44 H fun v10x1 H2 =>
  HT prg I.spec_l04New [a3, a4].toArray H2 fun v16x3 H4 =>
  nw #[(.int .i64 0), (.int .i64 0), (.slice none 0 0)] 44 H4 fun v11x5 H6 =>
  st 3 v11x5 v16x3 H6 fun H7 =>
  jn (fun σ8 H8 =>
    ob (vLoadN 3 (σ8 11) H8) fun v53x9 =>
    st 3 (σ8 10) v53x9 H8 fun H10 =>
    ob (vLoadN 3 (σ8 10) H10) fun u11 => K u11 H10) fun J8 =>
  lpE (fun Q12 σ12 H12 =>
    ob (vInt .lss (σ12 12) (σ12 3)) fun v19x13 =>
    cnd v19x13
      (jn (fun σ14 H14 =>
      ob (vInt .add (σ14 12) (.int .i64 1)) fun v21x15 =>
      Q12 .normal (up (up (up σ14 20 (σ14 12)) 21 v21x15) 12 v21x15) H14) fun J14 =>
    lpE (fun Q16 σ16 H16 =>
      ob (vInt .lss (σ16 13) (σ16 4)) fun v24x17 =>
      cnd v24x17
        (ob (vFa 2 (σ16 11)) fun v27x18 =>
      ob (vLoad v27x18 H16) fun v28x19 =>
      ob (vInt .mul (σ16 12) (σ16 4)) fun v31x20 =>
      ob (vInt .add v31x20 (σ16 13)) fun v33x21 =>
      ob (vNilC (σ16 0)) fun v35x22 =>
      ob (vFa 2 v35x22) fun v36x23 =>
      ob (vLoad v36x23 H16) fun v37x24 =>
      ob (vInt .add (σ16 1) (σ16 12)) fun v40x25 =>
      ob (vNilC (σ16 0)) fun v42x26 =>
      ob (vFa 1 v42x26) fun v43x27 =>
      ob (vLoad v43x27 H16) fun v44x28 =>
      ob (vInt .mul v40x25 v44x28) fun v45x29 =>
      ob (vInt .add v45x29 (σ16 2)) fun v47x30 =>
      ob (vInt .add v47x30 (σ16 13)) fun v49x31 =>
      ob (vIx 1 v37x24 v49x31) fun v50x32 =>
      ob (vLoad v50x32 H16) fun v51x33 =>
      ob (vIx 1 v28x19 v33x21) fun v52x34 =>
      st 1 v52x34 v51x33 H16 fun H35 =>
      ob (vInt .add (σ16 13) (.int .i64 1)) fun v26x36 =>
      Q16 .normal (up (up (up (up (up (up (up (up (up (up (up (up (up (up (up (up (up (up (up (up (up (up (up (up (up (up (up (up (up (up (up (up σ16 22 (σ16 13)) 23 (σ16 4)) 24 v24x17) 27 v27x18) 28 v28x19) 29 (σ16 12)) 30 (σ16 4)) 31 v31x20) 32 (σ16 13)) 33 v33x21) 34 (σ16 0)) 35 v35x22) 36 v36x23) 37 v37x24) 38 (σ16 1)) 39 (σ16 12)) 40 v40x25) 41 (σ16 0)) 42 v42x26) 43 v43x27) 44 v44x28) 45 v45x29) 46 (σ16 2)) 47 v47x30) 48 (σ16 13)) 49 v49x31) 50 v50x32) 51 v51x33) 52 v52x34) 25 (σ16 13)) 26 v26x36) 13 v26x36) H35)
        (Q16 (.exit 2) (up (up (up σ16 22 (σ16 13)) 23 (σ16 4)) 24 v24x17) H16)) (blkQ 2 (blkQ 1 (thenQ J14 Q12))) (up (up (up (up σ12 17 (σ12 12)) 18 (σ12 3)) 19 v19x13) 13 (.int .i64 0)) H12)
      (Q12 (.exit 0) (up (up (up σ12 17 (σ12 12)) 18 (σ12 3)) 19 v19x13) H12)) (blkQ 0 (thenQ J8 (retQ prg [(.cell 10 44)] K))) (up (up (up (up (up (up (S0 [a0, a1, a2, a3, a4]) 10 v10x1) 14 a3) 15 a4) 16 v16x3) 11 v11x5) 12 (.int .i64 0)) H7
def O.spec_l05Cut : Nat → Nat × List Nat := fun i => bif Nat.beq i 8 then (0, [0, 1, 2, 3, 4, 5, 6, 7, 8, 9, 10, 11, 12, 13, 14, 15, 16, 17, 18, 19, 20, 21, 22, 23, 24, 25, 26]) else (0, [])
theorem R.spec_l05Cut {a0 a1 a2 a3 a4 : Value} {H : Hp} {K : Value → Hp → Prop} (h : F.spec_l05Cut a0 a1 a2 a3 a4 H K) : HT prg I.spec_l05Cut [a0, a1, a2, a3, a4].toArray H K :=
  HT_of_fev O.spec_l05Cut mixed Tryz.func98 (by kernel_rfl) (Eq.mpr (by kernel_rfl : fev prg O.spec_l05Cut Tryz.f98 [a0, a1, a2, a3, a4] H K = F.spec_l05Cut a0 a1 a2 a3 a4 H K) h)

/-! loop.example/g01381/spec.l05Trim: function 68 -/
def F.spec_l05Trim (a0 : Value) (H : Hp) (K : Value → Hp → Prop) : Prop :=
  nw #[(.int .i64 0), (.int .i64 0), (.slice none 0 0)] 44 H fun v2x1 H2 =>
  ob (vNilC a0) fun v13x3 =>
  ob (vFa 0 v13x3) fun v14x4 =>
  ob (vLoad v14x4 H2) fun v15x5 =>
  ob (vNilC a0) fun v17x6 =>
  ob (vFa 1 v17x6) fun v18x7 =>
  ob (vLoad v18x7 H2) fun v19x8 =>
  jn (fun σ9 H9 =>
    ob (vInt .lss (σ9 7) (.int .i64 0)) fun v64x10 =>
    cnd v64x10
      (ob (vBuild [(0, 1), (1, 1), (2, 1)] (.agg #[(.int .i64 0), (.int .i64 0), (.slice none 0 0)]) []) fun v65x11 =>
      st 3 (σ9 2) v65x11 H9 fun H12 =>
      ob (vLoadN 3 (σ9 2) H12) fun u13 => K (.tuple #[u13, (.int .i64 0), (.int .i64 0), (.bool false)]) H12)
      (ob (vInt .sub (σ9 7) (σ9 6)) fun v71x14 =>
    ob (vInt .add v71x14 (.int .i64 1)) fun v72x15 =>
    ob (vInt .sub (σ9 9) (σ9 8)) fun v75x16 =>
    ob (vInt .add v75x16 (.int .i64 1)) fun v76x17 =>
    HT prg I.spec_l05Cut [(σ9 0), (σ9 6), (σ9 8), v72x15, v76x17].toArray H9 fun v77x18 H19 =>
    st 3 (σ9 2) v77x18 H19 fun H20 =>
    ob (vLoadN 3 (σ9 2) H20) fun u21 => K (.tuple #[u21, (σ9 6), (σ9 8), (.bool true)]) H20)) fun J9 =>
  lpE (fun Q22 σ22 H22 =>
    ob (vNilC (σ22 0)) fun v22x23 =>
    ob (vFa 0 v22x23) fun v23x24 =>
    ob (vLoad v23x24 H22) fun v24x25 =>
    ob (vInt .lss (σ22 10) v24x25) fun v25x26 =>
    cnd v25x26
      (jn (fun σ27 H27 =>
      ob (vInt .add (σ27 10) (.int .i64 1)) fun v27x28 =>
      Q22 .normal (up (up (up σ27 26 (σ27 10)) 27 v27x28) 10 v27x28) H27) fun J27 =>
    lpE (fun Q29 σ29 H29 =>
      ob (vNilC (σ29 0)) fun v30x30 =>
      ob (vFa 1 v30x30) fun v31x31 =>
      ob (vLoad v31x31 H29) fun v32x32 =>
      ob (vInt .lss (σ29 11) v32x32) fun v33x33 =>
      cnd v33x33
        (ob (vNilC (σ29 0)) fun v37x34 =>
      ob (vFa 2 v37x34) fun v38x35 =>
      ob (vLoad v38x35 H29) fun v39x36 =>
      ob (vNilC (σ29 0)) fun v42x37 =>
      ob (vFa 1 v42x37) fun v43x38 =>
      ob (vLoad v43x38 H29) fun v44x39 =>
      ob (vInt .mul (σ29 10) v44x39) fun v45x40 =>
      ob (vInt .add v45x40 (σ29 11)) fun v47x41 =>
      ob (vIx 1 v39x36 v47x41) fun v48x42 =>
      ob (vLoad v48x42 H29) fun v49x43 =>
      ob (vInt .eql v49x43 (.int .i64 1)) fun v50x44 =>
      cnd v50x44
        (HT prg I.spec_l00Min [(σ29 6), (σ29 10)].toArray H29 fun v53x45 H46 =>
        HT prg I.spec_l00Max [(σ29 7), (σ29 10)].toArray H46 fun v56x47 H48 =>
        HT prg I.spec_l00Min [(σ29 8), (σ29 11)].toArray H48 fun v59x49 H50 =>
        HT prg I.spec_l00Max [(σ29 9), (σ29 11)].toArray H50 fun v62x51 H52 =>
        ob (vInt .add (σ29 11) (.int .i64 1)) fun v35x53 =>
      Q29 .normal (up (up (up (up (up (up (up (up (up (up (up (up (up (up (up (up (up (up (up (up (up (up (up (up (up (up (up (up (up (up (up (up (up (up (up (up (up (up (up (up σ29 28 (σ29 11)) 29 (σ29 0)) 30 v30x30) 31 v31x31) 32 v32x32) 33 v33x33) 36 (σ29 0)) 37 v37x34) 38 v38x35) 39 v39x36) 40 (σ29 10)) 41 (σ29 0)) 42 v42x37) 43 v43x38) 44 v44x39) 45 v45x40) 46 (σ29 11)) 47 v47x41) 48 v48x42) 49 v49x43) 50 v50x44) 51 (σ29 6)) 52 (σ29 10)) 53 v53x45) 6 v53x45) 54 (σ29 7)) 55 (σ29 10)) 56 v56x47) 7 v56x47) 57 (σ29 8)) 58 (σ29 11)) 59 v59x49) 8 v59x49) 60 (σ29 9)) 61 (σ29 11)) 62 v62x51) 9 v62x51) 34 (σ29 11)) 35 v35x53) 11 v35x53) H52)
        (ob (vInt .add (σ29 11) (.int .i64 1)) fun v35x54 =>
      Q29 .normal (up (up (up (up (up (up (up (up (up (up (up (up (up (up (up (up (up (up (up (up (up (up (up (up σ29 28 (σ29 11)) 29 (σ29 0)) 30 v30x30) 31 v31x31) 32 v32x32) 33 v33x33) 36 (σ29 0)) 37 v37x34) 38 v38x35) 39 v39x36) 40 (σ29 10)) 41 (σ29 0)) 42 v42x37) 43 v43x38) 44 v44x39) 45 v45x40) 46 (σ29 11)) 47 v47x41) 48 v48x42) 49 v49x43) 50 v50x44) 34 (σ29 11)) 35 v35x54) 11 v35x54) H29))
        (Q29 (.exit 2) (up (up (up (up (up (up σ29 28 (σ29 11)) 29 (σ29 0)) 30 v30x30) 31 v31x31) 32 v32x32) 33 v33x33) H29)) (blkQ 2 (blkQ 1 (thenQ J27 Q22))) (up (up (up (up (up (up (up σ22 20 (σ22 10)) 21 (σ22 0)) 22 v22x23) 23 v23x24) 24 v24x25) 25 v25x26) 11 (.int .i64 0)) H22)
      (Q22 (.exit 0) (up (up (up (up (up (up σ22 20 (σ22 10)) 21 (σ22 0)) 22 v22x23) 23 v23x24) 24 v24x25) 25 v25x26) H22)) (blkQ 0 (thenQ J9 (retQ prg [(.cell 2 44), (.tmp 3), (.tmp 4), (.tmp 5)] K))) (up (up (up (up (up (up (up (up (up (up (up (up (up (up (up (up (up (S0 [a0]) 2 v2x1) 3 (.int .i64 0)) 4 (.int .i64 0)) 5 (.bool false)) 12 a0) 13 v13x3) 14 v14x4) 15 v15x5) 6 v15x5) 7 (.int .i64 (-1))) 16 a0) 17 v17x6) 18 v18x7) 19 v19x8) 8 v19x8) 9 (.int .i64 (-1))) 10 (.int .i64 0)) H2
def O.spec_l05Trim : Nat → Nat × List Nat := fun i => bif Nat.beq i 11 then (0, [0, 1, 2, 3, 4, 5, 6, 7, 8, 9, 10, 11, 12, 13, 14]) else (0, [])
theorem R.spec_l05Trim {a0 : Value} {H : Hp} {K : Value → Hp → Prop} (h : F.spec_l05Trim a0 H K) : HT prg I.spec_l05Trim [a0].toArray H K :=
  HT_of_fev O.spec_l05Trim mixed Tryz.func68 (by kernel_rfl) (Eq.mpr (by kernel_rfl : fev prg O.spec_l05Trim Tryz.f68 [a0] H K = F.spec_l05Trim a0 H K) h)

/-! loop.example/g01381/spec.l05Parts: function 43 -/
def F.spec_l05Parts (a0 : Value) (H : Hp) (K : Value → Hp → Prop) : Prop :=
  ob (vNilC a0) fun v21x1 =>
  ob (vFa 2 v21x1) fun v22x2 =>
  ob (vLoad v22x2 H) fun v23x3 =>
  ob (vLenSl v23x3) fun v24x4 =>
  mkS 1 1 #[(.bool false)] 4 v24x4 v24x4 H fun v25x5 H6 =>
  bS 3 0 #[(.int .i64 0), (.int .i64 0), (.slice none 0 0)] 44 [] H6 fun v26x7 H8 =>
  bS 1 0 #[(.int .i64 0)] 2 [] H8 fun v27x9 H10 =>
  jn (fun σ11 H11 =>
    K (.tuple #[(σ11 5), (σ11 6)]) H11) fun J11 =>
  ob (vNilC a0) fun v29x12 =>
  ob (vFa 2 v29x12) fun v30x13 =>
  ob (vLoad v30x13 H10) fun v31x14 =>
  ob (vLenSl v31x14) fun v32x15 =>
  lpE (fun Q16 σ16 H16 =>
    ob (vInt .lss (σ16 33) (σ16 32)) fun v34x17 =>
    cnd v34x17
      (jn (fun σ18 H18 =>
      ob (vInt .add (σ18 33) (.int .i64 1)) fun v174x19 =>
      Q16 .normal (up (up σ18 174 v174x19) 33 v174x19) H18) fun J18 =>
    ob (vNilC (σ16 0)) fun v37x20 =>
    ob (vFa 2 v37x20) fun v38x21 =>
    ob (vLoad v38x21 H16) fun v39x22 =>
    ob (vIx 1 v39x22 (σ16 33)) fun v41x23 =>
    ob (vLoad v41x23 H16) fun v42x24 =>
    ob (vInt .neq v42x24 (.int .i64 1)) fun v43x25 =>
    gop v43x25 false (fun K26 => K26 (σ16 4) H16) H16 fun v45x27 H28 =>
    gop v43x25 false (fun K29 => K29 (σ16 33) H28) H28 fun v46x30 H31 =>
    gop v43x25 false (fun K32 => ob (vIx 1 v45x27 v46x30) fun u => K32 u H31) H31 fun v47x33 H34 =>
    gop v43x25 false (fun K35 => ob (vLoad v47x33 H34) fun u => K35 u H34) H34 fun v48x36 H37 =>
    ob (vPick v43x25 (.bool true) v48x36) fun v49x38 =>
    cnd v49x38
      (J18 (up (up (up (up (up (up (up (up (up (up (up (up (up (up (up (up (up σ16 34 v34x17) 35 (σ16 33)) 7 (σ16 33)) 36 (σ16 0)) 37 v37x20) 38 v38x21) 39 v39x22) 40 (σ16 33)) 41 v41x23) 42 v42x24) 43 v43x25) 44 v43x25) 45 v45x27) 46 v46x30) 47 v47x33) 48 v48x36) 49 v49x38) H37)
      (ob (vNilC (σ16 0)) fun v51x39 =>
    ob (vFa 0 v51x39) fun v52x40 =>
    ob (vLoad v52x40 H37) fun v53x41 =>
    ob (vNilC (σ16 0)) fun v55x42 =>
    ob (vFa 1 v55x42) fun v56x43 =>
    ob (vLoad v56x43 H37) fun v57x44 =>
    HT prg I.spec_l04New [v53x41, v57x44].toArray H37 fun v58x45 H46 =>
    Le H37 H46 ∧ (nw #[(.int .i64 0), (.int .i64 0), (.slice none 0 0)] 44 H46 fun v8x47 H48 =>
    st 3 v8x47 v58x45 H48 fun H49 =>
    bS 1 1 #[(.int .i64 0)] 2 [(0, (σ16 33))] H49 fun v60x50 H51 =>
    ob (vIx 1 (σ16 4) (σ16 33)) fun v63x52 =>
    st 1 v63x52 (.bool true) H51 fun H53 =>
    jn (fun σ54 H54 =>
      HT prg I.spec_l05Trim [(σ54 8)].toArray H54 fun v160x55 H56 =>
      ob (vExt v160x55 0) fun v161x57 =>
      ob (vExt v160x55 1) fun v162x58 =>
      ob (vExt v160x55 2) fun v163x59 =>
      ob (vExt v160x55 3) fun v164x60 =>
      nw #[(.int .i64 0), (.int .i64 0), (.slice none 0 0)] 44 H56 fun v16x61 H62 =>
      st 3 v16x61 v161x57 H62 fun H63 =>
      ob (vLoadN 3 v16x61 H63) fun v166x64 =>
      bS 3 1 #[(.int .i64 0), (.int .i64 0), (.slice none 0 0)] 44 [(0, v166x64)] H63 fun v167x65 H66 =>
      apd 3 40 #[(.int .i64 0), (.int .i64 0), (.slice none 0 0)] 44 (σ54 5) v167x65 H66 fun v168x67 H68 =>
      bS 1 2 #[(.int .i64 0)] 2 [(0, v162x58), (1, v163x59)] H68 fun v172x69 H70 =>
      apd 1 8 #[(.int .i64 0)] 2 (σ54 6) v172x69 H70 fun v173x71 H72 =>
      J18 (up (up (up (up (up (up (up (up (up (up (up (up (up (up (up (up (up (up (up (up (up σ54 160 v160x55) 159 v160x55) 161 v161x57) 162 v162x58) 163 v163x59) 164 v164x60) 16 v16x61) 17 v162x58) 18 v163x59) 19 v164x60) 165 (σ54 5)) 166 v166x64) 167 v167x65) 168 v168x67) 5 v168x67) 169 (σ54 6)) 170 v162x58) 171 v163x59) 172 v172x69) 173 v173x71) 6 v173x71) H72) fun J54 =>
    lpE (fun Q73 σ73 H73 =>
      ob (vLenSl (σ73 9)) fun v66x74 =>
      ob (vInt .lss (σ73 10) v66x74) fun v67x75 =>
      cnd v67x75
        (jn (fun σ76 H76 =>
        ob (vInt .add (σ76 10) (.int .i64 1)) fun v69x77 =>
        Q73 .normal (up (up (up σ76 68 (σ76 10)) 69 v69x77) 10 v69x77) H76) fun J76 =>
      ob (vFa 2 (σ73 8)) fun v70x78 =>
      ob (vLoad v70x78 H73) fun v71x79 =>
      ob (vIx 1 (σ73 9) (σ73 10)) fun v74x80 =>
      ob (vLoad v74x80 H73) fun v75x81 =>
      ob (vIx 1 v71x79 v75x81) fun v76x82 =>
      st 1 v76x82 (.int .i64 1) H73 fun H83 =>
      ob (vIx 1 (σ73 9) (σ73 10)) fun v79x84 =>
      ob (vLoad v79x84 H83) fun v80x85 =>
      ob (vNilC (σ73 0)) fun v82x86 =>
      ob (vFa 1 v82x86) fun v83x87 =>
      ob (vLoad v83x87 H83) fun v84x88 =>
      ob (vInt .quo v80x85 v84x88) fun v85x89 =>
      ob (vIx 1 (σ73 9) (σ73 10)) fun v88x90 =>
      ob (vLoad v88x90 H83) fun v89x91 =>
      ob (vNilC (σ73 0)) fun v91x92 =>
      ob (vFa 1 v91x92) fun v92x93 =>
      ob (vLoad v92x93 H83) fun v93x94 =>
      ob (vInt .rem v89x91 v93x94) fun v94x95 =>
      ob (vInt .sub v85x89 (.int .i64 1)) fun v96x96 =>
      lpE (fun Q97 σ97 H97 =>
        ob (vInt .add (σ97 11) (.int .i64 1)) fun v99x98 =>
        ob (vInt .leq (σ97 13) v99x98) fun v100x99 =>
        cnd v100x99
          (jn (fun σ100 H100 =>
          ob (vInt .add (σ100 13) (.int .i64 1)) fun v102x101 =>
          Q97 .normal (up (up (up σ100 101 (σ100 13)) 102 v102x101) 13 v102x101) H100) fun J100 =>
        ob (vInt .sub (σ97 12) (.int .i64 1)) fun v104x102 =>
        lpE (fun Q103 σ103 H103 =>
          ob (vInt .add (σ103 12) (.int .i64 1)) fun v107x104 =>
          ob (vInt .leq (σ103 14) v107x104) fun v108x105 =>
          cnd v108x105
            (ob (vNilC (σ103 0)) fun v113x106 =>
          ob (vFa 0 v113x106) fun v114x107 =>
          ob (vLoad v114x107 H103) fun v115x108 =>
          ob (vInt .sub v115x108 (.int .i64 1)) fun v116x109 =>
          HT prg I.spec_l00In [(σ103 13), (.int .i64 0), v116x109].toArray H103 fun v117x110 H111 =>
          ob (vUn .not v117x110) fun v118x112 =>
          gop v118x112 false (fun K113 => K113 (σ103 14) H111) H111 fun v120x114 H115 =>
          gop v118x112 false (fun K116 => K116 (σ103 0) H115) H115 fun v121x117 H118 =>
          gop v118x112 false (fun K119 => ob (vNilC v121x117) fun u => K119 u H118) H118 fun v122x120 H121 =>
          gop v118x112 false (fun K122 => ob (vFa 1 v122x120) fun u => K122 u H121) H121 fun v123x123 H124 =>
          gop v118x112 false (fun K125 => ob (vLoad v123x123 H124) fun u => K125 u H124) H124 fun v124x126 H127 =>
          gop v118x112 false (fun K128 => ob (vInt .sub v124x126 (.int .i64 1)) fun u => K128 u H127) H127 fun v125x129 H130 =>
          gop v118x112 false (fun K131 => HT prg I.spec_l00In [v120x114, (.int .i64 0), v125x129].toArray H130 K131) H130 fun v126x132 H133 =>
          gop v118x112 false (fun K134 => ob (vUn .not v126x132) fun u => K134 u H133) H133 fun v127x135 H136 =>
          ob (vPick v118x112 (.bool true) v127x135) fun v128x137 =>
          cnd v128x137
            (ob (vInt .add (σ103 14) (.int .i64 1)) fun v110x138 =>
          Q103 .normal (up (up (up (up (up (up (up (up (up (up (up (up (up (up (up (up (up (up (up (up (up (up (up (up (up σ103 105 (σ103 14)) 106 (σ103 12)) 107 v107x104) 108 v108x105) 111 (σ103 13)) 112 (σ103 0)) 113 v113x106) 114 v114x107) 115 v115x108) 116 v116x109) 117 v117x110) 118 v118x112) 119 v118x112) 120 v120x114) 121 v121x117) 122 v122x120) 123 v123x123) 124 v124x126) 125 v125x129) 126 v126x132) 127 v127x135) 128 v128x137) 109 (σ103 14)) 110 v110x138) 14 v110x138) H136)
            (ob (vNilC (σ103 0)) fun v131x139 =>
          ob (vFa 1 v131x139) fun v132x140 =>
          ob (vLoad v132x140 H136) fun v133x141 =>
          ob (vInt .mul (σ103 13) v133x141) fun v134x142 =>
          ob (vInt .add v134x142 (σ103 14)) fun v136x143 =>
          ob (vNilC (σ103 0)) fun v138x144 =>
          ob (vFa 2 v138x144) fun v139x145 =>
          ob (vLoad v139x145 H136) fun v140x146 =>
          ob (vIx 1 v140x146 v136x143) fun v142x147 =>
          ob (vLoad v142x147 H136) fun v143x148 =>
          ob (vInt .eql v143x148 (.int .i64 1)) fun v144x149 =>
          gop v144x149 true (fun K150 => K150 (σ103 4) H136) H136 fun v146x151 H152 =>
          gop v144x149 true (fun K153 => K153 v136x143 H152) H152 fun v147x154 H155 =>
          gop v144x149 true (fun K156 => ob (vIx 1 v146x151 v147x154) fun u => K156 u H155) H155 fun v148x157 H158 =>
          gop v144x149 true (fun K159 => ob (vLoad v148x157 H158) fun u => K159 u H158) H158 fun v149x160 H161 =>
          gop v144x149 true (fun K162 => ob (vUn .not v149x160) fun u => K162 u H161) H161 fun v150x163 H164 =>
          ob (vPick v144x149 v150x163 (.bool false)) fun v151x165 =>
          cnd v151x165
            (ob (vIx 1 (σ103 4) v136x143) fun v154x166 =>
            st 1 v154x166 (.bool true) H164 fun H167 =>
            bS 1 1 #[(.int .i64 0)] 2 [(0, v136x143)] H167 fun v157x168 H169 =>
            apd 1 8 #[(.int .i64 0)] 2 (σ103 9) v157x168 H169 fun v158x170 H171 =>
            ob (vInt .add (σ103 14) (.int .i64 1)) fun v110x172 =>
          Q103 .normal (up (up (up (up (up (up (up (up (up (up (up (up (up (up (up (up (up (up (up (up (up (up (up (up (up (up (up (up (up (up (up (up (up (up (up (up (up (up (up (up (up (up (up (up (up (up (up (up (up (up (up (up (up (up (up (up (up σ103 105 (σ103 14)) 106 (σ103 12)) 107 v107x104) 108 v108x105) 111 (σ103 13)) 112 (σ103 0)) 113 v113x106) 114 v114x107) 115 v115x108) 116 v116x109) 117 v117x110) 118 v118x112) 119 v118x112) 120 v120x114) 121 v121x117) 122 v122x120) 123 v123x123) 124 v124x126) 125 v125x129) 126 v126x132) 127 v127x135) 128 v128x137) 129 (σ103 13)) 130 (σ103 0)) 131 v131x139) 132 v132x140) 133 v133x141) 134 v134x142) 135 (σ103 14)) 136 v136x143) 15 v136x143) 137 (σ103 0)) 138 v138x144) 139 v139x145) 140 v140x146) 141 v136x143) 142 v142x147) 143 v143x148) 144 v144x149) 145 v144x149) 146 v146x151) 147 v147x154) 148 v148x157) 149 v149x160) 150 v150x163) 151 v151x165) 152 (σ103 4)) 153 v136x143) 154 v154x166) 155 (σ103 9)) 156 v136x143) 157 v157x168) 158 v158x170) 9 v158x170) 109 (σ103 14)) 110 v110x172) 14 v110x172) H171)
            (ob (vInt .add (σ103 14) (.int .i64 1)) fun v110x173 =>
          Q103 .normal (up (up (up (up (up (up (up (up (up (up (up (up (up (up (up (up (up (up (up (up (up (up (up (up (up (up (up (up (up (up (up (up (up (up (up (up (up (up (up (up (up (up (up (up (up (up (up (up (up σ103 105 (σ103 14)) 106 (σ103 12)) 107 v107x104) 108 v108x105) 111 (σ103 13)) 112 (σ103 0)) 113 v113x106) 114 v114x107) 115 v115x108) 116 v116x109) 117 v117x110) 118 v118x112) 119 v118x112) 120 v120x114) 121 v121x117) 122 v122x120) 123 v123x123) 124 v124x126) 125 v125x129) 126 v126x132) 127 v127x135) 128 v128x137) 129 (σ103 13)) 130 (σ103 0)) 131 v131x139) 132 v132x140) 133 v133x141) 134 v134x142) 135 (σ103 14)) 136 v136x143) 15 v136x143) 137 (σ103 0)) 138 v138x144) 139 v139x145) 140 v140x146) 141 v136x143) 142 v142x147) 143 v143x148) 144 v144x149) 145 v144x149) 146 v146x151) 147 v147x154) 148 v148x157) 149 v149x160) 150 v150x163) 151 v151x165) 109 (σ103 14)) 110 v110x173) 14 v110x173) H164)))
            (Q103 (.exit 6) (up (up (up (up σ103 105 (σ103 14)) 106 (σ103 12)) 107 v107x104) 108 v108x105) H103)) (blkQ 6 (blkQ 5 (thenQ J100 Q97))) (up (up (up (up (up (up (up σ97 97 (σ97 13)) 98 (σ97 11)) 99 v99x98) 100 v100x99) 103 (σ97 12)) 104 v104x102) 14 v104x102) H97)
          (Q97 (.exit 4) (up (up (up (up σ97 97 (σ97 13)) 98 (σ97 11)) 99 v99x98) 100 v100x99) H97)) (blkQ 4 (blkQ 3 (thenQ J76 Q73))) (up (up (up (up (up (up (up (up (up (up (up (up (up (up (up (up (up (up (up (up (up (up (up (up (up (up (up (up (up (up (up (up (up (up σ73 64 (σ73 10)) 65 (σ73 9)) 66 v66x74) 67 v67x75) 70 v70x78) 71 v71x79) 72 (σ73 9)) 73 (σ73 10)) 74 v74x80) 75 v75x81) 76 v76x82) 77 (σ73 9)) 78 (σ73 10)) 79 v79x84) 80 v80x85) 81 (σ73 0)) 82 v82x86) 83 v83x87) 84 v84x88) 85 v85x89) 11 v85x89) 86 (σ73 9)) 87 (σ73 10)) 88 v88x90) 89 v89x91) 90 (σ73 0)) 91 v91x92) 92 v92x93) 93 v93x94) 94 v94x95) 12 v94x95) 95 v85x89) 96 v96x96) 13 v96x96) H83)
        (Q73 (.exit 2) (up (up (up (up σ73 64 (σ73 10)) 65 (σ73 9)) 66 v66x74) 67 v67x75) H73)) (blkQ 2 (thenQ J54 (blkQ 1 (thenQ J18 Q16)))) (up (up (up (up (up (up (up (up (up (up (up (up (up (up (up (up (up (up (up (up (up (up (up (up (up (up (up (up (up (up (up (up (up (up σ16 34 v34x17) 35 (σ16 33)) 7 (σ16 33)) 36 (σ16 0)) 37 v37x20) 38 v38x21) 39 v39x22) 40 (σ16 33)) 41 v41x23) 42 v42x24) 43 v43x25) 44 v43x25) 45 v45x27) 46 v46x30) 47 v47x33) 48 v48x36) 49 v49x38) 50 (σ16 0)) 51 v51x39) 52 v52x40) 53 v53x41) 54 (σ16 0)) 55 v55x42) 56 v56x43) 57 v57x44) 58 v58x45) 8 v8x47) 59 (σ16 33)) 60 v60x50) 9 v60x50) 61 (σ16 4)) 62 (σ16 33)) 63 v63x52) 10 (.int .i64 0)) H53)))
      (Q16 (.exit 0) (up σ16 34 v34x17) H16)) (blkQ 0 (thenQ J11 (retQ prg [(.tmp 2), (.tmp 3)] K))) (up (up (up (up (up (up (up (up (up (up (up (up (up (up (up (up (up (up (up (S0 [a0]) 2 (.slice none 0 0)) 3 (.slice none 0 0)) 20 a0) 21 v21x1) 22 v22x2) 23 v23x3) 24 v24x4) 25 v25x5) 4 v25x5) 26 v26x7) 5 v26x7) 27 v27x9) 6 v27x9) 28 a0) 29 v29x12) 30 v30x13) 31 v31x14) 32 v32x15) 33 (.int .i64 0)) H10
def O.spec_l05Parts : Nat → Nat × List Nat := fun i => bif Nat.beq i 8 then (0, [0, 1, 2, 3, 4, 5, 6, 7, 8, 9, 10]) else bif Nat.beq i 14 then (0, [0, 1, 2, 3, 4, 5, 6, 7]) else bif Nat.beq i 15 then (0, [0, 1, 2, 3, 4, 5, 6, 7, 8, 9]) else bif Nat.beq i 16 then (0, [0, 1, 2, 3, 4, 5, 6, 7, 8, 9]) else (0, [])
theorem R.spec_l05Parts {a0 : Value} {H : Hp} {K : Value → Hp → Prop} (h : F.spec_l05Parts a0 H K) : HT prg I.spec_l05Parts [a0].toArray H K :=
  HT_of_fev O.spec_l05Parts mixed Tryz.func43 (by kernel_rfl) (Eq.mpr (by kernel_rfl : fev prg O.spec_l05Parts Tryz.f43 [a0] H K = F.spec_l05Parts a0 H K) h)

/-! loop.example/g01381/spec.l05Turn: function 99 -/
def F.spec_l05Turn (a0 : Value) (H : Hp) (K : Value → Hp → Prop) : Prop :=
  nw #[(.int .i64 0), (.int .i64 0), (.slice none 0 0)] 44 H fun v2x1 H2 =>
  ob (vNilC a0) fun v7x3 =>
  ob (vFa 1 v7x3) fun v8x4 =>
  ob (vLoad v8x4 H2) fun v9x5 =>
  ob (vNilC a0) fun v11x6 =>
  ob (vFa 0 v11x6) fun v12x7 =>
  ob (vLoad v12x7 H2) fun v13x8 =>
  HT prg I.spec_l04New [v9x5, v13x8].toArray H2 fun v14x9 H10 =>
  Le H2 H10 ∧ (nw #[(.int .i64 0), (.int .i64 0), (.slice none 0 0)] 44 H10 fun v3x11 H12 =>
  st 3 v3x11 v14x9 H12 fun H13 =>
  jn (fun σ14 H14 =>
    ob (vLoadN 3 (σ14 3) H14) fun v56x15 =>
    st 3 (σ14 2) v56x15 H14 fun H16 =>
    ob (vLoadN 3 (σ14 2) H16) fun u17 => K u17 H16) fun J14 =>
  lpE (fun Q18 σ18 H18 =>
    ob (vFa 0 (σ18 3)) fun v16x19 =>
    ob (vLoad v16x19 H18) fun v17x20 =>
    ob (vInt .lss (σ18 4) v17x20) fun v18x21 =>
    cnd v18x21
      (jn (fun σ22 H22 =>
      ob (vInt .add (σ22 4) (.int .i64 1)) fun v20x23 =>
      Q18 .normal (up (up (up σ22 19 (σ22 4)) 20 v20x23) 4 v20x23) H22) fun J22 =>
    lpE (fun Q24 σ24 H24 =>
      ob (vFa 1 (σ24 3)) fun v22x25 =>
      ob (vLoad v22x25 H24) fun v23x26 =>
      ob (vInt .lss (σ24 5) v23x26) fun v24x27 =>
      cnd v24x27
        (ob (vFa 2 (σ24 3)) fun v27x28 =>
      ob (vLoad v27x28 H24) fun v28x29 =>
      ob (vFa 1 (σ24 3)) fun v30x30 =>
      ob (vLoad v30x30 H24) fun v31x31 =>
      ob (vInt .mul (σ24 4) v31x31) fun v32x32 =>
      ob (vInt .add v32x32 (σ24 5)) fun v34x33 =>
      ob (vNilC (σ24 0)) fun v36x34 =>
      ob (vFa 2 v36x34) fun v37x35 =>
      ob (vLoad v37x35 H24) fun v38x36 =>
      ob (vNilC (σ24 0)) fun v40x37 =>
      ob (vFa 0 v40x37) fun v41x38 =>
      ob (vLoad v41x38 H24) fun v42x39 =>
      ob (vInt .sub v42x39 (.int .i64 1)) fun v43x40 =>
      ob (vInt .sub v43x40 (σ24 5)) fun v45x41 =>
      ob (vNilC (σ24 0)) fun v47x42 =>
      ob (vFa 1 v47x42) fun v48x43 =>
      ob (vLoad v48x43 H24) fun v49x44 =>
      ob (vInt .mul v45x41 v49x44) fun v50x45 =>
      ob (vInt .add v50x45 (σ24 4)) fun v52x46 =>
      ob (vIx 1 v38x36 v52x46) fun v53x47 =>
      ob (vLoad v53x47 H24) fun v54x48 =>
      ob (vIx 1 v28x29 v34x33) fun v55x49 =>
      st 1 v55x49 v54x48 H24 fun H50 =>
      ob (vInt .add (σ24 5) (.int .i64 1)) fun v26x51 =>
      Q24 .normal (up (up (up (up (up (up (up (up (up (up (up (up (up (up (up (up (up (up (up (up (up (up (up (up (up (up (up (up (up (up (up (up (up (up (up (up σ24 21 (σ24 5)) 22 v22x25) 23 v23x26) 24 v24x27) 27 v27x28) 28 v28x29) 29 (σ24 4)) 30 v30x30) 31 v31x31) 32 v32x32) 33 (σ24 5)) 34 v34x33) 35 (σ24 0)) 36 v36x34) 37 v37x35) 38 v38x36) 39 (σ24 0)) 40 v40x37) 41 v41x38) 42 v42x39) 43 v43x40) 44 (σ24 5)) 45 v45x41) 46 (σ24 0)) 47 v47x42) 48 v48x43) 49 v49x44) 50 v50x45) 51 (σ24 4)) 52 v52x46) 53 v53x47) 54 v54x48) 55 v55x49) 25 (σ24 5)) 26 v26x51) 5 v26x51) H50)
        (Q24 (.exit 2) (up (up (up (up σ24 21 (σ24 5)) 22 v22x25) 23 v23x26) 24 v24x27) H24)) (blkQ 2 (blkQ 1 (thenQ J22 Q18))) (up (up (up (up (up σ18 15 (σ18 4)) 16 v16x19) 17 v17x20) 18 v18x21) 5 (.int .i64 0)) H18)
      (Q18 (.exit 0) (up (up (up (up σ18 15 (σ18 4)) 16 v16x19) 17 v17x20) 18 v18x21) H18)) (blkQ 0 (thenQ J14 (retQ prg [(.cell 2 44)] K))) (up (up (up (up (up (up (up (up (up (up (up (up (S0 [a0]) 2 v2x1) 6 a0) 7 v7x3) 8 v8x4) 9 v9x5) 10 a0) 11 v11x6) 12 v12x7) 13 v13x8) 14 v14x9) 3 v3x11) 4 (.int .i64 0)) H13)
def O.spec_l05Turn : Nat → Nat × List Nat := fun i => bif Nat.beq i 1 then (0, [0, 1, 2, 3, 4, 5, 6, 7, 8, 9, 10]) else bif Nat.beq i 8 then (0, [0, 1, 2, 3, 4, 5, 6, 7, 8, 9, 10, 11, 12, 13, 14, 15, 16, 17, 18, 19, 20, 21, 22, 23, 24, 25, 26, 27, 28, 29]) else (0, [])
theorem R.spec_l05Turn {a0 : Value} {H : Hp} {K : Value → Hp → Prop} (h : F.spec_l05Turn a0 H K) : HT prg I.spec_l05Turn [a0].toArray H K :=
  HT_of_fev O.spec_l05Turn mixed Tryz.func99 (by kernel_rfl) (Eq.mpr (by kernel_rfl : fev prg O.spec_l05Turn Tryz.f99 [a0] H K = F.spec_l05Turn a0 H K) h)

/-! loop.example/g01381/spec.l05Mirror: function 100 -/
def F.spec_l05Mirror (a0 : Value) (H : Hp) (K : Value → Hp → Prop) : Prop :=
  nw #[(.int .i64 0), (.int .i64 0), (.slice none 0 0)] 44 H fun v2x1 H2 =>
  ob (vNilC a0) fun v7x3 =>
  ob (vFa 0 v7x3) fun v8x4 =>
  ob (vLoad v8x4 H2) fun v9x5 =>
  ob (vNilC a0) fun v11x6 =>
  ob (vFa 1 v11x6) fun v12x7 =>
  ob (vLoad v12x7 H2) fun v13x8 =>
  HT prg I.spec_l04New [v9x5, v13x8].toArray H2 fun v14x9 H10 =>
  Le H2 H10 ∧ (nw #[(.int .i64 0), (.int .i64 0), (.slice none 0 0)] 44 H10 fun v3x11 H12 =>
  st 3 v3x11 v14x9 H12 fun H13 =>
  jn (fun σ14 H14 =>
    ob (vLoadN 3 (σ14 3) H14) fun v58x15 =>
    st 3 (σ14 2) v58x15 H14 fun H16 =>
    ob (vLoadN 3 (σ14 2) H16) fun u17 => K u17 H16) fun J14 =>
  lpE (fun Q18 σ18 H18 =>
    ob (vNilC (σ18 0)) fun v17x19 =>
    ob (vFa 0 v17x19) fun v18x20 =>
    ob (vLoad v18x20 H18) fun v19x21 =>
    ob (vInt .lss (σ18 4) v19x21) fun v20x22 =>
    cnd v20x22
      (jn (fun σ23 H23 =>
      ob (vInt .add (σ23 4) (.int .i64 1)) fun v22x24 =>
      Q18 .normal (up (up (up σ23 21 (σ23 4)) 22 v22x24) 4 v22x24) H23) fun J23 =>
    lpE (fun Q25 σ25 H25 =>
      ob (vNilC (σ25 0)) fun v25x26 =>
      ob (vFa 1 v25x26) fun v26x27 =>
      ob (vLoad v26x27 H25) fun v27x28 =>
      ob (vInt .lss (σ25 5) v27x28) fun v28x29 =>
      cnd v28x29
        (ob (vFa 2 (σ25 3)) fun v31x30 =>
      ob (vLoad v31x30 H25) fun v32x31 =>
      ob (vNilC (σ25 0)) fun v35x32 =>
      ob (vFa 1 v35x32) fun v36x33 =>
      ob (vLoad v36x33 H25) fun v37x34 =>
      ob (vInt .mul (σ25 4) v37x34) fun v38x35 =>
      ob (vInt .add v38x35 (σ25 5)) fun v40x36 =>
      ob (vNilC (σ25 0)) fun v42x37 =>
      ob (vFa 2 v42x37) fun v43x38 =>
      ob (vLoad v43x38 H25) fun v44x39 =>
      ob (vInt .add (σ25 4) (.int .i64 1)) fun v46x40 =>
      ob (vNilC (σ25 0)) fun v48x41 =>
      ob (vFa 1 v48x41) fun v49x42 =>
      ob (vLoad v49x42 H25) fun v50x43 =>
      ob (vInt .mul v46x40 v50x43) fun v51x44 =>
      ob (vInt .sub v51x44 (.int .i64 1)) fun v52x45 =>
      ob (vInt .sub v52x45 (σ25 5)) fun v54x46 =>
      ob (vIx 1 v44x39 v54x46) fun v55x47 =>
      ob (vLoad v55x47 H25) fun v56x48 =>
      ob (vIx 1 v32x31 v40x36) fun v57x49 =>
      st 1 v57x49 v56x48 H25 fun H50 =>
      ob (vInt .add (σ25 5) (.int .i64 1)) fun v30x51 =>
      Q25 .normal (up (up (up (up (up (up (up (up (up (up (up (up (up (up (up (up (up (up (up (up (up (up (up (up (up (up (up (up (up (up (up (up (up (up (up (up σ25 23 (σ25 5)) 24 (σ25 0)) 25 v25x26) 26 v26x27) 27 v27x28) 28 v28x29) 31 v31x30) 32 v32x31) 33 (σ25 4)) 34 (σ25 0)) 35 v35x32) 36 v36x33) 37 v37x34) 38 v38x35) 39 (σ25 5)) 40 v40x36) 41 (σ25 0)) 42 v42x37) 43 v43x38) 44 v44x39) 45 (σ25 4)) 46 v46x40) 47 (σ25 0)) 48 v48x41) 49 v49x42) 50 v50x43) 51 v51x44) 52 v52x45) 53 (σ25 5)) 54 v54x46) 55 v55x47) 56 v56x48) 57 v57x49) 29 (σ25 5)) 30 v30x51) 5 v30x51) H50)
        (Q25 (.exit 2) (up (up (up (up (up (up σ25 23 (σ25 5)) 24 (σ25 0)) 25 v25x26) 26 v26x27) 27 v27x28) 28 v28x29) H25)) (blkQ 2 (blkQ 1 (thenQ J23 Q18))) (up (up (up (up (up (up (up σ18 15 (σ18 4)) 16 (σ18 0)) 17 v17x19) 18 v18x20) 19 v19x21) 20 v20x22) 5 (.int .i64 0)) H18)
      (Q18 (.exit 0) (up (up (up (up (up (up σ18 15 (σ18 4)) 16 (σ18 0)) 17 v17x19) 18 v18x20) 19 v19x21) 20 v20x22) H18)) (blkQ 0 (thenQ J14 (retQ prg [(.cell 2 44)] K))) (up (up (up (up (up (up (up (up (up (up (up (up (S0 [a0]) 2 v2x1) 6 a0) 7 v7x3) 8 v8x4) 9 v9x5) 10 a0) 11 v11x6) 12 v12x7) 13 v13x8) 14 v14x9) 3 v3x11) 4 (.int .i64 0)) H13)
def O.spec_l05Mirror : Nat → Nat × List Nat := fun i => bif Nat.beq i 1 then (0, [0, 1, 2, 3, 4, 5, 6, 7, 8, 9, 10]) else bif Nat.beq i 8 then (0, [0, 1, 2, 3, 4, 5, 6, 7, 8, 9, 10, 11, 12, 13, 14, 15, 16, 17, 18, 19, 20, 21, 22, 23, 24, 25, 26, 27]) else (0, [])
theorem R.spec_l05Mirror {a0 : Value} {H : Hp} {K : Value → Hp → Prop} (h : F.spec_l05Mirror a0 H K) : HT prg I.spec_l05Mirror [a0].toArray H K :=
  HT_of_fev O.spec_l05Mirror mixed Tryz.func100 (by kernel_rfl) (Eq.mpr (by kernel_rfl : fev prg O.spec_l05Mirror Tryz.f100 [a0] H K = F.spec_l05Mirror a0 H K) h)

/-! loop.example/g01381/spec.l05Images: function 69 -/
def F.spec_l05Images (a0 : Value) (H : Hp) (K : Value → Hp → Prop) : Prop :=
  bS 3 0 #[(.int .i64 0), (.int .i64 0), (.slice none 0 0)] 44 [] H fun v7x1 H2 =>
  ob (vNilC a0) fun v10x3 =>
  ob (vFa 0 v10x3) fun v11x4 =>
  ob (vLoad v11x4 H2) fun v12x5 =>
  ob (vNilC a0) fun v14x6 =>
  ob (vFa 1 v14x6) fun v15x7 =>
  ob (vLoad v15x7 H2) fun v16x8 =>
  HT prg I.spec_l05Cut [a0, (.int .i64 0), (.int .i64 0), v12x5, v16x8].toArray H2 fun v17x9 H10 =>
  Le H2 H10 ∧ (nw #[(.int .i64 0), (.int .i64 0), (.slice none 0 0)] 44 H10 fun v4x11 H12 =>
  st 3 v4x11 v17x9 H12 fun H13 =>
  jn (fun σ14 H14 =>
    K (σ14 3) H14) fun J14 =>
  lpE (fun Q15 σ15 H15 =>
    ob (vInt .lss (σ15 5) (.int .i64 2)) fun v19x16 =>
    cnd v19x16
      (jn (fun σ17 H17 =>
      ob (vInt .add (σ17 5) (.int .i64 1)) fun v21x18 =>
      Q15 .normal (up (up (up σ17 20 (σ17 5)) 21 v21x18) 5 v21x18) H17) fun J17 =>
    jn (fun σ19 H19 =>
      HT prg I.spec_l05Mirror [(σ19 0)].toArray H19 fun v32x20 H21 =>
      st 3 (σ19 4) v32x20 H21 fun H22 =>
      J17 (up (up σ19 31 (σ19 0)) 32 v32x20) H22) fun J19 =>
    lpE (fun Q23 σ23 H23 =>
      ob (vInt .lss (σ23 6) (.int .i64 4)) fun v23x24 =>
      cnd v23x24
        (ob (vLoadN 3 (σ23 4) H23) fun v27x25 =>
      bS 3 1 #[(.int .i64 0), (.int .i64 0), (.slice none 0 0)] 44 [(0, v27x25)] H23 fun v28x26 H27 =>
      apd 3 40 #[(.int .i64 0), (.int .i64 0), (.slice none 0 0)] 44 (σ23 3) v28x26 H27 fun v29x28 H29 =>
      HT prg I.spec_l05Turn [(σ23 4)].toArray H29 fun v30x30 H31 =>
      st 3 (σ23 4) v30x30 H31 fun H32 =>
      ob (vInt .add (σ23 6) (.int .i64 1)) fun v25x33 =>
      Q23 .normal (up (up (up (up (up (up (up (up (up (up (up σ23 22 (σ23 6)) 23 v23x24) 26 (σ23 3)) 27 v27x25) 28 v28x26) 29 v29x28) 3 v29x28) 30 v30x30) 24 (σ23 6)) 25 v25x33) 6 v25x33) H32)
        (Q23 (.exit 2) (up (up σ23 22 (σ23 6)) 23 v23x24) H23)) (blkQ 2 (thenQ J19 (blkQ 1 (thenQ J17 Q15)))) (up (up (up σ15 18 (σ15 5)) 19 v19x16) 6 (.int .i64 0)) H15)
      (Q15 (.exit 0) (up (up σ15 18 (σ15 5)) 19 v19x16) H15)) (blkQ 0 (thenQ J14 (retQ prg [(.tmp 2)] K))) (up (up (up (up (up (up (up (up (up (up (up (up (up (up (up (S0 [a0]) 2 (.slice none 0 0)) 7 v7x1) 3 v7x1) 8 a0) 9 a0) 10 v10x3) 11 v11x4) 12 v12x5) 13 a0) 14 v14x6) 15 v15x7) 16 v16x8) 17 v17x9) 4 v4x11) 5 (.int .i64 0)) H13)
def O.spec_l05Images : Nat → Nat × List Nat := fun i => bif Nat.beq i 2 then (0, [0, 1, 2, 3, 4, 5, 6, 7, 8, 9, 10, 11]) else (0, [])
theorem R.spec_l05Images {a0 : Value} {H : Hp} {K : Value → Hp → Prop} (h : F.spec_l05Images a0 H K) : HT prg I.spec_l05Images [a0].toArray H K :=
  HT_of_fev O.spec_l05Images mixed Tryz.func69 (by kernel_rfl) (Eq.mpr (by kernel_rfl : fev prg O.spec_l05Images Tryz.f69 [a0] H K = F.spec_l05Images a0 H K) h)

/-! loop.example/g01381/spec.l05Number: function 101 -/
def F.spec_l05Number (a0 : Value) (H : Hp) (K : Value → Hp → Prop) : Prop :=
  ob (vInt .lss a0 (.int .i64 10)) fun v4x1 =>
  cnd v4x1
    (ob (vInt .add (.int .i64 48) a0) fun v6x2 =>
    ob (vCI .u8 v6x2) fun v7x3 =>
    bS 1 1 #[(.int .u8 0)] 5 [(0, v7x3)] H fun v8x4 H5 =>
    ob (val prg (convert 78 9 v8x4) H5) fun v9x6 =>
    K v9x6 H5)
    ((ob (vInt .quo a0 (.int .i64 10)) fun v11x7 =>
  ob (vInt .rem a0 (.int .i64 10)) fun v14x8 =>
  ob (vInt .add (.int .i64 48) v14x8) fun v15x9 =>
  ob (vCI .u8 v15x9) fun v16x10 =>
  HT prg I.spec_l05Number [v11x7].toArray H fun v12x11 H12 =>
  Le H H12 ∧ (bS 1 1 #[(.int .u8 0)] 5 [(0, v16x10)] H12 fun v17x13 H14 =>
  ob (val prg (convert 78 9 v17x13) H14) fun v18x15 =>
  ob (vStr .add v12x11 v18x15) fun v19x16 =>
  K v19x16 H14)) ∧ (ob (vInt .quo a0 (.int .i64 10)) fun v11x17 =>
  ob (vInt .rem a0 (.int .i64 10)) fun v14x18 =>
  ob (vInt .add (.int .i64 48) v14x18) fun v15x19 =>
  ob (vCI .u8 v15x19) fun v16x20 =>
  bS 1 1 #[(.int .u8 0)] 5 [(0, v16x20)] H fun v17x21 H22 =>
  ob (val prg (convert 78 9 v17x21) H22) fun v18x23 =>
  HT prg I.spec_l05Number [v11x17].toArray H22 fun v12x24 H25 =>
  Le H22 H25 ∧ (ob (vStr .add v12x24 v18x23) fun v19x26 =>
  K v19x26 H25)))
def O.spec_l05Number : Nat → Nat × List Nat := fun i => bif Nat.beq i 3 then (0, [1002, 1008, 0, 1, 3, 4, 5, 6, 2, 7, 8, 9, 10, 0, 1, 3, 4, 5, 6, 7, 8, 2, 9, 10]) else (0, [])
theorem R.spec_l05Number {a0 : Value} {H : Hp} {K : Value → Hp → Prop} (h : F.spec_l05Number a0 H K) : HT prg I.spec_l05Number [a0].toArray H K :=
  HT_of_fev O.spec_l05Number mixed Tryz.func101 (by kernel_rfl) (Eq.mpr (by kernel_rfl : fev prg O.spec_l05Number Tryz.f101 [a0] H K = F.spec_l05Number a0 H K) h)

/-! loop.example/g01381/spec.l05Write: function 70 -/
def F.spec_l05Write (a0 : Value) (H : Hp) (K : Value → Hp → Prop) : Prop :=
  ob (vNilC a0) fun v10x1 =>
  ob (vFa 1 v10x1) fun v11x2 =>
  ob (vLoad v11x2 H) fun v12x3 =>
  ob (vNilC a0) fun v16x4 =>
  ob (vFa 0 v16x4) fun v17x5 =>
  ob (vLoad v17x5 H) fun v18x6 =>
  HT prg I.spec_l05Number [v12x3].toArray H fun v13x7 H8 =>
  Le H H8 ∧ (ob (vStr .add v13x7 (.string ⟨#[44]⟩)) fun v14x9 =>
  HT prg I.spec_l05Number [v18x6].toArray H8 fun v19x10 H11 =>
  Le H8 H11 ∧ (ob (vStr .add v14x9 v19x10) fun v20x12 =>
  ob (vStr .add v20x12 (.string ⟨#[58]⟩)) fun v21x13 =>
  jn (fun σ14 H14 =>
    ob (vStr .add (σ14 3) (.string ⟨#[33]⟩)) fun v108x15 =>
    K v108x15 H14) fun J14 =>
  lpE (fun Q16 σ16 H16 =>
    ob (vNilC (σ16 0)) fun v24x17 =>
    ob (vFa 0 v24x17) fun v25x18 =>
    ob (vLoad v25x18 H16) fun v26x19 =>
    ob (vInt .lss (σ16 4) v26x19) fun v27x20 =>
    cnd v27x20
      (jn (fun σ21 H21 =>
      ob (vInt .add (σ21 4) (.int .i64 1)) fun v29x22 =>
      Q16 .normal (up (up (up σ21 28 (σ21 4)) 29 v29x22) 4 v29x22) H21) fun J21 =>
    jn (fun σ23 H23 =>
      ob (vNilC (σ23 0)) fun v35x24 =>
      ob (vFa 2 v35x24) fun v36x25 =>
      ob (vLoad v36x25 H23) fun v37x26 =>
      ob (vNilC (σ23 0)) fun v40x27 =>
      ob (vFa 1 v40x27) fun v41x28 =>
      ob (vLoad v41x28 H23) fun v42x29 =>
      ob (vInt .mul (σ23 4) v42x29) fun v43x30 =>
      ob (vInt .add (σ23 4) (.int .i64 1)) fun v45x31 =>
      ob (vNilC (σ23 0)) fun v47x32 =>
      ob (vFa 1 v47x32) fun v48x33 =>
      ob (vLoad v48x33 H23) fun v49x34 =>
      ob (vInt .mul v45x31 v49x34) fun v50x35 =>
      ob (vSl3 1 v37x26 (some v43x30) (some v50x35) none) fun v51x36 =>
      ob (vLenSl v51x36) fun v53x37 =>
      jn (fun σ38 H38 =>
        lpE (fun Q39 σ39 H39 =>
          ob (vInt .lss (σ39 7) (σ39 6)) fun v68x40 =>
          cnd v68x40
            (jn (fun σ41 H41 =>
            ob (vInt .gtr (σ41 8) (.int .i64 1)) fun v90x42 =>
            cnd v90x42
              (HT prg I.spec_l05Number [(σ41 8)].toArray H41 fun v93x43 H44 =>
              ob (vStr .add (σ41 3) v93x43) fun v94x45 =>
              ob (vIx 1 (σ41 5) (σ41 7)) fun v97x46 =>
            ob (vLoad v97x46 H44) fun v98x47 =>
            ob (vInt .eql v98x47 (.int .i64 1)) fun v99x48 =>
            cnd v99x48
              (ob (vStr .add v94x45 (.string ⟨#[111]⟩)) fun v101x49 =>
              ob (vInt .add (σ41 7) (σ41 8)) fun v106x50 =>
            Q39 .normal (up (up (up (up (up (up (up (up (up (up (up (up (up (up (up (up (up (up (up σ41 89 (σ41 8)) 90 v90x42) 91 (σ41 3)) 92 (σ41 8)) 93 v93x43) 94 v94x45) 3 v94x45) 95 (σ41 5)) 96 (σ41 7)) 97 v97x46) 98 v98x47) 99 v99x48) 100 v94x45) 101 v101x49) 3 v101x49) 104 (σ41 7)) 105 (σ41 8)) 106 v106x50) 7 v106x50) H44)
              (ob (vStr .add v94x45 (.string ⟨#[98]⟩)) fun v103x51 =>
              ob (vInt .add (σ41 7) (σ41 8)) fun v106x52 =>
            Q39 .normal (up (up (up (up (up (up (up (up (up (up (up (up (up (up (up (up (up (up (up σ41 89 (σ41 8)) 90 v90x42) 91 (σ41 3)) 92 (σ41 8)) 93 v93x43) 94 v94x45) 3 v94x45) 95 (σ41 5)) 96 (σ41 7)) 97 v97x46) 98 v98x47) 99 v99x48) 102 v94x45) 103 v103x51) 3 v103x51) 104 (σ41 7)) 105 (σ41 8)) 106 v106x52) 7 v106x52) H44))
              (ob (vIx 1 (σ41 5) (σ41 7)) fun v97x53 =>
            ob (vLoad v97x53 H41) fun v98x54 =>
            ob (vInt .eql v98x54 (.int .i64 1)) fun v99x55 =>
            cnd v99x55
              (ob (vStr .add (σ41 3) (.string ⟨#[111]⟩)) fun v101x56 =>
              ob (vInt .add (σ41 7) (σ41 8)) fun v106x57 =>
            Q39 .normal (up (up (up (up (up (up (up (up (up (up (up (up (up (up σ41 89 (σ41 8)) 90 v90x42) 95 (σ41 5)) 96 (σ41 7)) 97 v97x53) 98 v98x54) 99 v99x55) 100 (σ41 3)) 101 v101x56) 3 v101x56) 104 (σ41 7)) 105 (σ41 8)) 106 v106x57) 7 v106x57) H41)
              (ob (vStr .add (σ41 3) (.string ⟨#[98]⟩)) fun v103x58 =>
              ob (vInt .add (σ41 7) (σ41 8)) fun v106x59 =>
            Q39 .normal (up (up (up (up (up (up (up (up (up (up (up (up (up (up σ41 89 (σ41 8)) 90 v90x42) 95 (σ41 5)) 96 (σ41 7)) 97 v97x53) 98 v98x54) 99 v99x55) 102 (σ41 3)) 103 v103x58) 3 v103x58) 104 (σ41 7)) 105 (σ41 8)) 106 v106x59) 7 v106x59) H41))) fun J41 =>
          lpE (fun Q60 σ60 H60 =>
            ob (vInt .add (σ60 7) (σ60 8)) fun v71x61 =>
            ob (vInt .lss v71x61 (σ60 6)) fun v73x62 =>
            gop v73x62 true (fun K63 => K63 (σ60 5) H60) H60 fun v75x64 H65 =>
            gop v73x62 true (fun K66 => K66 (σ60 7) H65) H65 fun v76x67 H68 =>
            gop v73x62 true (fun K69 => K69 (σ60 8) H68) H68 fun v77x70 H71 =>
            gop v73x62 true (fun K72 => ob (vInt .add v76x67 v77x70) fun u => K72 u H71) H71 fun v78x73 H74 =>
            gop v73x62 true (fun K75 => ob (vIx 1 v75x64 v78x73) fun u => K75 u H74) H74 fun v79x76 H77 =>
            gop v73x62 true (fun K78 => ob (vLoad v79x76 H77) fun u => K78 u H77) H77 fun v80x79 H80 =>
            gop v73x62 true (fun K81 => K81 (σ60 5) H80) H80 fun v81x82 H83 =>
            gop v73x62 true (fun K84 => K84 (σ60 7) H83) H83 fun v82x85 H86 =>
            gop v73x62 true (fun K87 => ob (vIx 1 v81x82 v82x85) fun u => K87 u H86) H86 fun v83x88 H89 =>
            gop v73x62 true (fun K90 => ob (vLoad v83x88 H89) fun u => K90 u H89) H89 fun v84x91 H92 =>
            gop v73x62 true (fun K93 => ob (vInt .eql v80x79 v84x91) fun u => K93 u H92) H92 fun v85x94 H95 =>
            ob (vPick v73x62 v85x94 (.bool false)) fun v86x96 =>
            cnd v86x96
              (ob (vInt .add (σ60 8) (.int .i64 1)) fun v88x97 =>
            Q60 .normal (up (up (up (up (up (up (up (up (up (up (up (up (up (up (up (up (up (up (up (up (up σ60 69 (σ60 7)) 70 (σ60 8)) 71 v71x61) 72 (σ60 6)) 73 v73x62) 74 v73x62) 75 v75x64) 76 v76x67) 77 v77x70) 78 v78x73) 79 v79x76) 80 v80x79) 81 v81x82) 82 v82x85) 83 v83x88) 84 v84x91) 85 v85x94) 86 v86x96) 87 (σ60 8)) 88 v88x97) 8 v88x97) H95)
              (Q60 (.exit 6) (up (up (up (up (up (up (up (up (up (up (up (up (up (up (up (up (up (up σ60 69 (σ60 7)) 70 (σ60 8)) 71 v71x61) 72 (σ60 6)) 73 v73x62) 74 v73x62) 75 v75x64) 76 v76x67) 77 v77x70) 78 v78x73) 79 v79x76) 80 v80x79) 81 v81x82) 82 v82x85) 83 v83x88) 84 v84x91) 85 v85x94) 86 v86x96) H95)) (blkQ 6 (thenQ J41 (blkQ 5 Q39))) (up (up (up (up σ39 66 (σ39 7)) 67 (σ39 6)) 68 v68x40) 8 (.int .i64 1)) H39)
            (Q39 (.exit 4) (up (up (up σ39 66 (σ39 7)) 67 (σ39 6)) 68 v68x40) H39)) (blkQ 4 (blkQ 1 (thenQ J21 Q16))) (up σ38 7 (.int .i64 0)) H38) fun J38 =>
      lpE (fun Q98 σ98 H98 =>
        ob (vInt .gtr (σ98 6) (.int .i64 0)) fun v55x99 =>
        gop v55x99 true (fun K100 => K100 (σ98 5) H98) H98 fun v57x101 H102 =>
        gop v55x99 true (fun K103 => K103 (σ98 6) H102) H102 fun v58x104 H105 =>
        gop v55x99 true (fun K106 => ob (vInt .sub v58x104 (.int .i64 1)) fun u => K106 u H105) H105 fun v59x107 H108 =>
        gop v55x99 true (fun K109 => ob (vIx 1 v57x101 v59x107) fun u => K109 u H108) H108 fun v60x110 H111 =>
        gop v55x99 true (fun K112 => ob (vLoad v60x110 H111) fun u => K112 u H111) H111 fun v61x113 H114 =>
        gop v55x99 true (fun K115 => ob (vInt .eql v61x113 (.int .i64 0)) fun u => K115 u H114) H114 fun v62x116 H117 =>
        ob (vPick v55x99 v62x116 (.bool false)) fun v63x118 =>
        cnd v63x118
          (ob (vInt .sub (σ98 6) (.int .i64 1)) fun v65x119 =>
        Q98 .normal (up (up (up (up (up (up (up (up (up (up (up (up (up σ98 54 (σ98 6)) 55 v55x99) 56 v55x99) 57 v57x101) 58 v58x104) 59 v59x107) 60 v60x110) 61 v61x113) 62 v62x116) 63 v63x118) 64 (σ98 6)) 65 v65x119) 6 v65x119) H117)
          (Q98 (.exit 2) (up (up (up (up (up (up (up (up (up (up σ98 54 (σ98 6)) 55 v55x99) 56 v55x99) 57 v57x101) 58 v58x104) 59 v59x107) 60 v60x110) 61 v61x113) 62 v62x116) 63 v63x118) H117)) (blkQ 2 (thenQ J38 (blkQ 1 (thenQ J21 Q16)))) (up (up (up (up (up (up (up (up (up (up (up (up (up (up (up (up (up (up (up (up (up (up σ23 34 (σ23 0)) 35 v35x24) 36 v36x25) 37 v37x26) 38 (σ23 4)) 39 (σ23 0)) 40 v40x27) 41 v41x28) 42 v42x29) 43 v43x30) 44 (σ23 4)) 45 v45x31) 46 (σ23 0)) 47 v47x32) 48 v48x33) 49 v49x34) 50 v50x35) 51 v51x36) 5 v51x36) 52 v51x36) 53 v53x37) 6 v53x37) H23) fun J23 =>
    ob (vInt .gtr (σ16 4) (.int .i64 0)) fun v31x120 =>
    cnd v31x120
      (ob (vStr .add (σ16 3) (.string ⟨#[36]⟩)) fun v33x121 =>
      J23 (up (up (up (up (up (up (up (up (up (up (up σ16 22 (σ16 4)) 23 (σ16 0)) 24 v24x17) 25 v25x18) 26 v26x19) 27 v27x20) 30 (σ16 4)) 31 v31x120) 32 (σ16 3)) 33 v33x121) 3 v33x121) H16)
      (J23 (up (up (up (up (up (up (up (up σ16 22 (σ16 4)) 23 (σ16 0)) 24 v24x17) 25 v25x18) 26 v26x19) 27 v27x20) 30 (σ16 4)) 31 v31x120) H16))
      (Q16 (.exit 0) (up (up (up (up (up (up σ16 22 (σ16 4)) 23 (σ16 0)) 24 v24x17) 25 v25x18) 26 v26x19) 27 v27x20) H16)) (blkQ 0 (thenQ J14 (retQ prg [(.tmp 2)] K))) (up (up (up (up (up (up (up (up (up (up (up (up (up (up (up (up (S0 [a0]) 2 (.string ⟨#[]⟩)) 9 a0) 10 v10x1) 11 v11x2) 12 v12x3) 15 a0) 16 v16x4) 17 v17x5) 18 v18x6) 13 v13x7) 14 v14x9) 19 v19x10) 20 v20x12) 21 v21x13) 3 v21x13) 4 (.int .i64 0)) H11))
def O.spec_l05Write : Nat → Nat × List Nat := fun i => bif Nat.beq i 1 then (0, [0, 1, 2, 3, 6, 7, 8, 9, 4, 5, 10, 11, 12, 13]) else bif Nat.beq i 7 then (0, [0, 1, 2, 3, 4, 5, 6, 7, 8, 9, 10, 11, 12, 13, 14, 15, 16, 17, 18]) else bif Nat.beq i 14 then (0, [0, 1, 2, 3, 4, 5, 6, 7, 8, 9, 10, 11, 12, 13, 14, 15, 16, 17]) else (0, [])
theorem R.spec_l05Write {a0 : Value} {H : Hp} {K : Value → Hp → Prop} (h : F.spec_l05Write a0 H K) : HT prg I.spec_l05Write [a0].toArray H K :=
  HT_of_fev O.spec_l05Write mixed Tryz.func70 (by kernel_rfl) (Eq.mpr (by kernel_rfl : fev prg O.spec_l05Write Tryz.f70 [a0] H K = F.spec_l05Write a0 H K) h)

/-! loop.example/g01381/spec.l05Name: function 44 -/
def F.spec_l05Name (a0 : Value) (H : Hp) (K : Value → Hp → Prop) : Prop :=
  HT prg I.spec_l05Trim [a0].toArray H fun v13x1 H2 =>
  ob (vExt v13x1 0) fun v14x3 =>
  ob (vExt v13x1 1) fun v15x4 =>
  ob (vExt v13x1 2) fun v16x5 =>
  ob (vExt v13x1 3) fun v17x6 =>
  nw #[(.int .i64 0), (.int .i64 0), (.slice none 0 0)] 44 H2 fun v3x7 H8 =>
  st 3 v3x7 v14x3 H8 fun H9 =>
  ob (vUn .not v17x6) fun v19x10 =>
  cnd v19x10
    (K (.string ⟨#[]⟩) H9)
    (HT prg I.spec_l05Images [v3x7].toArray H9 fun v20x11 H12 =>
  jn (fun σ13 H13 =>
    K (σ13 8) H13) fun J13 =>
  ob (vLenSl v20x11) fun v22x14 =>
  lpE (fun Q15 σ15 H15 =>
    ob (vInt .lss (σ15 23) (σ15 22)) fun v24x16 =>
    cnd v24x16
      (ob (vIx 3 (σ15 7) (σ15 23)) fun v28x17 =>
    HT prg I.spec_l05Write [v28x17].toArray H15 fun v29x18 H19 =>
    ob (vInt .eql (σ15 23) (.int .i64 0)) fun v31x20 =>
    gop v31x20 false (fun K21 => K21 v29x18 H19) H19 fun v33x22 H23 =>
    gop v31x20 false (fun K24 => K24 (σ15 8) H23) H23 fun v34x25 H26 =>
    gop v31x20 false (fun K27 => ob (vStr .lss v33x22 v34x25) fun u => K27 u H26) H26 fun v35x28 H29 =>
    ob (vPick v31x20 (.bool true) v35x28) fun v36x30 =>
    cnd v36x30
      (ob (vInt .add (σ15 23) (.int .i64 1)) fun v38x31 =>
    Q15 .normal (up (up (up (up (up (up (up (up (up (up (up (up (up (up (up (up (up (up (up σ15 24 v24x16) 25 (σ15 23)) 9 (σ15 23)) 26 (σ15 7)) 27 (σ15 23)) 28 v28x17) 29 v29x18) 10 v29x18) 30 (σ15 23)) 31 v31x20) 32 v31x20) 33 v33x22) 34 v34x25) 35 v35x28) 36 v36x30) 37 v29x18) 8 v29x18) 38 v38x31) 23 v38x31) H29)
      (ob (vInt .add (σ15 23) (.int .i64 1)) fun v38x32 =>
    Q15 .normal (up (up (up (up (up (up (up (up (up (up (up (up (up (up (up (up (up σ15 24 v24x16) 25 (σ15 23)) 9 (σ15 23)) 26 (σ15 7)) 27 (σ15 23)) 28 v28x17) 29 v29x18) 10 v29x18) 30 (σ15 23)) 31 v31x20) 32 v31x20) 33 v33x22) 34 v34x25) 35 v35x28) 36 v36x30) 38 v38x32) 23 v38x32) H29))
      (Q15 (.exit 0) (up σ15 24 v24x16) H15)) (blkQ 0 (thenQ J13 (retQ prg [(.tmp 2)] K))) (up (up (up (up (up (up (up (up (up (up (up (up (up (up (up (up (up (up (up (up (S0 [a0]) 2 (.string ⟨#[]⟩)) 12 a0) 13 v13x1) 11 v13x1) 14 v14x3) 15 v15x4) 16 v16x5) 17 v17x6) 3 v3x7) 4 v15x4) 5 v16x5) 6 v17x6) 18 v17x6) 19 v19x10) 20 v20x11) 7 v20x11) 8 (.string ⟨#[]⟩)) 21 v20x11) 22 v22x14) 23 (.int .i64 0)) H12)
def O.spec_l05Name : Nat → Nat × List Nat := fun i => (0, [])
theorem R.spec_l05Name {a0 : Value} {H : Hp} {K : Value → Hp → Prop} (h : F.spec_l05Name a0 H K) : HT prg I.spec_l05Name [a0].toArray H K :=
  HT_of_fev O.spec_l05Name mixed Tryz.func44 (by kernel_rfl) (Eq.mpr (by kernel_rfl : fev prg O.spec_l05Name Tryz.f44 [a0] H K = F.spec_l05Name a0 H K) h)

/-! loop.example/g01381/spec.l05Census: function 25 -/
def F.spec_l05Census (a0 : Value) (H : Hp) (K : Value → Hp → Prop) : Prop :=
  HT prg I.spec_l05Parts [a0].toArray H fun v16x1 H2 =>
  ob (vExt v16x1 0) fun v17x3 =>
  ob (vExt v16x1 1) fun v18x4 =>
  bS 1 0 #[(.string ⟨#[]⟩)] 9 [] H2 fun v19x5 H6 =>
  bS 1 0 #[(.int .i64 0)] 2 [] H6 fun v20x7 H8 =>
  jn (fun σ9 H9 =>
    ob (vLenSl (σ9 7)) fun v91x10 =>
    ob (vInt .leq v91x10 (.int .i64 64)) fun v92x11 =>
    K (.tuple #[(σ9 7), (σ9 8), v92x11]) H9) fun J9 =>
  ob (vLenSl v17x3) fun v22x12 =>
  lpE (fun Q13 σ13 H13 =>
    ob (vInt .lss (σ13 23) (σ13 22)) fun v24x14 =>
    cnd v24x14
      (jn (fun σ15 H15 =>
      ob (vInt .add (σ15 23) (.int .i64 1)) fun v87x16 =>
      Q13 .normal (up (up σ15 87 v87x16) 23 v87x16) H15) fun J15 =>
    ob (vIx 3 (σ13 5) (σ13 23)) fun v28x17 =>
    HT prg I.spec_l05Name [v28x17].toArray H13 fun v29x18 H19 =>
    jn (fun σ20 H20 =>
      ob (vLenSl (σ20 7)) fun v46x21 =>
      ob (vInt .lss (σ20 11) v46x21) fun v47x22 =>
      gop v47x22 true (fun K23 => K23 (σ20 7) H20) H20 fun v49x24 H25 =>
      gop v47x22 true (fun K26 => K26 (σ20 11) H25) H25 fun v50x27 H28 =>
      gop v47x22 true (fun K29 => ob (vIx 1 v49x24 v50x27) fun u => K29 u H28) H28 fun v51x30 H31 =>
      gop v47x22 true (fun K32 => ob (vLoad v51x30 H31) fun u => K32 u H31) H31 fun v52x33 H34 =>
      gop v47x22 true (fun K35 => K35 (σ20 10) H34) H34 fun v53x36 H37 =>
      gop v47x22 true (fun K38 => ob (vStr .eql v52x33 v53x36) fun u => K38 u H37) H37 fun v54x39 H40 =>
      ob (vPick v47x22 v54x39 (.bool false)) fun v55x41 =>
      cnd v55x41
        (ob (vIx 1 (σ20 8) (σ20 11)) fun v58x42 =>
        ob (vLoad v58x42 H40) fun v59x43 =>
        ob (vInt .add v59x43 (.int .i64 1)) fun v60x44 =>
        ob (vIx 1 (σ20 8) (σ20 11)) fun v61x45 =>
        st 1 v61x45 v60x44 H40 fun H46 =>
        J15 (up (up (up (up (up (up (up (up (up (up (up (up (up (up (up (up (up (up σ20 44 (σ20 11)) 45 (σ20 7)) 46 v46x21) 47 v47x22) 48 v47x22) 49 v49x24) 50 v50x27) 51 v51x30) 52 v52x33) 53 v53x36) 54 v54x39) 55 v55x41) 56 (σ20 8)) 57 (σ20 11)) 58 v58x42) 59 v59x43) 60 v60x44) 61 v61x45) H46)
        (bS 1 0 #[(.string ⟨#[]⟩)] 9 [] H40 fun v62x47 H48 =>
      ob (vSl3 1 (σ20 7) none (some (σ20 11)) none) fun v65x49 =>
      apd 1 16 #[(.string ⟨#[]⟩)] 9 v62x47 v65x49 H48 fun v66x50 H51 =>
      bS 1 1 #[(.string ⟨#[]⟩)] 9 [(0, (σ20 10))] H51 fun v68x52 H53 =>
      apd 1 16 #[(.string ⟨#[]⟩)] 9 v66x50 v68x52 H53 fun v69x54 H55 =>
      ob (vSl3 1 (σ20 7) (some (σ20 11)) none none) fun v73x56 =>
      apd 1 16 #[(.string ⟨#[]⟩)] 9 v69x54 v73x56 H55 fun v74x57 H58 =>
      bS 1 0 #[(.int .i64 0)] 2 [] H58 fun v75x59 H60 =>
      ob (vSl3 1 (σ20 8) none (some (σ20 11)) none) fun v78x61 =>
      apd 1 8 #[(.int .i64 0)] 2 v75x59 v78x61 H60 fun v79x62 H63 =>
      bS 1 1 #[(.int .i64 0)] 2 [(0, (.int .i64 1))] H63 fun v80x64 H65 =>
      apd 1 8 #[(.int .i64 0)] 2 v79x62 v80x64 H65 fun v81x66 H67 =>
      ob (vSl3 1 (σ20 8) (some (σ20 11)) none none) fun v85x68 =>
      apd 1 8 #[(.int .i64 0)] 2 v81x66 v85x68 H67 fun v86x69 H70 =>
      J15 (up (up (up (up (up (up (up (up (up (up (up (up (up (up (up (up (up (up (up (up (up (up (up (up (up (up (up (up (up (up (up (up (up (up (up (up (up (up (up (up (up σ20 44 (σ20 11)) 45 (σ20 7)) 46 v46x21) 47 v47x22) 48 v47x22) 49 v49x24) 50 v50x27) 51 v51x30) 52 v52x33) 53 v53x36) 54 v54x39) 55 v55x41) 62 v62x47) 63 (σ20 7)) 64 (σ20 11)) 65 v65x49) 66 v66x50) 67 (σ20 10)) 68 v68x52) 69 v69x54) 12 v69x54) 70 v69x54) 71 (σ20 7)) 72 (σ20 11)) 73 v73x56) 74 v74x57) 7 v74x57) 75 v75x59) 76 (σ20 8)) 77 (σ20 11)) 78 v78x61) 79 v79x62) 80 v80x64) 81 v81x66) 13 v81x66) 82 v81x66) 83 (σ20 8)) 84 (σ20 11)) 85 v85x68) 86 v86x69) 8 v86x69) H70)) fun J20 =>
    lpE (fun Q71 σ71 H71 =>
      ob (vLenSl (σ71 7)) fun v32x72 =>
      ob (vInt .lss (σ71 11) v32x72) fun v33x73 =>
      gop v33x73 true (fun K74 => K74 (σ71 7) H71) H71 fun v35x75 H76 =>
      gop v33x73 true (fun K77 => K77 (σ71 11) H76) H76 fun v36x78 H79 =>
      gop v33x73 true (fun K80 => ob (vIx 1 v35x75 v36x78) fun u => K80 u H79) H79 fun v37x81 H82 =>
      gop v33x73 true (fun K83 => ob (vLoad v37x81 H82) fun u => K83 u H82) H82 fun v38x84 H85 =>
      gop v33x73 true (fun K86 => K86 (σ71 10) H85) H85 fun v39x87 H88 =>
      gop v33x73 true (fun K89 => ob (vStr .lss v38x84 v39x87) fun u => K89 u H88) H88 fun v40x90 H91 =>
      ob (vPick v33x73 v40x90 (.bool false)) fun v41x92 =>
      cnd v41x92
        (ob (vInt .add (σ71 11) (.int .i64 1)) fun v43x93 =>
      Q71 .normal (up (up (up (up (up (up (up (up (up (up (up (up (up (up (up σ71 30 (σ71 11)) 31 (σ71 7)) 32 v32x72) 33 v33x73) 34 v33x73) 35 v35x75) 36 v36x78) 37 v37x81) 38 v38x84) 39 v39x87) 40 v40x90) 41 v41x92) 42 (σ71 11)) 43 v43x93) 11 v43x93) H91)
        (Q71 (.exit 2) (up (up (up (up (up (up (up (up (up (up (up (up σ71 30 (σ71 11)) 31 (σ71 7)) 32 v32x72) 33 v33x73) 34 v33x73) 35 v35x75) 36 v36x78) 37 v37x81) 38 v38x84) 39 v39x87) 40 v40x90) 41 v41x92) H91)) (blkQ 2 (thenQ J20 (blkQ 1 (thenQ J15 Q13)))) (up (up (up (up (up (up (up (up (up σ13 24 v24x14) 25 (σ13 23)) 9 (σ13 23)) 26 (σ13 5)) 27 (σ13 23)) 28 v28x17) 29 v29x18) 10 v29x18) 11 (.int .i64 0)) H19)
      (Q13 (.exit 0) (up σ13 24 v24x14) H13)) (blkQ 0 (thenQ J9 (retQ prg [(.tmp 2), (.tmp 3), (.tmp 4)] K))) (up (up (up (up (up (up (up (up (up (up (up (up (up (up (up (up (up (S0 [a0]) 2 (.slice none 0 0)) 3 (.slice none 0 0)) 4 (.bool false)) 15 a0) 16 v16x1) 14 v16x1) 17 v17x3) 18 v18x4) 5 v17x3) 6 v18x4) 19 v19x5) 7 v19x5) 20 v20x7) 8 v20x7) 21 v17x3) 22 v22x12) 23 (.int .i64 0)) H8
def O.spec_l05Census : Nat → Nat × List Nat := fun i => (0, [])
theorem R.spec_l05Census {a0 : Value} {H : Hp} {K : Value → Hp → Prop} (h : F.spec_l05Census a0 H K) : HT prg I.spec_l05Census [a0].toArray H K :=
  HT_of_fev O.spec_l05Census mixed Tryz.func25 (by kernel_rfl) (Eq.mpr (by kernel_rfl : fev prg O.spec_l05Census Tryz.f25 [a0] H K = F.spec_l05Census a0 H K) h)

/-! loop.example/g01381/laws.toInt64S: function 26 -/
def F.laws_toInt64S (a0 : Value) (H : Hp) (K : Value → Hp → Prop) : Prop :=
  ob (vLenSl a0) fun v6x1 =>
  mkS 1 8 #[(.int .i64 0)] 2 v6x1 v6x1 H fun v7x2 H3 =>
  jn (fun σ4 H4 =>
    K (σ4 3) H4) fun J4 =>
  lpE (fun Q5 σ5 H5 =>
    ob (vLenSl (σ5 0)) fun v10x6 =>
    ob (vInt .lss (σ5 4) v10x6) fun v11x7 =>
    cnd v11x7
      (ob (vIx 1 (σ5 0) (σ5 4)) fun v18x8 =>
    ob (vLoad v18x8 H5) fun v19x9 =>
    ob (vIx 1 (σ5 3) (σ5 4)) fun v20x10 =>
    st 1 v20x10 v19x9 H5 fun H11 =>
    ob (vInt .add (σ5 4) (.int .i64 1)) fun v13x12 =>
    Q5 .normal (up (up (up (up (up (up (up (up (up (up (up (up (up (up σ5 8 (σ5 4)) 9 (σ5 0)) 10 v10x6) 11 v11x7) 14 (σ5 3)) 15 (σ5 4)) 16 (σ5 0)) 17 (σ5 4)) 18 v18x8) 19 v19x9) 20 v20x10) 12 (σ5 4)) 13 v13x12) 4 v13x12) H11)
      (Q5 (.exit 0) (up (up (up (up σ5 8 (σ5 4)) 9 (σ5 0)) 10 v10x6) 11 v11x7) H5)) (blkQ 0 (thenQ J4 (retQ prg [(.tmp 2)] K))) (up (up (up (up (up (up (S0 [a0]) 2 (.slice none 0 0)) 5 a0) 6 v6x1) 7 v7x2) 3 v7x2) 4 (.int .i64 0)) H3
def O.laws_toInt64S : Nat → Nat × List Nat := fun i => (0, [])
theorem R.laws_toInt64S {a0 : Value} {H : Hp} {K : Value → Hp → Prop} (h : F.laws_toInt64S a0 H K) : HT prg I.laws_toInt64S [a0].toArray H K :=
  HT_of_fev O.laws_toInt64S mixed Tryz.func26 (by kernel_rfl) (Eq.mpr (by kernel_rfl : fev prg O.laws_toInt64S Tryz.f26 [a0] H K = F.laws_toInt64S a0 H K) h)

/-! loop.example/g01381/laws.toLife: function 7 -/
def F.laws_toLife (a0 : Value) (H : Hp) (K : Value → Hp → Prop) : Prop :=
  nw (a0 : Value).cells 24 H fun v1x1 H2 =>
  nw #[(.slice none 0 0), (.slice none 0 0)] 30 H2 fun v2x3 H4 =>
  nw #[(.slice none 0 0), (.slice none 0 0)] 30 H4 fun v3x5 H6 =>
  ob (vFa 0 v1x1) fun v4x7 =>
  ob (vLoad v4x7 H6) fun v5x8 =>
  HT prg I.laws_toInt64S [v5x8].toArray H6 fun v6x9 H10 =>
  ob (vFa 0 v3x5) fun v7x11 =>
  st 1 v7x11 v6x9 H10 fun H12 =>
  ob (vFa 1 v1x1) fun v8x13 =>
  ob (vLoad v8x13 H12) fun v9x14 =>
  HT prg I.laws_toInt64S [v9x14].toArray H12 fun v10x15 H16 =>
  ob (vFa 1 v3x5) fun v11x17 =>
  st 1 v11x17 v10x15 H16 fun H18 =>
  ob (vLoadN 2 v3x5 H18) fun v12x19 =>
  st 2 v2x3 v12x19 H18 fun H20 =>
  ob (vLoadN 2 v2x3 H20) fun u21 => K u21 H20
def O.laws_toLife : Nat → Nat × List Nat := fun i => (0, [])
theorem R.laws_toLife {a0 : Value} {H : Hp} {K : Value → Hp → Prop} (h : F.laws_toLife a0 H K) : HT prg I.laws_toLife [a0].toArray H K :=
  HT_of_fev O.laws_toLife mixed Tryz.func7 (by kernel_rfl) (Eq.mpr (by kernel_rfl : fev prg O.laws_toLife Tryz.f7 [a0] H K = F.laws_toLife a0 H K) h)

/-! loop.example/g01381/impl.within: function 38 -/
def F.impl_within (a0 a1 a2 : Value) (H : Hp) (K : Value → Hp → Prop) : Prop :=
  ob (vInt .geq a0 a1) fun v9x1 =>
  gop v9x1 true (fun K2 => K2 a0 H) H fun v11x3 H4 =>
  gop v9x1 true (fun K5 => K5 a2 H4) H4 fun v12x6 H7 =>
  gop v9x1 true (fun K8 => ob (vInt .leq v11x3 v12x6) fun u => K8 u H7) H7 fun v13x9 H10 =>
  ob (vPick v9x1 v13x9 (.bool false)) fun v14x11 =>
  K v14x11 H10
def O.impl_within : Nat → Nat × List Nat := fun i => (0, [])
theorem R.impl_within {a0 a1 a2 : Value} {H : Hp} {K : Value → Hp → Prop} (h : F.impl_within a0 a1 a2 H K) : HT prg I.impl_within [a0, a1, a2].toArray H K :=
  HT_of_fev O.impl_within mixed Tryz.func38 (by kernel_rfl) (Eq.mpr (by kernel_rfl : fev prg O.impl_within Tryz.f38 [a0, a1, a2] H K = F.impl_within a0 a1 a2 H K) h)

/-! loop.example/g01381/impl.areWithin: function 89 -/
def F.impl_areWithin (a0 a1 a2 : Value) (H : Hp) (K : Value → Hp → Prop) : Prop :=
  jn (fun σ1 H1 =>
    K (.bool true) H1) fun J1 =>
  ob (vLenSl a0) fun v10x2 =>
  lpE (fun Q3 σ3 H3 =>
    ob (vInt .lss (σ3 11) (σ3 10)) fun v12x4 =>
    cnd v12x4
      (ob (vIx 1 (σ3 9) (σ3 11)) fun v13x5 =>
    ob (vLoad v13x5 H3) fun v14x6 =>
    HT prg I.impl_within [v14x6, (σ3 1), (σ3 2)].toArray H3 fun v18x7 H8 =>
    ob (vUn .not v18x7) fun v19x9 =>
    cnd v19x9
      (Q3 .ret (up (up (up (up (up (up (up (up (up (up σ3 12 v12x4) 13 v13x5) 14 v14x6) 8 v14x6) 15 v14x6) 16 (σ3 1)) 17 (σ3 2)) 18 v18x7) 19 v19x9) 6 (.bool false)) H8)
      (ob (vInt .add (σ3 11) (.int .i64 1)) fun v20x10 =>
    Q3 .normal (up (up (up (up (up (up (up (up (up (up (up σ3 12 v12x4) 13 v13x5) 14 v14x6) 8 v14x6) 15 v14x6) 16 (σ3 1)) 17 (σ3 2)) 18 v18x7) 19 v19x9) 20 v20x10) 11 v20x10) H8))
      (Q3 (.exit 0) (up σ3 12 v12x4) H3)) (blkQ 0 (thenQ J1 (retQ prg [(.tmp 6)] K))) (up (up (up (up (S0 [a0, a1, a2]) 6 (.bool false)) 9 a0) 10 v10x2) 11 (.int .i64 0)) H
def O.impl_areWithin : Nat → Nat × List Nat := fun i => (0, [])
theorem R.impl_areWithin {a0 a1 a2 : Value} {H : Hp} {K : Value → Hp → Prop} (h : F.impl_areWithin a0 a1 a2 H K) : HT prg I.impl_areWithin [a0, a1, a2].toArray H K :=
  HT_of_fev O.impl_areWithin mixed Tryz.func89 (by kernel_rfl) (Eq.mpr (by kernel_rfl : fev prg O.impl_areWithin Tryz.f89 [a0, a1, a2] H K = F.impl_areWithin a0 a1 a2 H K) h)

/-! loop.example/g01381/impl.areCounts: function 61 -/
def F.impl_areCounts (a0 : Value) (H : Hp) (K : Value → Hp → Prop) : Prop :=
  jn (fun σ1 H1 =>
    HT prg I.impl_areWithin [(σ1 0), (.int .i64 0), (.int .i64 8)].toArray H1 fun v21x2 H3 =>
    K v21x2 H3) fun J1 =>
  lpE (fun Q4 σ4 H4 =>
    ob (vLenSl (σ4 0)) fun v6x5 =>
    ob (vInt .lss (σ4 3) v6x5) fun v7x6 =>
    cnd v7x6
      (ob (vIx 1 (σ4 0) (σ4 3)) fun v12x7 =>
    ob (vLoad v12x7 H4) fun v13x8 =>
    ob (vInt .sub (σ4 3) (.int .i64 1)) fun v16x9 =>
    ob (vIx 1 (σ4 0) v16x9) fun v17x10 =>
    ob (vLoad v17x10 H4) fun v18x11 =>
    ob (vInt .leq v13x8 v18x11) fun v19x12 =>
    cnd v19x12
      (Q4 .ret (up (up (up (up (up (up (up (up (up (up (up (up (up (up (up σ4 4 (σ4 3)) 5 (σ4 0)) 6 v6x5) 7 v7x6) 10 (σ4 0)) 11 (σ4 3)) 12 v12x7) 13 v13x8) 14 (σ4 0)) 15 (σ4 3)) 16 v16x9) 17 v17x10) 18 v18x11) 19 v19x12) 2 (.bool false)) H4)
      (ob (vInt .add (σ4 3) (.int .i64 1)) fun v9x13 =>
    Q4 .normal (up (up (up (up (up (up (up (up (up (up (up (up (up (up (up (up (up σ4 4 (σ4 3)) 5 (σ4 0)) 6 v6x5) 7 v7x6) 10 (σ4 0)) 11 (σ4 3)) 12 v12x7) 13 v13x8) 14 (σ4 0)) 15 (σ4 3)) 16 v16x9) 17 v17x10) 18 v18x11) 19 v19x12) 8 (σ4 3)) 9 v9x13) 3 v9x13) H4))
      (Q4 (.exit 0) (up (up (up (up σ4 4 (σ4 3)) 5 (σ4 0)) 6 v6x5) 7 v7x6) H4)) (blkQ 0 (thenQ J1 (retQ prg [(.tmp 2)] K))) (up (up (S0 [a0]) 2 (.bool false)) 3 (.int .i64 1)) H
def O.impl_areCounts : Nat → Nat × List Nat := fun i => bif Nat.beq i 4 then (0, [0, 1, 2, 3, 4, 5, 6, 7, 8, 9]) else (0, [])
theorem R.impl_areCounts {a0 : Value} {H : Hp} {K : Value → Hp → Prop} (h : F.impl_areCounts a0 H K) : HT prg I.impl_areCounts [a0].toArray H K :=
  HT_of_fev O.impl_areCounts mixed Tryz.func61 (by kernel_rfl) (Eq.mpr (by kernel_rfl : fev prg O.impl_areCounts Tryz.f61 [a0] H K = F.impl_areCounts a0 H K) h)

/-! loop.example/g01381/impl.ValidLife: function 37 -/
def F.impl_ValidLife (a0 : Value) (H : Hp) (K : Value → Hp → Prop) : Prop :=
  nw (a0 : Value).cells 30 H fun v1x1 H2 =>
  ob (vFa 0 v1x1) fun v3x3 =>
  ob (vLoad v3x3 H2) fun v4x4 =>
  HT prg I.impl_areCounts [v4x4].toArray H2 fun v5x5 H6 =>
  gop v5x5 true (fun K7 => ob (vFa 1 v1x1) fun u => K7 u H6) H6 fun v7x8 H9 =>
  gop v5x5 true (fun K10 => ob (vLoad v7x8 H9) fun u => K10 u H9) H9 fun v8x11 H12 =>
  gop v5x5 true (fun K13 => HT prg I.impl_areCounts [v8x11].toArray H12 K13) H12 fun v9x14 H15 =>
  ob (vPick v5x5 v9x14 (.bool false)) fun v10x16 =>
  K v10x16 H15
def O.impl_ValidLife : Nat → Nat × List Nat := fun i => (0, [])
theorem R.impl_ValidLife {a0 : Value} {H : Hp} {K : Value → Hp → Prop} (h : F.impl_ValidLife a0 H K) : HT prg I.impl_ValidLife [a0].toArray H K :=
  HT_of_fev O.impl_ValidLife mixed Tryz.func37 (by kernel_rfl) (Eq.mpr (by kernel_rfl : fev prg O.impl_ValidLife Tryz.f37 [a0] H K = F.impl_ValidLife a0 H K) h)

/-! slices.Clone[[]int64,int64]: function 93 -/
def F.slices_Clone_int64Zint64 (a0 : Value) (H : Hp) (K : Value → Hp → Prop) : Prop :=
  ob (vSlEq .eql a0 (.slice none 0 0)) fun v4x1 =>
  cnd v4x1
    (K (.slice none 0 0) H)
    (bS 1 0 #[(.int .i64 0)] 2 [] H fun v5x2 H3 =>
  apd 1 8 #[(.int .i64 0)] 2 v5x2 a0 H3 fun v7x4 H5 =>
  K v7x4 H5)
def O.slices_Clone_int64Zint64 : Nat → Nat × List Nat := fun i => (0, [])
theorem R.slices_Clone_int64Zint64 {a0 : Value} {H : Hp} {K : Value → Hp → Prop} (h : F.slices_Clone_int64Zint64 a0 H K) : HT prg I.slices_Clone_int64Zint64 [a0].toArray H K :=
  HT_of_fev O.slices_Clone_int64Zint64 mixed Tryz.func93 (by kernel_rfl) (Eq.mpr (by kernel_rfl : fev prg O.slices_Clone_int64Zint64 Tryz.f93 [a0] H K = F.slices_Clone_int64Zint64 a0 H K) h)

/-! loop.example/g01381/impl.copyField: function 63 -/
def F.impl_copyField (a0 : Value) (H : Hp) (K : Value → Hp → Prop) : Prop :=
  nw (a0 : Value).cells 44 H fun v1x1 H2 =>
  nw #[(.int .i64 0), (.int .i64 0), (.slice none 0 0)] 44 H2 fun v2x3 H4 =>
  ob (vFa 2 v1x1) fun v3x5 =>
  ob (vLoad v3x5 H4) fun v4x6 =>
  HT prg I.slices_Clone_int64Zint64 [v4x6].toArray H4 fun v5x7 H8 =>
  ob (vFa 2 v1x1) fun v6x9 =>
  st 1 v6x9 v5x7 H8 fun H10 =>
  ob (vLoadN 3 v1x1 H10) fun v7x11 =>
  st 3 v2x3 v7x11 H10 fun H12 =>
  ob (vLoadN 3 v2x3 H12) fun u13 => K u13 H12
def O.impl_copyField : Nat → Nat × List Nat := fun i => (0, [])
theorem R.impl_copyField {a0 : Value} {H : Hp} {K : Value → Hp → Prop} (h : F.impl_copyField a0 H K) : HT prg I.impl_copyField [a0].toArray H K :=
  HT_of_fev O.impl_copyField mixed Tryz.func63 (by kernel_rfl) (Eq.mpr (by kernel_rfl : fev prg O.impl_copyField Tryz.f63 [a0] H K = F.impl_copyField a0 H K) h)

/-! loop.example/g01381/impl.madeField: function 58 -/
def F.impl_madeField (a0 a1 a2 : Value) (H : Hp) (K : Value → Hp → Prop) : Prop :=
  nw #[(.int .i64 0), (.int .i64 0), (.slice none 0 0)] 44 H fun v6x1 H2 =>
  ob (vBuild [(0, 1), (1, 1), (2, 1)] (.agg #[(.int .i64 0), (.int .i64 0), (.slice none 0 0)]) [(0, a0), (1, a1)]) fun v12x3 =>
  nw #[(.int .i64 0), (.int .i64 0), (.slice none 0 0)] 44 H2 fun v7x4 H5 =>
  st 3 v7x4 v12x3 H5 fun H6 =>
  jn (fun σ7 H7 =>
    ob (vLoadN 3 (σ7 7) H7) fun v32x8 =>
    st 3 (σ7 6) v32x8 H7 fun H9 =>
    ob (vLoadN 3 (σ7 6) H9) fun u10 => K u10 H9) fun J7 =>
  lpE (fun Q11 σ11 H11 =>
    ob (vInt .lss (σ11 14) (σ11 13)) fun v15x12 =>
    cnd v15x12
      (jn (fun σ13 H13 =>
      ob (vInt .add (σ13 14) (.int .i64 1)) fun v31x14 =>
      Q11 .normal (up (up σ13 31 v31x14) 14 v31x14) H13) fun J13 =>
    lpE (fun Q15 σ15 H15 =>
      ob (vInt .lss (σ15 18) (σ15 17)) fun v19x16 =>
      cnd v19x16
        (ob (vFa 2 (σ15 7)) fun v21x17 =>
      ob (vLoad v21x17 H15) fun v22x18 =>
      callV prg (σ15 2) [(σ15 8), (σ15 18)] H15 fun v26x19 H20 =>
      Le H15 H20 ∧ (bS 1 1 #[(.int .i64 0)] 2 [(0, v26x19)] H20 fun v27x21 H22 =>
      apd 1 8 #[(.int .i64 0)] 2 v22x18 v27x21 H22 fun v28x23 H24 =>
      ob (vFa 2 (σ15 7)) fun v29x25 =>
      st 1 v29x25 v28x23 H24 fun H26 =>
      ob (vInt .add (σ15 18) (.int .i64 1)) fun v30x27 =>
      Q15 .normal (up (up (up (up (up (up (up (up (up (up (up (up (up (up σ15 19 v19x16) 20 (σ15 18)) 9 (σ15 18)) 21 v21x17) 22 v22x18) 23 (σ15 2)) 24 (σ15 8)) 25 (σ15 18)) 26 v26x19) 27 v27x21) 28 v28x23) 29 v29x25) 30 v30x27) 18 v30x27) H26))
        (Q15 (.exit 2) (up σ15 19 v19x16) H15)) (blkQ 2 (blkQ 1 (thenQ J13 Q11))) (up (up (up (up (up σ11 15 v15x12) 16 (σ11 14)) 8 (σ11 14)) 17 (σ11 1)) 18 (.int .i64 0)) H11)
      (Q11 (.exit 0) (up σ11 15 v15x12) H11)) (blkQ 0 (thenQ J7 (retQ prg [(.cell 6 44)] K))) (up (up (up (up (up (up (up (S0 [a0, a1, a2]) 6 v6x1) 10 a0) 11 a1) 12 v12x3) 7 v7x4) 13 a0) 14 (.int .i64 0)) H6
def O.impl_madeField : Nat → Nat × List Nat := fun i => bif Nat.beq i 8 then (0, [0, 1, 2, 3, 4, 5, 6, 7, 8, 9]) else (0, [])
theorem R.impl_madeField {a0 a1 a2 : Value} {H : Hp} {K : Value → Hp → Prop} (h : F.impl_madeField a0 a1 a2 H K) : HT prg I.impl_madeField [a0, a1, a2].toArray H K :=
  HT_of_fev O.impl_madeField mixed Tryz.func58 (by kernel_rfl) (Eq.mpr (by kernel_rfl : fev prg O.impl_madeField Tryz.f58 [a0, a1, a2] H K = F.impl_madeField a0 a1 a2 H K) h)

/-! (loop.example/g01381/impl.Field).at: function 90 -/
def F.impl_Field_at (a0 a1 a2 : Value) (H : Hp) (K : Value → Hp → Prop) : Prop :=
  nw (a0 : Value).cells 44 H fun v3x1 H2 =>
  ob (vFa 2 v3x1) fun v7x3 =>
  ob (vLoad v7x3 H2) fun v8x4 =>
  ob (vFa 1 v3x1) fun v10x5 =>
  ob (vLoad v10x5 H2) fun v11x6 =>
  ob (vInt .mul a1 v11x6) fun v12x7 =>
  ob (vInt .add v12x7 a2) fun v14x8 =>
  ob (vIx 1 v8x4 v14x8) fun v15x9 =>
  ob (vLoad v15x9 H2) fun v16x10 =>
  K v16x10 H2
def O.impl_Field_at : Nat → Nat × List Nat := fun i => (0, [])
theorem R.impl_Field_at {a0 a1 a2 : Value} {H : Hp} {K : Value → Hp → Prop} (h : F.impl_Field_at a0 a1 a2 H K) : HT prg I.impl_Field_at [a0, a1, a2].toArray H K :=
  HT_of_fev O.impl_Field_at mixed Tryz.func90 (by kernel_rfl) (Eq.mpr (by kernel_rfl : fev prg O.impl_Field_at Tryz.f90 [a0, a1, a2] H K = F.impl_Field_at a0 a1 a2 H K) h)

/-! loop.example/g01381/impl.bit: function 75 -/
def F.impl_bit (a0 : Value) (H : Hp) (K : Value → Hp → Prop) : Prop :=
  cnd a0
    (K (.int .i64 1) H)
    (K (.int .i64 0) H)
def O.impl_bit : Nat → Nat × List Nat := fun i => (0, [])
theorem R.impl_bit {a0 : Value} {H : Hp} {K : Value → Hp → Prop} (h : F.impl_bit a0 H K) : HT prg I.impl_bit [a0].toArray H K :=
  HT_of_fev O.impl_bit mixed Tryz.func75 (by kernel_rfl) (Eq.mpr (by kernel_rfl : fev prg O.impl_bit Tryz.f75 [a0] H K = F.impl_bit a0 H K) h)

/-! slices.Index[[]int64,int64]: function 138 -/
def F.slices_Index_int64Zint64 (a0 a1 : Value) (H : Hp) (K : Value → Hp → Prop) : Prop :=
  jn (fun σ1 H1 =>
    K (.int .i64 (-1)) H1) fun J1 =>
  ob (vLenSl a0) fun v7x2 =>
  lpE (fun Q3 σ3 H3 =>
    ob (vInt .lss (σ3 8) (σ3 7)) fun v9x4 =>
    cnd v9x4
      (ob (vIx 1 (σ3 0) (σ3 8)) fun v14x5 =>
    ob (vLoad v14x5 H3) fun v15x6 =>
    ob (vInt .eql (σ3 1) v15x6) fun v16x7 =>
    cnd v16x7
      (Q3 .ret (up (up (up (up (up (up (up (up (up (up (up σ3 9 v9x4) 10 (σ3 8)) 5 (σ3 8)) 11 (σ3 1)) 12 (σ3 0)) 13 (σ3 8)) 14 v14x5) 15 v15x6) 16 v16x7) 17 (σ3 8)) 4 (σ3 8)) H3)
      (ob (vInt .add (σ3 8) (.int .i64 1)) fun v18x8 =>
    Q3 .normal (up (up (up (up (up (up (up (up (up (up (up σ3 9 v9x4) 10 (σ3 8)) 5 (σ3 8)) 11 (σ3 1)) 12 (σ3 0)) 13 (σ3 8)) 14 v14x5) 15 v15x6) 16 v16x7) 18 v18x8) 8 v18x8) H3))
      (Q3 (.exit 0) (up σ3 9 v9x4) H3)) (blkQ 0 (thenQ J1 (retQ prg [(.tmp 4)] K))) (up (up (up (up (S0 [a0, a1]) 4 (.int .i64 0)) 6 a0) 7 v7x2) 8 (.int .i64 0)) H
def O.slices_Index_int64Zint64 : Nat → Nat × List Nat := fun i => (0, [])
theorem R.slices_Index_int64Zint64 {a0 a1 : Value} {H : Hp} {K : Value → Hp → Prop} (h : F.slices_Index_int64Zint64 a0 a1 H K) : HT prg I.slices_Index_int64Zint64 [a0, a1].toArray H K :=
  HT_of_fev O.slices_Index_int64Zint64 mixed Tryz.func138 (by kernel_rfl) (Eq.mpr (by kernel_rfl : fev prg O.slices_Index_int64Zint64 Tryz.f138 [a0, a1] H K = F.slices_Index_int64Zint64 a0 a1 H K) h)

/-! slices.Contains[[]int64,int64]: function 123 -/
def F.slices_Contains_int64Zint64 (a0 a1 : Value) (H : Hp) (K : Value → Hp → Prop) : Prop :=
  HT prg I.slices_Index_int64Zint64 [a0, a1].toArray H fun v7x1 H2 =>
  ob (vInt .geq v7x1 (.int .i64 0)) fun v8x3 =>
  K v8x3 H2
def O.slices_Contains_int64Zint64 : Nat → Nat × List Nat := fun i => (0, [])
theorem R.slices_Contains_int64Zint64 {a0 a1 : Value} {H : Hp} {K : Value → Hp → Prop} (h : F.slices_Contains_int64Zint64 a0 a1 H K) : HT prg I.slices_Contains_int64Zint64 [a0, a1].toArray H K :=
  HT_of_fev O.slices_Contains_int64Zint64 mixed Tryz.func123 (by kernel_rfl) (Eq.mpr (by kernel_rfl : fev prg O.slices_Contains_int64Zint64 Tryz.f123 [a0, a1] H K = F.slices_Contains_int64Zint64 a0 a1 H K) h)

/-! (loop.example/g01381/impl.Life).becomes: function 95 -/
def F.impl_Life_becomes (a0 a1 a2 : Value) (H : Hp) (K : Value → Hp → Prop) : Prop :=
  nw (a0 : Value).cells 30 H fun v3x1 H2 =>
  ob (vInt .eql a1 (.int .i64 0)) fun v8x3 =>
  cnd v8x3
    (ob (vFa 0 v3x1) fun v9x4 =>
    ob (vLoad v9x4 H2) fun v10x5 =>
    HT prg I.slices_Contains_int64Zint64 [v10x5, a2].toArray H2 fun v12x6 H7 =>
    HT prg I.impl_bit [v12x6].toArray H7 fun v13x8 H9 =>
    K v13x8 H9)
    (ob (vFa 1 v3x1) fun v14x10 =>
  ob (vLoad v14x10 H2) fun v15x11 =>
  HT prg I.slices_Contains_int64Zint64 [v15x11, a2].toArray H2 fun v17x12 H13 =>
  HT prg I.impl_bit [v17x12].toArray H13 fun v18x14 H15 =>
  K v18x14 H15)
def O.impl_Life_becomes : Nat → Nat × List Nat := fun i => (0, [])
theorem R.impl_Life_becomes {a0 a1 a2 : Value} {H : Hp} {K : Value → Hp → Prop} (h : F.impl_Life_becomes a0 a1 a2 H K) : HT prg I.impl_Life_becomes [a0, a1, a2].toArray H K :=
  HT_of_fev O.impl_Life_becomes mixed Tryz.func95 (by kernel_rfl) (Eq.mpr (by kernel_rfl : fev prg O.impl_Life_becomes Tryz.f95 [a0, a1, a2] H K = F.impl_Life_becomes a0 a1 a2 H K) h)

/-! loop.example/g01381/impl.floorMod: function 91 -/
def F.impl_floorMod (a0 a1 : Value) (H : Hp) (K : Value → Hp → Prop) : Prop :=
  ob (vInt .rem a0 a1) fun v7x1 =>
  ob (vInt .add v7x1 a1) fun v9x2 =>
  ob (vInt .rem v9x2 a1) fun v11x3 =>
  K v11x3 H
def O.impl_floorMod : Nat → Nat × List Nat := fun i => (0, [])
theorem R.impl_floorMod {a0 a1 : Value} {H : Hp} {K : Value → Hp → Prop} (h : F.impl_floorMod a0 a1 H K) : HT prg I.impl_floorMod [a0, a1].toArray H K :=
  HT_of_fev O.impl_floorMod mixed Tryz.func91 (by kernel_rfl) (Eq.mpr (by kernel_rfl : fev prg O.impl_floorMod Tryz.f91 [a0, a1] H K = F.impl_floorMod a0 a1 H K) h)

/-! (loop.example/g01381/impl.Field).has: function 92 -/
def F.impl_Field_has (a0 a1 a2 : Value) (H : Hp) (K : Value → Hp → Prop) : Prop :=
  nw (a0 : Value).cells 44 H fun v3x1 H2 =>
  ob (vFa 0 v3x1) fun v8x3 =>
  ob (vLoad v8x3 H2) fun v9x4 =>
  ob (vInt .sub v9x4 (.int .i64 1)) fun v10x5 =>
  HT prg I.impl_within [a1, (.int .i64 0), v10x5].toArray H2 fun v11x6 H7 =>
  gop v11x6 true (fun K8 => K8 a2 H7) H7 fun v13x9 H10 =>
  gop v11x6 true (fun K11 => ob (vFa 1 v3x1) fun u => K11 u H10) H10 fun v14x12 H13 =>
  gop v11x6 true (fun K14 => ob (vLoad v14x12 H13) fun u => K14 u H13) H13 fun v15x15 H16 =>
  gop v11x6 true (fun K17 => ob (vInt .sub v15x15 (.int .i64 1)) fun u => K17 u H16) H16 fun v16x18 H19 =>
  gop v11x6 true (fun K20 => HT prg I.impl_within [v13x9, (.int .i64 0), v16x18].toArray H19 K20) H19 fun v17x21 H22 =>
  ob (vPick v11x6 v17x21 (.bool false)) fun v18x23 =>
  K v18x23 H22
def O.impl_Field_has : Nat → Nat × List Nat := fun i => (0, [])
theorem R.impl_Field_has {a0 a1 a2 : Value} {H : Hp} {K : Value → Hp → Prop} (h : F.impl_Field_has a0 a1 a2 H K) : HT prg I.impl_Field_has [a0, a1, a2].toArray H K :=
  HT_of_fev O.impl_Field_has mixed Tryz.func92 (by kernel_rfl) (Eq.mpr (by kernel_rfl : fev prg O.impl_Field_has Tryz.f92 [a0, a1, a2] H K = F.impl_Field_has a0 a1 a2 H K) h)

/-! (loop.example/g01381/impl.Field).look: function 60 -/
def F.impl_Field_look (a0 a1 a2 a3 : Value) (H : Hp) (K : Value → Hp → Prop) : Prop :=
  nw (a0 : Value).cells 44 H fun v4x1 H2 =>
  cnd a3
    (ob (vLoadN 3 v4x1 H2) fun v10x3 =>
    ob (vFa 0 v4x1) fun v12x4 =>
    ob (vLoad v12x4 H2) fun v13x5 =>
    ob (vFa 1 v4x1) fun v16x6 =>
    ob (vLoad v16x6 H2) fun v17x7 =>
    HT prg I.impl_floorMod [a1, v13x5].toArray H2 fun v14x8 H9 =>
    Le H2 H9 ∧ (HT prg I.impl_floorMod [a2, v17x7].toArray H9 fun v18x10 H11 =>
    Le H9 H11 ∧ (HT prg I.impl_Field_at [v10x3, v14x8, v18x10].toArray H11 fun v19x12 H13 =>
    Le H11 H13 ∧ (K v19x12 H13))))
    (ob (vLoadN 3 v4x1 H2) fun v20x14 =>
  HT prg I.impl_Field_has [v20x14, a1, a2].toArray H2 fun v23x15 H16 =>
  ob (vUn .not v23x15) fun v24x17 =>
  cnd v24x17
    (K (.int .i64 0) H16)
    (ob (vLoadN 3 v4x1 H16) fun v25x18 =>
  HT prg I.impl_Field_at [v25x18, a1, a2].toArray H16 fun v28x19 H20 =>
  K v28x19 H20))
def O.impl_Field_look : Nat → Nat × List Nat := fun i => bif Nat.beq i 2 then (0, [0, 1, 2, 3, 5, 6, 7, 4, 8, 9, 10]) else (0, [])
theorem R.impl_Field_look {a0 a1 a2 a3 : Value} {H : Hp} {K : Value → Hp → Prop} (h : F.impl_Field_look a0 a1 a2 a3 H K) : HT prg I.impl_Field_look [a0, a1, a2, a3].toArray H K :=
  HT_of_fev O.impl_Field_look mixed Tryz.func60 (by kernel_rfl) (Eq.mpr (by kernel_rfl : fev prg O.impl_Field_look Tryz.f60 [a0, a1, a2, a3] H K = F.impl_Field_look a0 a1 a2 a3 H K) h)

/-! (loop.example/g01381/impl.Field).around: function 96 -/
def F.impl_Field_around (a0 a1 a2 a3 : Value) (H : Hp) (K : Value → Hp → Prop) : Prop :=
  nw (a0 : Value).cells 44 H fun v4x1 H2 =>
  ob (vLoadN 3 v4x1 H2) fun v12x3 =>
  HT prg I.impl_Field_at [v12x3, a1, a2].toArray H2 fun v15x4 H5 =>
  ob (vUn .neg v15x4) fun v16x6 =>
  jn (fun σ7 H7 =>
    K (σ7 9) H7) fun J7 =>
  ob (vInt .sub a1 (.int .i64 1)) fun v18x8 =>
  lpE (fun Q9 σ9 H9 =>
    ob (vInt .add (σ9 1) (.int .i64 1)) fun v21x10 =>
    ob (vInt .leq (σ9 10) v21x10) fun v22x11 =>
    cnd v22x11
      (jn (fun σ12 H12 =>
      ob (vInt .add (σ12 10) (.int .i64 1)) fun v24x13 =>
      Q9 .normal (up (up (up σ12 23 (σ12 10)) 24 v24x13) 10 v24x13) H12) fun J12 =>
    ob (vInt .sub (σ9 2) (.int .i64 1)) fun v26x14 =>
    lpE (fun Q15 σ15 H15 =>
      ob (vInt .add (σ15 2) (.int .i64 1)) fun v29x16 =>
      ob (vInt .leq (σ15 11) v29x16) fun v30x17 =>
      cnd v30x17
        (ob (vLoadN 3 (σ15 4) H15) fun v34x18 =>
      HT prg I.impl_Field_look [v34x18, (σ15 10), (σ15 11), (σ15 3)].toArray H15 fun v38x19 H20 =>
      ob (vInt .add (σ15 9) v38x19) fun v39x21 =>
      ob (vInt .add (σ15 11) (.int .i64 1)) fun v32x22 =>
      Q15 .normal (up (up (up (up (up (up (up (up (up (up (up (up (up (up (up σ15 27 (σ15 11)) 28 (σ15 2)) 29 v29x16) 30 v30x17) 33 (σ15 9)) 34 v34x18) 35 (σ15 10)) 36 (σ15 11)) 37 (σ15 3)) 38 v38x19) 39 v39x21) 9 v39x21) 31 (σ15 11)) 32 v32x22) 11 v32x22) H20)
        (Q15 (.exit 2) (up (up (up (up σ15 27 (σ15 11)) 28 (σ15 2)) 29 v29x16) 30 v30x17) H15)) (blkQ 2 (blkQ 1 (thenQ J12 Q9))) (up (up (up (up (up (up (up σ9 19 (σ9 10)) 20 (σ9 1)) 21 v21x10) 22 v22x11) 25 (σ9 2)) 26 v26x14) 11 v26x14) H9)
      (Q9 (.exit 0) (up (up (up (up σ9 19 (σ9 10)) 20 (σ9 1)) 21 v21x10) 22 v22x11) H9)) (blkQ 0 (thenQ J7 (retQ prg [(.tmp 8)] K))) (up (up (up (up (up (up (up (up (up (up (up (S0 [a0, a1, a2, a3]) 4 v4x1) 8 (.int .i64 0)) 12 v12x3) 13 a1) 14 a2) 15 v15x4) 16 v16x6) 9 v16x6) 17 a1) 18 v18x8) 10 v18x8) H5
def O.impl_Field_around : Nat → Nat × List Nat := fun i => (0, [])
theorem R.impl_Field_around {a0 a1 a2 a3 : Value} {H : Hp} {K : Value → Hp → Prop} (h : F.impl_Field_around a0 a1 a2 a3 H K) : HT prg I.impl_Field_around [a0, a1, a2, a3].toArray H K :=
  HT_of_fev O.impl_Field_around mixed Tryz.func96 (by kernel_rfl) (Eq.mpr (by kernel_rfl : fev prg O.impl_Field_around Tryz.f96 [a0, a1, a2, a3] H K = F.impl_Field_around a0 a1 a2 a3 H K) h)

/-! (loop.example/g01381/impl.Life).step$1: function 94 -/
def F.impl_Life_step_1 (a0 a1 a2 a3 a4 : Value) (H : Hp) (K : Value → Hp → Prop) : Prop :=
  ob (vLoadN 2 a2 H) fun v8x1 =>
  ob (vLoadN 3 a3 H) fun v9x2 =>
  ob (vLoadN 3 a3 H) fun v13x3 =>
  ob (vLoad a4 H) fun v16x4 =>
  HT prg I.impl_Field_at [v9x2, a0, a1].toArray H fun v12x5 H6 =>
  Le H H6 ∧ (HT prg I.impl_Field_around [v13x3, a0, a1, v16x4].toArray H6 fun v17x7 H8 =>
  Le H6 H8 ∧ (HT prg I.impl_Life_becomes [v8x1, v12x5, v17x7].toArray H8 fun v18x9 H10 =>
  Le H8 H10 ∧ (K v18x9 H10)))
def O.impl_Life_step_1 : Nat → Nat × List Nat := fun i => bif Nat.beq i 1 then (0, [0, 1, 2, 3, 5, 6, 7, 8, 4, 9, 10, 11]) else (0, [])
theorem R.impl_Life_step_1 {a0 a1 a2 a3 a4 : Value} {H : Hp} {K : Value → Hp → Prop} (h : F.impl_Life_step_1 a0 a1 a2 a3 a4 H K) : HT prg I.impl_Life_step_1 [a0, a1, a2, a3, a4].toArray H K :=
  HT_of_fev O.impl_Life_step_1 mixed Tryz.func94 (by kernel_rfl) (Eq.mpr (by kernel_rfl : fev prg O.impl_Life_step_1 Tryz.f94 [a0, a1, a2, a3, a4] H K = F.impl_Life_step_1 a0 a1 a2 a3 a4 H K) h)

/-! (loop.example/g01381/impl.Life).step: function 64 -/
def F.impl_Life_step (a0 a1 a2 : Value) (H : Hp) (K : Value → Hp → Prop) : Prop :=
  nw (a0 : Value).cells 30 H fun v3x1 H2 =>
  nw (a1 : Value).cells 44 H2 fun v4x3 H4 =>
  nw (a2 : Value).cells 4 H4 fun v5x5 H6 =>
  nw #[(.int .i64 0), (.int .i64 0), (.slice none 0 0)] 44 H6 fun v6x7 H8 =>
  ob (vFa 0 v4x3) fun v7x9 =>
  ob (vLoad v7x9 H8) fun v8x10 =>
  ob (vFa 1 v4x3) fun v9x11 =>
  ob (vLoad v9x11 H8) fun v10x12 =>
  HT prg I.impl_madeField [v8x10, v10x12, (.func (.func I.impl_Life_step_1) #[] #[v3x1, v4x3, v5x5])].toArray H8 fun v12x13 H14 =>
  st 3 v6x7 v12x13 H14 fun H15 =>
  ob (vLoadN 3 v6x7 H15) fun u16 => K u16 H15
def O.impl_Life_step : Nat → Nat × List Nat := fun i => (0, [])
theorem R.impl_Life_step {a0 a1 a2 : Value} {H : Hp} {K : Value → Hp → Prop} (h : F.impl_Life_step a0 a1 a2 H K) : HT prg I.impl_Life_step [a0, a1, a2].toArray H K :=
  HT_of_fev O.impl_Life_step mixed Tryz.func64 (by kernel_rfl) (Eq.mpr (by kernel_rfl : fev prg O.impl_Life_step Tryz.f64 [a0, a1, a2] H K = F.impl_Life_step a0 a1 a2 H K) h)

end Go.Proofs.YtffmfkpobjdmmaaGreatDoor
/- Functions' texts over a partial heap. -/
namespace Go.Proofs.YtffmfkpobjdmmaaGreatDoor
open HL
set_option linter.unusedVariables false
set_option maxRecDepth 100000
set_option maxHeartbeats 4000000
/-! (loop.example/g01381/impl.Life).run: function 40 -/
def F.impl_Life_run (a0 a1 a2 a3 : Value) (H : Hp) (K : Value → Hp → Prop) : Prop :=
  nw (a0 : Value).cells 30 H fun v4x1 H2 =>
  nw (a1 : Value).cells 44 H2 fun v5x3 H4 =>
  nw #[(.int .i64 0), (.int .i64 0), (.slice none 0 0)] 44 H4 fun v8x5 H6 =>
  ob (vLoadN 3 v5x3 H6) fun v9x7 =>
  HT prg I.impl_copyField [v9x7].toArray H6 fun v10x8 H9 =>
  st 3 v5x3 v10x8 H9 fun H10 =>
  jn (fun σ11 H11 =>
    ob (vLoadN 3 (σ11 5) H11) fun v19x12 =>
    st 3 (σ11 8) v19x12 H11 fun H13 =>
    ob (vLoadN 3 (σ11 8) H13) fun u14 => K u14 H13) fun J11 =>
  lpE (fun Q15 σ15 H15 =>
    ob (vInt .lss (σ15 12) (σ15 11)) fun v13x16 =>
    cnd v13x16
      (ob (vLoadN 2 (σ15 4) H15) fun v14x17 =>
    ob (vLoadN 3 (σ15 5) H15) fun v15x18 =>
    HT prg I.impl_Life_step [v14x17, v15x18, (σ15 2)].toArray H15 fun v17x19 H20 =>
    st 3 (σ15 5) v17x19 H20 fun H21 =>
    ob (vInt .add (σ15 12) (.int .i64 1)) fun v18x22 =>
    Q15 .normal (up (up (up (up (up (up (up σ15 13 v13x16) 14 v14x17) 15 v15x18) 16 (σ15 2)) 17 v17x19) 18 v18x22) 12 v18x22) H21)
      (Q15 (.exit 0) (up σ15 13 v13x16) H15)) (blkQ 0 (thenQ J11 (retQ prg [(.cell 8 44)] K))) (up (up (up (up (up (up (up (S0 [a0, a1, a2, a3]) 4 v4x1) 5 v5x3) 8 v8x5) 9 v9x7) 10 v10x8) 11 a3) 12 (.int .i64 0)) H10
def O.impl_Life_run : Nat → Nat × List Nat := fun i => (0, [])
theorem R.impl_Life_run {a0 a1 a2 a3 : Value} {H : Hp} {K : Value → Hp → Prop} (h : F.impl_Life_run a0 a1 a2 a3 H K) : HT prg I.impl_Life_run [a0, a1, a2, a3].toArray H K :=
  HT_of_fev O.impl_Life_run mixed Tryz.func40 (by kernel_rfl) (Eq.mpr (by kernel_rfl : fev prg O.impl_Life_run Tryz.f40 [a0, a1, a2, a3] H K = F.impl_Life_run a0 a1 a2 a3 H K) h)

/-! loop.example/g01381/impl.isSide: function 57 -/
def F.impl_isSide (a0 : Value) (H : Hp) (K : Value → Hp → Prop) : Prop :=
  HT prg I.impl_within [a0, (.int .i64 1), (.int .i64 24)].toArray H fun v4x1 H2 =>
  K v4x1 H2
def O.impl_isSide : Nat → Nat × List Nat := fun i => (0, [])
theorem R.impl_isSide {a0 : Value} {H : Hp} {K : Value → Hp → Prop} (h : F.impl_isSide a0 H K) : HT prg I.impl_isSide [a0].toArray H K :=
  HT_of_fev O.impl_isSide mixed Tryz.func57 (by kernel_rfl) (Eq.mpr (by kernel_rfl : fev prg O.impl_isSide Tryz.f57 [a0] H K = F.impl_isSide a0 H K) h)

/-! loop.example/g01381/impl.areMany: function 122 -/
def F.impl_areMany (a0 a1 a2 a3 a4 : Value) (H : Hp) (K : Value → Hp → Prop) : Prop :=
  ob (vLenSl a0) fun v12x1 =>
  HT prg I.impl_within [v12x1, a1, a2].toArray H fun v15x2 H3 =>
  gop v15x2 true (fun K4 => K4 a0 H3) H3 fun v17x5 H6 =>
  gop v15x2 true (fun K7 => K7 a3 H6) H6 fun v18x8 H9 =>
  gop v15x2 true (fun K10 => K10 a4 H9) H9 fun v19x11 H12 =>
  gop v15x2 true (fun K13 => HT prg I.impl_areWithin [v17x5, v18x8, v19x11].toArray H12 K13) H12 fun v20x14 H15 =>
  ob (vPick v15x2 v20x14 (.bool false)) fun v21x16 =>
  K v21x16 H15
def O.impl_areMany : Nat → Nat × List Nat := fun i => (0, [])
theorem R.impl_areMany {a0 a1 a2 a3 a4 : Value} {H : Hp} {K : Value → Hp → Prop} (h : F.impl_areMany a0 a1 a2 a3 a4 H K) : HT prg I.impl_areMany [a0, a1, a2, a3, a4].toArray H K :=
  HT_of_fev O.impl_areMany mixed Tryz.func122 (by kernel_rfl) (Eq.mpr (by kernel_rfl : fev prg O.impl_areMany Tryz.f122 [a0, a1, a2, a3, a4] H K = F.impl_areMany a0 a1 a2 a3 a4 H K) h)

/-! loop.example/g01381/impl.ValidField: function 88 -/
def F.impl_ValidField (a0 : Value) (H : Hp) (K : Value → Hp → Prop) : Prop :=
  nw (a0 : Value).cells 44 H fun v1x1 H2 =>
  ob (vFa 0 v1x1) fun v4x3 =>
  ob (vLoad v4x3 H2) fun v5x4 =>
  ob (vFa 1 v1x1) fun v6x5 =>
  ob (vLoad v6x5 H2) fun v7x6 =>
  ob (vInt .mul v5x4 v7x6) fun v8x7 =>
  ob (vFa 0 v1x1) fun v9x8 =>
  ob (vLoad v9x8 H2) fun v10x9 =>
  HT prg I.impl_isSide [v10x9].toArray H2 fun v11x10 H11 =>
  gop v11x10 true (fun K12 => ob (vFa 1 v1x1) fun u => K12 u H11) H11 fun v13x13 H14 =>
  gop v11x10 true (fun K15 => ob (vLoad v13x13 H14) fun u => K15 u H14) H14 fun v14x16 H17 =>
  gop v11x10 true (fun K18 => HT prg I.impl_isSide [v14x16].toArray H17 K18) H17 fun v15x19 H20 =>
  ob (vPick v11x10 v15x19 (.bool false)) fun v16x21 =>
  gop v16x21 true (fun K22 => ob (vFa 2 v1x1) fun u => K22 u H20) H20 fun v18x23 H24 =>
  gop v16x21 true (fun K25 => ob (vLoad v18x23 H24) fun u => K25 u H24) H24 fun v19x26 H27 =>
  gop v16x21 true (fun K28 => K28 v8x7 H27) H27 fun v20x29 H30 =>
  gop v16x21 true (fun K31 => K31 v8x7 H30) H30 fun v21x32 H33 =>
  gop v16x21 true (fun K34 => HT prg I.impl_areMany [v19x26, v20x29, v21x32, (.int .i64 0), (.int .i64 9)].toArray H33 K34) H33 fun v22x35 H36 =>
  ob (vPick v16x21 v22x35 (.bool false)) fun v23x37 =>
  K v23x37 H36
def O.impl_ValidField : Nat → Nat × List Nat := fun i => (0, [])
theorem R.impl_ValidField {a0 : Value} {H : Hp} {K : Value → Hp → Prop} (h : F.impl_ValidField a0 H K) : HT prg I.impl_ValidField [a0].toArray H K :=
  HT_of_fev O.impl_ValidField mixed Tryz.func88 (by kernel_rfl) (Eq.mpr (by kernel_rfl : fev prg O.impl_ValidField Tryz.f88 [a0] H K = F.impl_ValidField a0 H K) h)

/-! loop.example/g01381/impl.isPlain: function 56 -/
def F.impl_isPlain (a0 : Value) (H : Hp) (K : Value → Hp → Prop) : Prop :=
  nw (a0 : Value).cells 44 H fun v1x1 H2 =>
  ob (vLoadN 3 v1x1 H2) fun v3x3 =>
  HT prg I.impl_ValidField [v3x3].toArray H2 fun v4x4 H5 =>
  gop v4x4 true (fun K6 => ob (vFa 2 v1x1) fun u => K6 u H5) H5 fun v6x7 H8 =>
  gop v4x4 true (fun K9 => ob (vLoad v6x7 H8) fun u => K9 u H8) H8 fun v7x10 H11 =>
  gop v4x4 true (fun K12 => HT prg I.impl_areWithin [v7x10, (.int .i64 0), (.int .i64 1)].toArray H11 K12) H11 fun v8x13 H14 =>
  ob (vPick v4x4 v8x13 (.bool false)) fun v9x15 =>
  K v9x15 H14
def O.impl_isPlain : Nat → Nat × List Nat := fun i => (0, [])
theorem R.impl_isPlain {a0 : Value} {H : Hp} {K : Value → Hp → Prop} (h : F.impl_isPlain a0 H K) : HT prg I.impl_isPlain [a0].toArray H K :=
  HT_of_fev O.impl_isPlain mixed Tryz.func56 (by kernel_rfl) (Eq.mpr (by kernel_rfl : fev prg O.impl_isPlain Tryz.f56 [a0] H K = F.impl_isPlain a0 H K) h)

/-! (loop.example/g01381/impl.Field).clusters$1: function 102 -/
def F.impl_Field_clusters_1 (a0 a1 a2 a3 a4 a5 : Value) (H : Hp) (K : Value → Hp → Prop) : Prop :=
  ob (vFa 1 a2) fun v10x1 =>
  ob (vLoad v10x1 H) fun v11x2 =>
  ob (vInt .mul a0 v11x2) fun v12x3 =>
  ob (vInt .add v12x3 a1) fun v14x4 =>
  ob (vFa 2 a2) fun v15x5 =>
  ob (vLoad v15x5 H) fun v16x6 =>
  ob (vIx 1 v16x6 v14x4) fun v18x7 =>
  ob (vLoad v18x7 H) fun v19x8 =>
  ob (vInt .eql v19x8 (.int .i64 1)) fun v20x9 =>
  gop v20x9 true (fun K10 => ob (vLoad a3 H) fun u => K10 u H) H fun v22x11 H12 =>
  gop v20x9 true (fun K13 => K13 v14x4 H12) H12 fun v23x14 H15 =>
  gop v20x9 true (fun K16 => ob (vIx 1 v22x11 v23x14) fun u => K16 u H15) H15 fun v24x17 H18 =>
  gop v20x9 true (fun K19 => ob (vLoad v24x17 H18) fun u => K19 u H18) H18 fun v25x20 H21 =>
  gop v20x9 true (fun K22 => ob (vInt .eql v25x20 (.int .i64 0)) fun u => K22 u H21) H21 fun v26x23 H24 =>
  ob (vPick v20x9 v26x23 (.bool false)) fun v27x25 =>
  cnd v27x25
    (ob (vLoad a3 H24) fun v28x26 =>
    ob (vLoad a4 H24) fun v30x27 =>
    ob (vIx 1 v28x26 v14x4) fun v31x28 =>
    st 1 v31x28 v30x27 H24 fun H29 =>
    ob (vLoad a5 H29) fun v32x30 =>
    bS 1 1 #[(.int .i64 0)] 2 [(0, v14x4)] H29 fun v34x31 H32 =>
    apd 1 8 #[(.int .i64 0)] 2 v32x30 v34x31 H32 fun v35x33 H34 =>
    st 1 a5 v35x33 H34 fun H35 =>
    K (.tuple #[]) H35)
    (K (.tuple #[]) H24)
def O.impl_Field_clusters_1 : Nat → Nat × List Nat := fun i => (0, [])
theorem R.impl_Field_clusters_1 {a0 a1 a2 a3 a4 a5 : Value} {H : Hp} {K : Value → Hp → Prop} (h : F.impl_Field_clusters_1 a0 a1 a2 a3 a4 a5 H K) : HT prg I.impl_Field_clusters_1 [a0, a1, a2, a3, a4, a5].toArray H K :=
  HT_of_fev O.impl_Field_clusters_1 mixed Tryz.func102 (by kernel_rfl) (Eq.mpr (by kernel_rfl : fev prg O.impl_Field_clusters_1 Tryz.f102 [a0, a1, a2, a3, a4, a5] H K = F.impl_Field_clusters_1 a0 a1 a2 a3 a4 a5 H K) h)

/-! (loop.example/g01381/impl.Field).clusters: function 77 -/
def F.impl_Field_clustersX (a0 a1 : Value) (H : Hp) (K : Value → Hp → Prop) : Prop :=
  nw (a0 : Value).cells 44 H fun v2x1 H2 =>
  ob (vFa 2 v2x1) fun v12x3 =>
  ob (vLoad v12x3 H2) fun v13x4 =>
  ob (vLenSl v13x4) fun v14x5 =>
  mkS 1 8 #[(.int .i64 0)] 2 v14x5 v14x5 H2 fun v15x6 H7 =>
  nw #[(.slice none 0 0)] 22 H7 fun v6x8 H9 =>
  st 1 v6x8 v15x6 H9 fun H10 =>
  nw #[(.int .i64 0)] 2 H10 fun v7x11 H12 =>
  st 1 v7x11 (.int .i64 0) H12 fun H13 =>
  jn (fun σ14 H14 =>
    ob (vLoad (σ14 6) H14) fun v67x15 =>
    ob (vLoad (σ14 7) H14) fun v68x16 =>
    K (.tuple #[v67x15, v68x16]) H14) fun J14 =>
  ob (vFa 2 v2x1) fun v16x17 =>
  ob (vLoad v16x17 H13) fun v17x18 =>
  ob (vLenSl v17x18) fun v18x19 =>
  lpE (fun Q20 σ20 H20 =>
    ob (vInt .lss (σ20 19) (σ20 18)) fun v20x21 =>
    cnd v20x21
      (jn (fun σ22 H22 =>
      ob (vInt .add (σ22 19) (.int .i64 1)) fun v66x23 =>
      Q20 .normal (up (up σ22 66 v66x23) 19 v66x23) H22) fun J22 =>
    ob (vIx 1 (σ20 17) (σ20 19)) fun v22x24 =>
    ob (vLoad v22x24 H20) fun v23x25 =>
    ob (vInt .neq v23x25 (.int .i64 1)) fun v25x26 =>
    gop v25x26 false (fun K27 => ob (vLoad (σ20 6) H20) fun u => K27 u H20) H20 fun v27x28 H29 =>
    gop v25x26 false (fun K30 => K30 (σ20 19) H29) H29 fun v28x31 H32 =>
    gop v25x26 false (fun K33 => ob (vIx 1 v27x28 v28x31) fun u => K33 u H32) H32 fun v29x34 H35 =>
    gop v25x26 false (fun K36 => ob (vLoad v29x34 H35) fun u => K36 u H35) H35 fun v30x37 H38 =>
    gop v25x26 false (fun K39 => ob (vInt .neq v30x37 (.int .i64 0)) fun u => K39 u H38) H38 fun v31x40 H41 =>
    ob (vPick v25x26 (.bool true) v31x40) fun v32x42 =>
    cnd v32x42
      (J22 (up (up (up (up (up (up (up (up (up (up (up (up (up (up (up σ20 20 v20x21) 21 (σ20 19)) 22 v22x24) 23 v23x25) 8 (σ20 19)) 9 v23x25) 24 v23x25) 25 v25x26) 26 v25x26) 27 v27x28) 28 v28x31) 29 v29x34) 30 v30x37) 31 v31x40) 32 v32x42) H41)
      (ob (vLoad (σ20 7) H41) fun v33x43 =>
    ob (vInt .add v33x43 (.int .i64 1)) fun v34x44 =>
    st 1 (σ20 7) v34x44 H41 fun H45 =>
    ob (vLoad (σ20 6) H45) fun v35x46 =>
    ob (vLoad (σ20 7) H45) fun v37x47 =>
    ob (vIx 1 v35x46 (σ20 19)) fun v38x48 =>
    st 1 v38x48 v37x47 H45 fun H49 =>
    bS 1 1 #[(.int .i64 0)] 2 [(0, (σ20 19))] H49 fun v40x50 H51 =>
    nw #[(.slice none 0 0)] 22 H51 fun v10x52 H53 =>
    st 1 v10x52 v40x50 H53 fun H54 =>
    lpE (fun Q55 σ55 H55 =>
      ob (vLoad (σ55 10) H55) fun v41x56 =>
      ob (vLenSl v41x56) fun v42x57 =>
      ob (vInt .gtr v42x57 (.int .i64 0)) fun v43x58 =>
      cnd v43x58
        (ob (vLoad (σ55 10) H55) fun v44x59 =>
      ob (vLoad (σ55 10) H55) fun v45x60 =>
      ob (vLenSl v45x60) fun v46x61 =>
      ob (vInt .sub v46x61 (.int .i64 1)) fun v47x62 =>
      ob (vIx 1 v44x59 v47x62) fun v48x63 =>
      ob (vLoad v48x63 H55) fun v49x64 =>
      ob (vLoad (σ55 10) H55) fun v50x65 =>
      ob (vLoad (σ55 10) H55) fun v51x66 =>
      ob (vLenSl v51x66) fun v52x67 =>
      ob (vInt .sub v52x67 (.int .i64 1)) fun v53x68 =>
      ob (vSl3 1 v50x65 none (some v53x68) none) fun v54x69 =>
      st 1 (σ55 10) v54x69 H55 fun H70 =>
      ob (vFa 1 (σ55 2)) fun v57x71 =>
      ob (vLoad v57x71 H70) fun v58x72 =>
      ob (vInt .quo v49x64 v58x72) fun v59x73 =>
      ob (vFa 1 (σ55 2)) fun v61x74 =>
      ob (vLoad v61x74 H70) fun v62x75 =>
      ob (vInt .rem v49x64 v62x75) fun v63x76 =>
      callV prg (σ55 1) [v59x73, v63x76, (.func (.func I.impl_Field_clusters_1) #[] #[(σ55 2), (σ55 6), (σ55 7), (σ55 10)])] H70 fun v65x77 H78 =>
      Q55 .normal (up (up (up (up (up (up (up (up (up (up (up (up (up (up (up (up (up (up (up (up (up (up (up (up (up (up σ55 41 v41x56) 42 v42x57) 43 v43x58) 44 v44x59) 45 v45x60) 46 v46x61) 47 v47x62) 48 v48x63) 49 v49x64) 11 v49x64) 50 v50x65) 51 v51x66) 52 v52x67) 53 v53x68) 54 v54x69) 55 (σ55 1)) 56 v49x64) 57 v57x71) 58 v58x72) 59 v59x73) 60 v49x64) 61 v61x74) 62 v62x75) 63 v63x76) 64 (.func (.func I.impl_Field_clusters_1) #[] #[(σ55 2), (σ55 6), (σ55 7), (σ55 10)])) 65 v65x77) H78)
        (Q55 (.exit 2) (up (up (up σ55 41 v41x56) 42 v42x57) 43 v43x58) H55)) (blkQ 2 (blkQ 1 (thenQ J22 Q20))) (up (up (up (up (up (up (up (up (up (up (up (up (up (up (up (up (up (up (up (up (up (up (up (up σ20 20 v20x21) 21 (σ20 19)) 22 v22x24) 23 v23x25) 8 (σ20 19)) 9 v23x25) 24 v23x25) 25 v25x26) 26 v25x26) 27 v27x28) 28 v28x31) 29 v29x34) 30 v30x37) 31 v31x40) 32 v32x42) 33 v33x43) 34 v34x44) 35 v35x46) 36 (σ20 19)) 37 v37x47) 38 v38x48) 39 (σ20 19)) 40 v40x50) 10 v10x52) H54))
      (Q20 (.exit 0) (up σ20 20 v20x21) H20)) (blkQ 0 (thenQ J14 (retQ prg [(.tmp 4), (.tmp 5)] K))) (up (up (up (up (up (up (up (up (up (up (up (up (up (S0 [a0, a1]) 2 v2x1) 4 (.slice none 0 0)) 5 (.int .i64 0)) 12 v12x3) 13 v13x4) 14 v14x5) 15 v15x6) 6 v6x8) 7 v7x11) 16 v16x17) 17 v17x18) 18 v18x19) 19 (.int .i64 0)) H13
def O.impl_Field_clustersX : Nat → Nat × List Nat := fun i => bif Nat.beq i 15 then (2, [0, 1, 2, 3]) else bif Nat.beq i 13 then (2, [0, 1, 2, 3, 4, 5, 6, 7, 8, 9, 10]) else (0, [])
theorem R.impl_Field_clustersX {a0 a1 : Value} {H : Hp} {K : Value → Hp → Prop} (h : F.impl_Field_clustersX a0 a1 H K) : HT prg I.impl_Field_clusters [a0, a1].toArray H K :=
  HT_of_fev O.impl_Field_clustersX mixed Tryz.func77 (by kernel_rfl) (Eq.mpr (by kernel_rfl : fev prg O.impl_Field_clustersX Tryz.f77 [a0, a1] H K = F.impl_Field_clustersX a0 a1 H K) h)

/-! (loop.example/g01381/impl.Field).corners: function 78 -/
def F.impl_Field_corners (a0 a1 a2 a3 : Value) (H : Hp) (K : Value → Hp → Prop) : Prop :=
  nw (a0 : Value).cells 44 H fun v4x1 H2 =>
  ob (vInt .sub a1 (.int .i64 1)) fun v11x3 =>
  lpE (fun Q4 σ4 H4 =>
    ob (vInt .add (σ4 1) (.int .i64 1)) fun v14x5 =>
    ob (vInt .leq (σ4 8) v14x5) fun v15x6 =>
    cnd v15x6
      (jn (fun σ7 H7 =>
      ob (vInt .add (σ7 8) (.int .i64 1)) fun v17x8 =>
      Q4 .normal (up (up (up σ7 16 (σ7 8)) 17 v17x8) 8 v17x8) H7) fun J7 =>
    ob (vInt .sub (σ4 2) (.int .i64 1)) fun v19x9 =>
    lpE (fun Q10 σ10 H10 =>
      ob (vInt .add (σ10 2) (.int .i64 1)) fun v22x11 =>
      ob (vInt .leq (σ10 9) v22x11) fun v23x12 =>
      cnd v23x12
        (ob (vLoadN 3 (σ10 4) H10) fun v26x13 =>
      HT prg I.impl_Field_has [v26x13, (σ10 8), (σ10 9)].toArray H10 fun v29x14 H15 =>
      gop v29x14 true (fun K16 => K16 (σ10 8) H15) H15 fun v31x17 H18 =>
      gop v29x14 true (fun K19 => K19 (σ10 1) H18) H18 fun v32x20 H21 =>
      gop v29x14 true (fun K22 => ob (vInt .neq v31x17 v32x20) fun u => K22 u H21) H21 fun v33x23 H24 =>
      gop v29x14 true (fun K25 => K25 v33x23 H24) H24 fun v34x26 H27 =>
      gop v34x26 false (fun K28 => K28 (σ10 9) H27) H27 fun v35x29 H30 =>
      gop v34x26 false (fun K31 => K31 (σ10 2) H30) H30 fun v36x32 H33 =>
      gop v34x26 false (fun K34 => ob (vInt .neq v35x29 v36x32) fun u => K34 u H33) H33 fun v37x35 H36 =>
      gop v29x14 true (fun K37 => ob (vPick v34x26 (.bool true) v37x35) fun u => K37 u H36) H36 fun v38x38 H39 =>
      ob (vPick v29x14 v38x38 (.bool false)) fun v39x40 =>
      cnd v39x40
        (callV prg (σ10 3) [(σ10 8), (σ10 9)] H39 fun v43x41 H42 =>
        ob (vInt .add (σ10 9) (.int .i64 1)) fun v25x43 =>
      Q10 .normal (up (up (up (up (up (up (up (up (up (up (up (up (up (up (up (up (up (up (up (up (up (up (up (up (up σ10 20 (σ10 9)) 21 (σ10 2)) 22 v22x11) 23 v23x12) 26 v26x13) 27 (σ10 8)) 28 (σ10 9)) 29 v29x14) 30 v29x14) 31 v31x17) 32 v32x20) 33 v33x23) 34 v34x26) 35 v35x29) 36 v36x32) 37 v37x35) 38 v38x38) 39 v39x40) 40 (σ10 3)) 41 (σ10 8)) 42 (σ10 9)) 43 v43x41) 24 (σ10 9)) 25 v25x43) 9 v25x43) H42)
        (ob (vInt .add (σ10 9) (.int .i64 1)) fun v25x44 =>
      Q10 .normal (up (up (up (up (up (up (up (up (up (up (up (up (up (up (up (up (up (up (up (up (up σ10 20 (σ10 9)) 21 (σ10 2)) 22 v22x11) 23 v23x12) 26 v26x13) 27 (σ10 8)) 28 (σ10 9)) 29 v29x14) 30 v29x14) 31 v31x17) 32 v32x20) 33 v33x23) 34 v34x26) 35 v35x29) 36 v36x32) 37 v37x35) 38 v38x38) 39 v39x40) 24 (σ10 9)) 25 v25x44) 9 v25x44) H39))
        (Q10 (.exit 2) (up (up (up (up σ10 20 (σ10 9)) 21 (σ10 2)) 22 v22x11) 23 v23x12) H10)) (blkQ 2 (blkQ 1 (thenQ J7 Q4))) (up (up (up (up (up (up (up σ4 12 (σ4 8)) 13 (σ4 1)) 14 v14x5) 15 v15x6) 18 (σ4 2)) 19 v19x9) 9 v19x9) H4)
      (Q4 (.exit 0) (up (up (up (up σ4 12 (σ4 8)) 13 (σ4 1)) 14 v14x5) 15 v15x6) H4)) (blkQ 0 (retQ prg [] K)) (up (up (up (up (S0 [a0, a1, a2, a3]) 4 v4x1) 10 a1) 11 v11x3) 8 v11x3) H2
def O.impl_Field_corners : Nat → Nat × List Nat := fun i => (0, [])
theorem R.impl_Field_corners {a0 a1 a2 a3 : Value} {H : Hp} {K : Value → Hp → Prop} (h : F.impl_Field_corners a0 a1 a2 a3 H K) : HT prg I.impl_Field_corners [a0, a1, a2, a3].toArray H K :=
  HT_of_fev O.impl_Field_corners mixed Tryz.func78 (by kernel_rfl) (Eq.mpr (by kernel_rfl : fev prg O.impl_Field_corners Tryz.f78 [a0, a1, a2, a3] H K = F.impl_Field_corners a0 a1 a2 a3 H K) h)

/-! loop.example/g01381/impl.PartsOf$1: function 79 -/
def F.impl_PartsOf_1 (a0 a1 a2 a3 a4 : Value) (H : Hp) (K : Value → Hp → Prop) : Prop :=
  ob (vLoad a2 H) fun v8x1 =>
  ob (vFa 1 a3) fun v10x2 =>
  ob (vLoad v10x2 H) fun v11x3 =>
  ob (vInt .mul a0 v11x3) fun v12x4 =>
  ob (vInt .add v12x4 a1) fun v14x5 =>
  ob (vIx 1 v8x1 v14x5) fun v15x6 =>
  ob (vLoad v15x6 H) fun v16x7 =>
  ob (vLoad a4 H) fun v17x8 =>
  ob (vInt .add v17x8 (.int .i64 1)) fun v18x9 =>
  ob (vInt .eql v16x7 v18x9) fun v19x10 =>
  HT prg I.impl_bit [v19x10].toArray H fun v20x11 H12 =>
  Le H H12 ∧ (K v20x11 H12)
def O.impl_PartsOf_1 : Nat → Nat × List Nat := fun i => bif Nat.beq i 1 then (0, [0, 1, 2, 3, 4, 5, 6, 7, 8, 9, 10, 11, 12, 13]) else (0, [])
theorem R.impl_PartsOf_1 {a0 a1 a2 a3 a4 : Value} {H : Hp} {K : Value → Hp → Prop} (h : F.impl_PartsOf_1 a0 a1 a2 a3 a4 H K) : HT prg I.impl_PartsOf_1 [a0, a1, a2, a3, a4].toArray H K :=
  HT_of_fev O.impl_PartsOf_1 mixed Tryz.func79 (by kernel_rfl) (Eq.mpr (by kernel_rfl : fev prg O.impl_PartsOf_1 Tryz.f79 [a0, a1, a2, a3, a4] H K = F.impl_PartsOf_1 a0 a1 a2 a3 a4 H K) h)

/-! (loop.example/g01381/impl.Field).cut$1: function 124 -/
def F.impl_Field_cut_1 (a0 a1 a2 a3 a4 : Value) (H : Hp) (K : Value → Hp → Prop) : Prop :=
  ob (vLoadN 3 a2 H) fun v8x1 =>
  ob (vLoad a3 H) fun v9x2 =>
  ob (vInt .add v9x2 a0) fun v11x3 =>
  ob (vLoad a4 H) fun v12x4 =>
  ob (vInt .add v12x4 a1) fun v14x5 =>
  HT prg I.impl_Field_at [v8x1, v11x3, v14x5].toArray H fun v15x6 H7 =>
  K v15x6 H7
def O.impl_Field_cut_1 : Nat → Nat × List Nat := fun i => (0, [])
theorem R.impl_Field_cut_1 {a0 a1 a2 a3 a4 : Value} {H : Hp} {K : Value → Hp → Prop} (h : F.impl_Field_cut_1 a0 a1 a2 a3 a4 H K) : HT prg I.impl_Field_cut_1 [a0, a1, a2, a3, a4].toArray H K :=
  HT_of_fev O.impl_Field_cut_1 mixed Tryz.func124 (by kernel_rfl) (Eq.mpr (by kernel_rfl : fev prg O.impl_Field_cut_1 Tryz.f124 [a0, a1, a2, a3, a4] H K = F.impl_Field_cut_1 a0 a1 a2 a3 a4 H K) h)

/-! (loop.example/g01381/impl.Field).cut: function 103 -/
def F.impl_Field_cut (a0 a1 a2 a3 a4 : Value) (H : Hp) (K : Value → Hp → Prop) : Prop :=
  nw (a0 : Value).cells 44 H fun v5x1 H2 =>
  nw (a1 : Value).cells 2 H2 fun v6x3 H4 =>
  nw (a2 : Value).cells 2 H4 fun v7x5 H6 =>
  nw #[(.int .i64 0), (.int .i64 0), (.slice none 0 0)] 44 H6 fun v10x7 H8 =>
  HT prg I.impl_madeField [a3, a4, (.func (.func I.impl_Field_cut_1) #[] #[v5x1, v6x3, v7x5])].toArray H8 fun v14x9 H10 =>
  st 3 v10x7 v14x9 H10 fun H11 =>
  ob (vLoadN 3 v10x7 H11) fun u12 => K u12 H11
def O.impl_Field_cut : Nat → Nat × List Nat := fun i => (0, [])
theorem R.impl_Field_cut {a0 a1 a2 a3 a4 : Value} {H : Hp} {K : Value → Hp → Prop} (h : F.impl_Field_cut a0 a1 a2 a3 a4 H K) : HT prg I.impl_Field_cut [a0, a1, a2, a3, a4].toArray H K :=
  HT_of_fev O.impl_Field_cut mixed Tryz.func103 (by kernel_rfl) (Eq.mpr (by kernel_rfl : fev prg O.impl_Field_cut Tryz.f103 [a0, a1, a2, a3, a4] H K = F.impl_Field_cut a0 a1 a2 a3 a4 H K) h)

/-! (loop.example/g01381/impl.Field).trimmed: function 80 -/
def F.impl_Field_trimmed (a0 : Value) (H : Hp) (K : Value → Hp → Prop) : Prop :=
  nw (a0 : Value).cells 44 H fun v1x1 H2 =>
  nw #[(.int .i64 0), (.int .i64 0), (.slice none 0 0)] 44 H2 fun v2x3 H4 =>
  ob (vFa 0 v1x1) fun v14x5 =>
  ob (vLoad v14x5 H4) fun v15x6 =>
  ob (vFa 1 v1x1) fun v16x7 =>
  ob (vLoad v16x7 H4) fun v17x8 =>
  jn (fun σ9 H9 =>
    ob (vInt .lss (σ9 8) (.int .i64 0)) fun v50x10 =>
    cnd v50x10
      (ob (vBuild [(0, 1), (1, 1), (2, 1)] (.agg #[(.int .i64 0), (.int .i64 0), (.slice none 0 0)]) []) fun v51x11 =>
      st 3 (σ9 2) v51x11 H9 fun H12 =>
      ob (vLoadN 3 (σ9 2) H12) fun u13 => K (.tuple #[u13, (.int .i64 0), (.int .i64 0), (.bool false)]) H12)
      (ob (vLoadN 3 (σ9 1) H9) fun v52x14 =>
    ob (vInt .sub (σ9 8) (σ9 6)) fun v57x15 =>
    ob (vInt .add v57x15 (.int .i64 1)) fun v58x16 =>
    ob (vInt .sub (σ9 9) (σ9 7)) fun v61x17 =>
    ob (vInt .add v61x17 (.int .i64 1)) fun v62x18 =>
    HT prg I.impl_Field_cut [v52x14, (σ9 6), (σ9 7), v58x16, v62x18].toArray H9 fun v63x19 H20 =>
    st 3 (σ9 2) v63x19 H20 fun H21 =>
    ob (vLoadN 3 (σ9 2) H21) fun u22 => K (.tuple #[u22, (σ9 6), (σ9 7), (.bool true)]) H21)) fun J9 =>
  ob (vFa 2 v1x1) fun v18x23 =>
  ob (vLoad v18x23 H4) fun v19x24 =>
  ob (vLenSl v19x24) fun v20x25 =>
  lpE (fun Q26 σ26 H26 =>
    ob (vInt .lss (σ26 21) (σ26 20)) fun v22x27 =>
    cnd v22x27
      (ob (vIx 1 (σ26 19) (σ26 21)) fun v24x28 =>
    ob (vLoad v24x28 H26) fun v25x29 =>
    ob (vInt .eql v25x29 (.int .i64 1)) fun v27x30 =>
    cnd v27x30
      (ob (vFa 1 (σ26 1)) fun v29x31 =>
      ob (vLoad v29x31 H26) fun v30x32 =>
      ob (vInt .quo (σ26 21) v30x32) fun v31x33 =>
      ob (vFa 1 (σ26 1)) fun v33x34 =>
      ob (vLoad v33x34 H26) fun v34x35 =>
      ob (vInt .rem (σ26 21) v34x35) fun v35x36 =>
      ob (vMx false (σ26 6) [v31x33]) fun v38x37 =>
      ob (vMx false (σ26 7) [v35x36]) fun v41x38 =>
      ob (vMx true (σ26 8) [v31x33]) fun v44x39 =>
      ob (vMx true (σ26 9) [v35x36]) fun v47x40 =>
      ob (vInt .add (σ26 21) (.int .i64 1)) fun v48x41 =>
    Q26 .normal (up (up (up (up (up (up (up (up (up (up (up (up (up (up (up (up (up (up (up (up (up (up (up (up (up (up (up (up (up (up (up (up (up (up (up (up σ26 22 v22x27) 23 (σ26 21)) 24 v24x28) 25 v25x29) 10 (σ26 21)) 11 v25x29) 26 v25x29) 27 v27x30) 28 (σ26 21)) 29 v29x31) 30 v30x32) 31 v31x33) 32 (σ26 21)) 33 v33x34) 34 v34x35) 35 v35x36) 12 v31x33) 13 v35x36) 36 (σ26 6)) 37 v31x33) 38 v38x37) 39 (σ26 7)) 40 v35x36) 41 v41x38) 42 (σ26 8)) 43 v31x33) 44 v44x39) 45 (σ26 9)) 46 v35x36) 47 v47x40) 6 v38x37) 7 v41x38) 8 v44x39) 9 v47x40) 48 v48x41) 21 v48x41) H26)
      (ob (vInt .add (σ26 21) (.int .i64 1)) fun v48x42 =>
    Q26 .normal (up (up (up (up (up (up (up (up (up (up σ26 22 v22x27) 23 (σ26 21)) 24 v24x28) 25 v25x29) 10 (σ26 21)) 11 v25x29) 26 v25x29) 27 v27x30) 48 v48x42) 21 v48x42) H26))
      (Q26 (.exit 0) (up σ26 22 v22x27) H26)) (blkQ 0 (thenQ J9 (retQ prg [(.cell 2 44), (.tmp 3), (.tmp 4), (.tmp 5)] K))) (up (up (up (up (up (up (up (up (up (up (up (up (up (up (up (up (up (S0 [a0]) 1 v1x1) 2 v2x3) 3 (.int .i64 0)) 4 (.int .i64 0)) 5 (.bool false)) 14 v14x5) 15 v15x6) 16 v16x7) 17 v17x8) 6 v15x6) 7 v17x8) 8 (.int .i64 (-1))) 9 (.int .i64 (-1))) 18 v18x23) 19 v19x24) 20 v20x25) 21 (.int .i64 0)) H4
def O.impl_Field_trimmed : Nat → Nat × List Nat := fun i => bif Nat.beq i 1 then (0, [0, 1, 2, 3, 4, 5, 6, 7]) else bif Nat.beq i 6 then (0, [0, 1, 2, 3, 4, 5, 6, 7, 8, 9]) else (0, [])
theorem R.impl_Field_trimmed {a0 : Value} {H : Hp} {K : Value → Hp → Prop} (h : F.impl_Field_trimmed a0 H K) : HT prg I.impl_Field_trimmed [a0].toArray H K :=
  HT_of_fev O.impl_Field_trimmed mixed Tryz.func80 (by kernel_rfl) (Eq.mpr (by kernel_rfl : fev prg O.impl_Field_trimmed Tryz.f80 [a0] H K = F.impl_Field_trimmed a0 H K) h)

/-! loop.example/g01381/impl.PartsOf: function 46 -/
def F.impl_PartsOf (a0 : Value) (H : Hp) (K : Value → Hp → Prop) : Prop :=
  nw (a0 : Value).cells 44 H fun v1x1 H2 =>
  ob (vLoadN 3 v1x1 H2) fun v15x3 =>
  HT prg I.impl_isPlain [v15x3].toArray H2 fun v16x4 H5 =>
  ob (vUn .not v16x4) fun v17x6 =>
  cnd v17x6
    (K (.tuple #[(.slice none 0 0), (.slice none 0 0), (.bool false)]) H5)
    (ob (vLoadN 3 v1x1 H5) fun v19x7 =>
  ob (vLoadN 3 v1x1 H5) fun v20x8 =>
  HT prg I.impl_Field_clusters [v19x7, (.func (.func I.impl_Field_corners) #[v20x8] #[])].toArray H5 fun v22x9 H10 =>
  ob (vExt v22x9 0) fun v23x11 =>
  ob (vExt v22x9 1) fun v24x12 =>
  nw #[(.slice none 0 0)] 22 H10 fun v5x13 H14 =>
  st 1 v5x13 v23x11 H14 fun H15 =>
  bS 3 0 #[(.int .i64 0), (.int .i64 0), (.slice none 0 0)] 44 [] H15 fun v25x16 H17 =>
  bS 1 0 #[(.int .i64 0)] 2 [] H17 fun v26x18 H19 =>
  jn (fun σ20 H20 =>
    K (.tuple #[(σ20 7), (σ20 8), (.bool true)]) H20) fun J20 =>
  lpE (fun Q21 σ21 H21 =>
    ob (vInt .lss (σ21 28) (σ21 27)) fun v29x22 =>
    cnd v29x22
      (nw #[(.int .i64 0)] 2 H21 fun v9x23 H24 =>
    st 1 v9x23 (σ21 28) H24 fun H25 =>
    ob (vFa 0 (σ21 1)) fun v31x26 =>
    ob (vLoad v31x26 H25) fun v32x27 =>
    ob (vFa 1 (σ21 1)) fun v33x28 =>
    ob (vLoad v33x28 H25) fun v34x29 =>
    HT prg I.impl_madeField [v32x27, v34x29, (.func (.func I.impl_PartsOf_1) #[] #[(σ21 5), (σ21 1), v9x23])].toArray H25 fun v36x30 H31 =>
    nw #[(.int .i64 0), (.int .i64 0), (.slice none 0 0)] 44 H31 fun v10x32 H33 =>
    st 3 v10x32 v36x30 H33 fun H34 =>
    ob (vLoadN 3 v10x32 H34) fun v38x35 =>
    HT prg I.impl_Field_trimmed [v38x35].toArray H34 fun v39x36 H37 =>
    ob (vExt v39x36 0) fun v40x38 =>
    ob (vExt v39x36 1) fun v41x39 =>
    ob (vExt v39x36 2) fun v42x40 =>
    ob (vExt v39x36 3) fun v43x41 =>
    nw #[(.int .i64 0), (.int .i64 0), (.slice none 0 0)] 44 H37 fun v11x42 H43 =>
    st 3 v11x42 v40x38 H43 fun H44 =>
    ob (vLoadN 3 v11x42 H44) fun v45x45 =>
    bS 3 1 #[(.int .i64 0), (.int .i64 0), (.slice none 0 0)] 44 [(0, v45x45)] H44 fun v46x46 H47 =>
    apd 3 40 #[(.int .i64 0), (.int .i64 0), (.slice none 0 0)] 44 (σ21 7) v46x46 H47 fun v47x48 H49 =>
    bS 1 2 #[(.int .i64 0)] 2 [(0, v41x39), (1, v42x40)] H49 fun v51x50 H51 =>
    apd 1 8 #[(.int .i64 0)] 2 (σ21 8) v51x50 H51 fun v52x52 H53 =>
    ob (vInt .add (σ21 28) (.int .i64 1)) fun v53x54 =>
    Q21 .normal (up (up (up (up (up (up (up (up (up (up (up (up (up (up (up (up (up (up (up (up (up (up (up (up (up (up (up (up (up (up (up (up (up (up σ21 29 v29x22) 30 (σ21 28)) 9 v9x23) 31 v31x26) 32 v32x27) 33 v33x28) 34 v34x29) 35 (.func (.func I.impl_PartsOf_1) #[] #[(σ21 5), (σ21 1), v9x23])) 36 v36x30) 10 v10x32) 38 v38x35) 39 v39x36) 37 v39x36) 40 v40x38) 41 v41x39) 42 v42x40) 43 v43x41) 11 v11x42) 12 v41x39) 13 v42x40) 14 v43x41) 44 (σ21 7)) 45 v45x45) 46 v46x46) 47 v47x48) 48 (σ21 8)) 49 v41x39) 50 v42x40) 51 v51x50) 52 v52x52) 7 v47x48) 8 v52x52) 53 v53x54) 28 v53x54) H53)
      (Q21 (.exit 0) (up σ21 29 v29x22) H21)) (blkQ 0 (thenQ J20 (retQ prg [(.tmp 2), (.tmp 3), (.tmp 4)] K))) (up (up (up (up (up (up (up (up (up (up (up (up (up (up (up (up (up (up (up (up (up (up (S0 [a0]) 1 v1x1) 2 (.slice none 0 0)) 3 (.slice none 0 0)) 4 (.bool false)) 15 v15x3) 16 v16x4) 17 v17x6) 19 v19x7) 20 v20x8) 21 (.func (.func I.impl_Field_corners) #[v20x8] #[])) 22 v22x9) 18 v22x9) 23 v23x11) 24 v24x12) 5 v5x13) 6 v24x12) 25 v25x16) 26 v26x18) 7 v25x16) 8 v26x18) 27 v24x12) 28 (.int .i64 0)) H19)
def O.impl_PartsOf : Nat → Nat × List Nat := fun i => (0, [])
theorem R.impl_PartsOf {a0 : Value} {H : Hp} {K : Value → Hp → Prop} (h : F.impl_PartsOf a0 H K) : HT prg I.impl_PartsOf [a0].toArray H K :=
  HT_of_fev O.impl_PartsOf mixed Tryz.func46 (by kernel_rfl) (Eq.mpr (by kernel_rfl : fev prg O.impl_PartsOf Tryz.f46 [a0] H K = F.impl_PartsOf a0 H K) h)

/-! (loop.example/g01381/impl.Field).mirrored$1: function 125 -/
def F.impl_Field_mirrored_1 (a0 a1 a2 : Value) (H : Hp) (K : Value → Hp → Prop) : Prop :=
  ob (vLoadN 3 a2 H) fun v6x1 =>
  ob (vFa 1 a2) fun v8x2 =>
  ob (vLoad v8x2 H) fun v9x3 =>
  ob (vInt .sub v9x3 (.int .i64 1)) fun v10x4 =>
  ob (vInt .sub v10x4 a1) fun v12x5 =>
  HT prg I.impl_Field_at [v6x1, a0, v12x5].toArray H fun v13x6 H7 =>
  K v13x6 H7
def O.impl_Field_mirrored_1 : Nat → Nat × List Nat := fun i => (0, [])
theorem R.impl_Field_mirrored_1 {a0 a1 a2 : Value} {H : Hp} {K : Value → Hp → Prop} (h : F.impl_Field_mirrored_1 a0 a1 a2 H K) : HT prg I.impl_Field_mirrored_1 [a0, a1, a2].toArray H K :=
  HT_of_fev O.impl_Field_mirrored_1 mixed Tryz.func125 (by kernel_rfl) (Eq.mpr (by kernel_rfl : fev prg O.impl_Field_mirrored_1 Tryz.f125 [a0, a1, a2] H K = F.impl_Field_mirrored_1 a0 a1 a2 H K) h)

/-! (loop.example/g01381/impl.Field).mirrored: function 104 -/
def F.impl_Field_mirrored (a0 : Value) (H : Hp) (K : Value → Hp → Prop) : Prop :=
  nw (a0 : Value).cells 44 H fun v1x1 H2 =>
  nw #[(.int .i64 0), (.int .i64 0), (.slice none 0 0)] 44 H2 fun v2x3 H4 =>
  ob (vFa 0 v1x1) fun v3x5 =>
  ob (vLoad v3x5 H4) fun v4x6 =>
  ob (vFa 1 v1x1) fun v5x7 =>
  ob (vLoad v5x7 H4) fun v6x8 =>
  HT prg I.impl_madeField [v4x6, v6x8, (.func (.func I.impl_Field_mirrored_1) #[] #[v1x1])].toArray H4 fun v8x9 H10 =>
  st 3 v2x3 v8x9 H10 fun H11 =>
  ob (vLoadN 3 v2x3 H11) fun u12 => K u12 H11
def O.impl_Field_mirrored : Nat → Nat × List Nat := fun i => (0, [])
theorem R.impl_Field_mirrored {a0 : Value} {H : Hp} {K : Value → Hp → Prop} (h : F.impl_Field_mirrored a0 H K) : HT prg I.impl_Field_mirrored [a0].toArray H K :=
  HT_of_fev O.impl_Field_mirrored mixed Tryz.func104 (by kernel_rfl) (Eq.mpr (by kernel_rfl : fev prg O.impl_Field_mirrored Tryz.f104 [a0] H K = F.impl_Field_mirrored a0 H K) h)

/-! (loop.example/g01381/impl.Field).right$1: function 126 -/
def F.impl_Field_right_1 (a0 a1 a2 : Value) (H : Hp) (K : Value → Hp → Prop) : Prop :=
  ob (vLoadN 3 a2 H) fun v6x1 =>
  ob (vFa 0 a2) fun v7x2 =>
  ob (vLoad v7x2 H) fun v8x3 =>
  ob (vInt .sub v8x3 (.int .i64 1)) fun v9x4 =>
  ob (vInt .sub v9x4 a1) fun v11x5 =>
  HT prg I.impl_Field_at [v6x1, v11x5, a0].toArray H fun v13x6 H7 =>
  K v13x6 H7
def O.impl_Field_right_1 : Nat → Nat × List Nat := fun i => (0, [])
theorem R.impl_Field_right_1 {a0 a1 a2 : Value} {H : Hp} {K : Value → Hp → Prop} (h : F.impl_Field_right_1 a0 a1 a2 H K) : HT prg I.impl_Field_right_1 [a0, a1, a2].toArray H K :=
  HT_of_fev O.impl_Field_right_1 mixed Tryz.func126 (by kernel_rfl) (Eq.mpr (by kernel_rfl : fev prg O.impl_Field_right_1 Tryz.f126 [a0, a1, a2] H K = F.impl_Field_right_1 a0 a1 a2 H K) h)

/-! (loop.example/g01381/impl.Field).right: function 105 -/
def F.impl_Field_right (a0 : Value) (H : Hp) (K : Value → Hp → Prop) : Prop :=
  nw (a0 : Value).cells 44 H fun v1x1 H2 =>
  nw #[(.int .i64 0), (.int .i64 0), (.slice none 0 0)] 44 H2 fun v2x3 H4 =>
  ob (vFa 1 v1x1) fun v3x5 =>
  ob (vLoad v3x5 H4) fun v4x6 =>
  ob (vFa 0 v1x1) fun v5x7 =>
  ob (vLoad v5x7 H4) fun v6x8 =>
  HT prg I.impl_madeField [v4x6, v6x8, (.func (.func I.impl_Field_right_1) #[] #[v1x1])].toArray H4 fun v8x9 H10 =>
  st 3 v2x3 v8x9 H10 fun H11 =>
  ob (vLoadN 3 v2x3 H11) fun u12 => K u12 H11
def O.impl_Field_right : Nat → Nat × List Nat := fun i => (0, [])
theorem R.impl_Field_right {a0 : Value} {H : Hp} {K : Value → Hp → Prop} (h : F.impl_Field_right a0 H K) : HT prg I.impl_Field_right [a0].toArray H K :=
  HT_of_fev O.impl_Field_right mixed Tryz.func105 (by kernel_rfl) (Eq.mpr (by kernel_rfl : fev prg O.impl_Field_right Tryz.f105 [a0] H K = F.impl_Field_right a0 H K) h)

/-! (loop.example/g01381/impl.Field).images: function 81 -/
def F.impl_Field_images (a0 : Value) (H : Hp) (K : Value → Hp → Prop) : Prop :=
  nw (a0 : Value).cells 44 H fun v1x1 H2 =>
  bS 3 0 #[(.int .i64 0), (.int .i64 0), (.slice none 0 0)] 44 [] H2 fun v6x3 H4 =>
  jn (fun σ5 H5 =>
    K (σ5 3) H5) fun J5 =>
  ob (vLoadN 3 v1x1 H4) fun v7x6 =>
  ob (vLoadN 3 v1x1 H4) fun v9x7 =>
  HT prg I.impl_copyField [v7x6].toArray H4 fun v8x8 H9 =>
  Le H4 H9 ∧ (HT prg I.impl_Field_mirrored [v9x7].toArray H9 fun v10x10 H11 =>
  Le H9 H11 ∧ (bS 3 2 #[(.int .i64 0), (.int .i64 0), (.slice none 0 0)] 44 [(0, v8x8), (1, v10x10)] H11 fun v11x12 H13 =>
  ob (vLenSl v11x12) fun v12x14 =>
  lpE (fun Q15 σ15 H15 =>
    ob (vInt .lss (σ15 13) (σ15 12)) fun v14x16 =>
    cnd v14x16
      (jn (fun σ17 H17 =>
      ob (vInt .add (σ17 13) (.int .i64 1)) fun v26x18 =>
      Q15 .normal (up (up σ17 26 v26x18) 13 v26x18) H17) fun J17 =>
    ob (vIx 3 (σ15 11) (σ15 13)) fun v15x19 =>
    ob (vLoadN 3 v15x19 H15) fun v16x20 =>
    nw #[(.int .i64 0), (.int .i64 0), (.slice none 0 0)] 44 H15 fun v5x21 H22 =>
    st 3 v5x21 v16x20 H22 fun H23 =>
    lpE (fun Q24 σ24 H24 =>
      ob (vInt .lss (σ24 17) (.int .i64 4)) fun v18x25 =>
      cnd v18x25
        (ob (vLoadN 3 (σ24 5) H24) fun v20x26 =>
      bS 3 1 #[(.int .i64 0), (.int .i64 0), (.slice none 0 0)] 44 [(0, v20x26)] H24 fun v21x27 H28 =>
      apd 3 40 #[(.int .i64 0), (.int .i64 0), (.slice none 0 0)] 44 (σ24 3) v21x27 H28 fun v22x29 H30 =>
      ob (vLoadN 3 (σ24 5) H30) fun v23x31 =>
      HT prg I.impl_Field_right [v23x31].toArray H30 fun v24x32 H33 =>
      st 3 (σ24 5) v24x32 H33 fun H34 =>
      ob (vInt .add (σ24 17) (.int .i64 1)) fun v25x35 =>
      Q24 .normal (up (up (up (up (up (up (up (up (up (up σ24 18 v18x25) 19 (σ24 3)) 20 v20x26) 21 v21x27) 22 v22x29) 3 v22x29) 23 v23x31) 24 v24x32) 25 v25x35) 17 v25x35) H34)
        (Q24 (.exit 2) (up σ24 18 v18x25) H24)) (blkQ 2 (blkQ 1 (thenQ J17 Q15))) (up (up (up (up (up σ15 14 v14x16) 15 v15x19) 16 v16x20) 5 v5x21) 17 (.int .i64 0)) H23)
      (Q15 (.exit 0) (up σ15 14 v14x16) H15)) (blkQ 0 (thenQ J5 (retQ prg [(.tmp 2)] K))) (up (up (up (up (up (up (up (up (up (up (up (S0 [a0]) 1 v1x1) 2 (.slice none 0 0)) 6 v6x3) 3 v6x3) 7 v7x6) 9 v9x7) 13 (.int .i64 0)) 8 v8x8) 10 v10x10) 11 v11x12) 12 v12x14) H13))
def O.impl_Field_images : Nat → Nat × List Nat := fun i => bif Nat.beq i 2 then (0, [0, 2, 6, 1, 3, 4, 5]) else (0, [])
theorem R.impl_Field_images {a0 : Value} {H : Hp} {K : Value → Hp → Prop} (h : F.impl_Field_images a0 H K) : HT prg I.impl_Field_images [a0].toArray H K :=
  HT_of_fev O.impl_Field_images mixed Tryz.func81 (by kernel_rfl) (Eq.mpr (by kernel_rfl : fev prg O.impl_Field_images Tryz.f81 [a0] H K = F.impl_Field_images a0 H K) h)

/-! slices.Chunk[[]int64,int64]$1: function 127 -/
def F.slices_Chunk_int64Zint64Z1 (a0 a1 a2 : Value) (H : Hp) (K : Value → Hp → Prop) : Prop :=
  lpE (fun Q1 σ1 H1 =>
    ob (vLoad (σ1 1) H1) fun v7x2 =>
    ob (vLenSl v7x2) fun v8x3 =>
    ob (vInt .lss (σ1 4) v8x3) fun v9x4 =>
    cnd v9x4
      (ob (vLoad (σ1 2) H1) fun v13x5 =>
    ob (vLoad (σ1 1) H1) fun v14x6 =>
    ob (vSl3 1 v14x6 (some (σ1 4)) none none) fun v16x7 =>
    ob (vLenSl v16x7) fun v17x8 =>
    ob (vMx false v13x5 [v17x8]) fun v18x9 =>
    ob (vLoad (σ1 1) H1) fun v20x10 =>
    ob (vInt .add (σ1 4) v18x9) fun v24x11 =>
    ob (vInt .add (σ1 4) v18x9) fun v27x12 =>
    ob (vSl3 1 v20x10 (some (σ1 4)) (some v24x11) (some v27x12)) fun v28x13 =>
    callV prg (σ1 0) [v28x13] H1 fun v29x14 H15 =>
    ob (vUn .not v29x14) fun v30x16 =>
    cnd v30x16
      (Q1 .ret (up (up (up (up (up (up (up (up (up (up (up (up (up (up (up (up (up (up (up (up (up (up (up σ1 6 (σ1 4)) 7 v7x2) 8 v8x3) 9 v9x4) 13 v13x5) 14 v14x6) 15 (σ1 4)) 16 v16x7) 17 v17x8) 18 v18x9) 5 v18x9) 19 (σ1 0)) 20 v20x10) 21 (σ1 4)) 22 (σ1 4)) 23 v18x9) 24 v24x11) 25 (σ1 4)) 26 v18x9) 27 v27x12) 28 v28x13) 29 v29x14) 30 v30x16) H15)
      (ob (vLoad (σ1 2) H15) fun v11x17 =>
    ob (vInt .add (σ1 4) v11x17) fun v12x18 =>
    Q1 .normal (up (up (up (up (up (up (up (up (up (up (up (up (up (up (up (up (up (up (up (up (up (up (up (up (up (up (up σ1 6 (σ1 4)) 7 v7x2) 8 v8x3) 9 v9x4) 13 v13x5) 14 v14x6) 15 (σ1 4)) 16 v16x7) 17 v17x8) 18 v18x9) 5 v18x9) 19 (σ1 0)) 20 v20x10) 21 (σ1 4)) 22 (σ1 4)) 23 v18x9) 24 v24x11) 25 (σ1 4)) 26 v18x9) 27 v27x12) 28 v28x13) 29 v29x14) 30 v30x16) 10 (σ1 4)) 11 v11x17) 12 v12x18) 4 v12x18) H15))
      (Q1 (.exit 0) (up (up (up (up σ1 6 (σ1 4)) 7 v7x2) 8 v8x3) 9 v9x4) H1)) (blkQ 0 (retQ prg [] K)) (up (S0 [a0, a1, a2]) 4 (.int .i64 0)) H
def O.slices_Chunk_int64Zint64Z1 : Nat → Nat × List Nat := fun i => bif Nat.beq i 3 then (0, [0, 1, 2, 3, 4, 5, 6]) else (0, [])
theorem R.slices_Chunk_int64Zint64Z1 {a0 a1 a2 : Value} {H : Hp} {K : Value → Hp → Prop} (h : F.slices_Chunk_int64Zint64Z1 a0 a1 a2 H K) : HT prg I.slices_Chunk_int64Zint64Z1 [a0, a1, a2].toArray H K :=
  HT_of_fev O.slices_Chunk_int64Zint64Z1 mixed Tryz.func127 (by kernel_rfl) (Eq.mpr (by kernel_rfl : fev prg O.slices_Chunk_int64Zint64Z1 Tryz.f127 [a0, a1, a2] H K = F.slices_Chunk_int64Zint64Z1 a0 a1 a2 H K) h)

/-! slices.Chunk[[]int64,int64]: function 106 -/
def F.slices_Chunk_int64Zint64 (a0 a1 : Value) (H : Hp) (K : Value → Hp → Prop) : Prop :=
  nw (a0 : Value).cells 22 H fun v2x1 H2 =>
  nw (a1 : Value).cells 3 H2 fun v3x3 H4 =>
  ob (vLoad v3x3 H4) fun v5x5 =>
  ob (vInt .lss v5x5 (.int .i64 1)) fun v6x6 =>
  cnd v6x6
    (ob (val prg (Instr.makeInterface 9 (.string ⟨#[99, 97, 110, 110, 111, 116, 32, 98, 101, 32, 108, 101, 115, 115, 32, 116, 104, 97, 110, 32, 49]⟩)) H4) fun v7x7 =>
    hp prg (do pure (Next.value (← Instr.panic v7x7))) H4 (nextH prg (fun _ H8 =>
    K (.func (.func I.slices_Chunk_int64Zint64Z1) #[] #[v2x1, v3x3]) H8)))
    (K (.func (.func I.slices_Chunk_int64Zint64Z1) #[] #[v2x1, v3x3]) H4)
def O.slices_Chunk_int64Zint64 : Nat → Nat × List Nat := fun i => (0, [])
theorem R.slices_Chunk_int64Zint64 {a0 a1 : Value} {H : Hp} {K : Value → Hp → Prop} (h : F.slices_Chunk_int64Zint64 a0 a1 H K) : HT prg I.slices_Chunk_int64Zint64 [a0, a1].toArray H K :=
  HT_of_fev O.slices_Chunk_int64Zint64 mixed Tryz.func106 (by kernel_rfl) (Eq.mpr (by kernel_rfl : fev prg O.slices_Chunk_int64Zint64 Tryz.f106 [a0, a1] H K = F.slices_Chunk_int64Zint64 a0 a1 H K) h)

/-! internal/strconv.small: function 143 -/
def F.internal_strconv_small (a0 : Value) (H : Hp) (K : Value → Hp → Prop) : Prop :=
  ob (vInt .lss a0 (.int .i64 10)) fun v4x1 =>
  cnd v4x1
    (ob (vInt .add a0 (.int .i64 1)) fun v7x2 =>
    ob (vSlS (.string ⟨#[48, 49, 50, 51, 52, 53, 54, 55, 56, 57, 97, 98, 99, 100, 101, 102, 103, 104, 105, 106, 107, 108, 109, 110, 111, 112, 113, 114, 115, 116, 117, 118, 119, 120, 121, 122]⟩) (some a0) (some v7x2)) fun v8x3 =>
    K v8x3 H)
    (ob (vInt .mul a0 (.int .i64 2)) fun v10x4 =>
  ob (vInt .mul a0 (.int .i64 2)) fun v12x5 =>
  ob (vInt .add v12x5 (.int .i64 2)) fun v13x6 =>
  ob (vSlS (.string ⟨#[48, 48, 48, 49, 48, 50, 48, 51, 48, 52, 48, 53, 48, 54, 48, 55, 48, 56, 48, 57, 49, 48, 49, 49, 49, 50, 49, 51, 49, 52, 49, 53, 49, 54, 49, 55, 49, 56, 49, 57, 50, 48, 50, 49, 50, 50, 50, 51, 50, 52, 50, 53, 50, 54, 50, 55, 50, 56, 50, 57, 51, 48, 51, 49, 51, 50, 51, 51, 51, 52, 51, 53, 51, 54, 51, 55, 51, 56, 51, 57, 52, 48, 52, 49, 52, 50, 52, 51, 52, 52, 52, 53, 52, 54, 52, 55, 52, 56, 52, 57, 53, 48, 53, 49, 53, 50, 53, 51, 53, 52, 53, 53, 53, 54, 53, 55, 53, 56, 53, 57, 54, 48, 54, 49, 54, 50, 54, 51, 54, 52, 54, 53, 54, 54, 54, 55, 54, 56, 54, 57, 55, 48, 55, 49, 55, 50, 55, 51, 55, 52, 55, 53, 55, 54, 55, 55, 55, 56, 55, 57, 56, 48, 56, 49, 56, 50, 56, 51, 56, 52, 56, 53, 56, 54, 56, 55, 56, 56, 56, 57, 57, 48, 57, 49, 57, 50, 57, 51, 57, 52, 57, 53, 57, 54, 57, 55, 57, 56, 57, 57]⟩) (some v10x4) (some v13x6)) fun v14x7 =>
  K v14x7 H)
def O.internal_strconv_small : Nat → Nat × List Nat := fun i => (0, [])
theorem R.internal_strconv_small {a0 : Value} {H : Hp} {K : Value → Hp → Prop} (h : F.internal_strconv_small a0 H K) : HT prg I.internal_strconv_small [a0].toArray H K :=
  HT_of_fev O.internal_strconv_small mixed Tryz.func143 (by kernel_rfl) (Eq.mpr (by kernel_rfl : fev prg O.internal_strconv_small Tryz.f143 [a0] H K = F.internal_strconv_small a0 H K) h)

/-! math/bits.Len64: function 120 -/
def F.math_bits_Len64 (a0 : Value) (H : Hp) (K : Value → Hp → Prop) : Prop :=
  jn (fun σ1 H1 =>
    jn (fun σ2 H2 =>
      ob (vInt .geq (σ2 0) (.int .u64 256)) fun v14x3 =>
      cnd v14x3
        (ob (vInt .shr (σ2 0) (.int .u64 8)) fun v16x4 =>
        ob (vInt .add (σ2 2) (.int .i64 8)) fun v18x5 =>
        ob (vCI .u8 v16x4) fun v21x6 =>
      ob (vIndexS (.string ⟨#[0, 1, 2, 2, 3, 3, 3, 3, 4, 4, 4, 4, 4, 4, 4, 4, 5, 5, 5, 5, 5, 5, 5, 5, 5, 5, 5, 5, 5, 5, 5, 5, 6, 6, 6, 6, 6, 6, 6, 6, 6, 6, 6, 6, 6, 6, 6, 6, 6, 6, 6, 6, 6, 6, 6, 6, 6, 6, 6, 6, 6, 6, 6, 6, 7, 7, 7, 7, 7, 7, 7, 7, 7, 7, 7, 7, 7, 7, 7, 7, 7, 7, 7, 7, 7, 7, 7, 7, 7, 7, 7, 7, 7, 7, 7, 7, 7, 7, 7, 7, 7, 7, 7, 7, 7, 7, 7, 7, 7, 7, 7, 7, 7, 7, 7, 7, 7, 7, 7, 7, 7, 7, 7, 7, 7, 7, 7, 7, 8, 8, 8, 8, 8, 8, 8, 8, 8, 8, 8, 8, 8, 8, 8, 8, 8, 8, 8, 8, 8, 8, 8, 8, 8, 8, 8, 8, 8, 8, 8, 8, 8, 8, 8, 8, 8, 8, 8, 8, 8, 8, 8, 8, 8, 8, 8, 8, 8, 8, 8, 8, 8, 8, 8, 8, 8, 8, 8, 8, 8, 8, 8, 8, 8, 8, 8, 8, 8, 8, 8, 8, 8, 8, 8, 8, 8, 8, 8, 8, 8, 8, 8, 8, 8, 8, 8, 8, 8, 8, 8, 8, 8, 8, 8, 8, 8, 8, 8, 8, 8, 8, 8, 8, 8, 8, 8, 8, 8, 8, 8, 8, 8, 8, 8, 8, 8, 8, 8, 8, 8, 8, 8, 8, 8, 8, 8, 8]⟩) v21x6) fun v22x7 =>
      ob (vCI .i64 v22x7) fun v23x8 =>
      ob (vInt .add v18x5 v23x8) fun v24x9 =>
      K v24x9 H2)
        (ob (vCI .u8 (σ2 0)) fun v21x10 =>
      ob (vIndexS (.string ⟨#[0, 1, 2, 2, 3, 3, 3, 3, 4, 4, 4, 4, 4, 4, 4, 4, 5, 5, 5, 5, 5, 5, 5, 5, 5, 5, 5, 5, 5, 5, 5, 5, 6, 6, 6, 6, 6, 6, 6, 6, 6, 6, 6, 6, 6, 6, 6, 6, 6, 6, 6, 6, 6, 6, 6, 6, 6, 6, 6, 6, 6, 6, 6, 6, 7, 7, 7, 7, 7, 7, 7, 7, 7, 7, 7, 7, 7, 7, 7, 7, 7, 7, 7, 7, 7, 7, 7, 7, 7, 7, 7, 7, 7, 7, 7, 7, 7, 7, 7, 7, 7, 7, 7, 7, 7, 7, 7, 7, 7, 7, 7, 7, 7, 7, 7, 7, 7, 7, 7, 7, 7, 7, 7, 7, 7, 7, 7, 7, 8, 8, 8, 8, 8, 8, 8, 8, 8, 8, 8, 8, 8, 8, 8, 8, 8, 8, 8, 8, 8, 8, 8, 8, 8, 8, 8, 8, 8, 8, 8, 8, 8, 8, 8, 8, 8, 8, 8, 8, 8, 8, 8, 8, 8, 8, 8, 8, 8, 8, 8, 8, 8, 8, 8, 8, 8, 8, 8, 8, 8, 8, 8, 8, 8, 8, 8, 8, 8, 8, 8, 8, 8, 8, 8, 8, 8, 8, 8, 8, 8, 8, 8, 8, 8, 8, 8, 8, 8, 8, 8, 8, 8, 8, 8, 8, 8, 8, 8, 8, 8, 8, 8, 8, 8, 8, 8, 8, 8, 8, 8, 8, 8, 8, 8, 8, 8, 8, 8, 8, 8, 8, 8, 8, 8, 8, 8, 8]⟩) v21x10) fun v22x11 =>
      ob (vCI .i64 v22x11) fun v23x12 =>
      ob (vInt .add (σ2 2) v23x12) fun v24x13 =>
      K v24x13 H2)) fun J2 =>
    ob (vInt .geq (σ1 0) (.int .u64 65536)) fun v8x14 =>
    cnd v8x14
      (ob (vInt .shr (σ1 0) (.int .u64 16)) fun v10x15 =>
      ob (vInt .add (σ1 2) (.int .i64 16)) fun v12x16 =>
      J2 (up (up (up (up (up (up (up (up σ1 7 (σ1 0)) 8 v8x14) 9 (σ1 0)) 10 v10x15) 0 v10x15) 11 (σ1 2)) 12 v12x16) 2 v12x16) H1)
      (J2 (up (up σ1 7 (σ1 0)) 8 v8x14) H1)) fun J1 =>
  ob (vInt .geq a0 (.int .u64 4294967296)) fun v4x17 =>
  cnd v4x17
    (ob (vInt .shr a0 (.int .u64 32)) fun v6x18 =>
    J1 (up (up (up (up (up (up (up (S0 [a0]) 2 (.int .i64 0)) 3 a0) 4 v4x17) 5 a0) 6 v6x18) 0 v6x18) 2 (.int .i64 32)) H)
    (J1 (up (up (up (S0 [a0]) 2 (.int .i64 0)) 3 a0) 4 v4x17) H)
def O.math_bits_Len64 : Nat → Nat × List Nat := fun i => (0, [])
theorem R.math_bits_Len64 {a0 : Value} {H : Hp} {K : Value → Hp → Prop} (h : F.math_bits_Len64 a0 H K) : HT prg I.math_bits_Len64 [a0].toArray H K :=
  HT_of_fev O.math_bits_Len64 mixed Tryz.func120 (by kernel_rfl) (Eq.mpr (by kernel_rfl : fev prg O.math_bits_Len64 Tryz.f120 [a0] H K = F.math_bits_Len64 a0 H K) h)

/-! internal/strconv.FormatInt: function 139 -/
def F.internal_strconv_FormatInt (a0 a1 : Value) (H : Hp) (K : Value → Hp → Prop) : Prop :=
  ob (vInt .eql a1 (.int .i64 10)) fun v11x1 =>
  cnd v11x1
    (ob (vInt .leq (.int .i64 0) a0) fun v13x2 =>
    gop v13x2 true (fun K3 => K3 a0 H) H fun v15x4 H5 =>
    gop v13x2 true (fun K6 => ob (vInt .lss v15x4 (.int .i64 100)) fun u => K6 u H5) H5 fun v16x7 H8 =>
    ob (vPick v13x2 v16x7 (.bool false)) fun v17x9 =>
    cnd v17x9
      (HT prg I.internal_strconv_small [a0].toArray H8 fun v19x10 H11 =>
      K v19x10 H11)
      (nw #[(.int .u8 0), (.int .u8 0), (.int .u8 0), (.int .u8 0), (.int .u8 0), (.int .u8 0), (.int .u8 0), (.int .u8 0), (.int .u8 0), (.int .u8 0), (.int .u8 0), (.int .u8 0), (.int .u8 0), (.int .u8 0), (.int .u8 0), (.int .u8 0), (.int .u8 0), (.int .u8 0), (.int .u8 0), (.int .u8 0), (.int .u8 0), (.int .u8 0), (.int .u8 0), (.int .u8 0)] 158 H8 fun v5x12 H13 =>
    ob (vCI .u64 a0) fun v21x14 =>
    jn (fun σ15 H15 =>
      HT prg I.internal_strconv_numDigits [(σ15 6)].toArray H15 fun v27x16 H17 =>
      ob (vInt .add (.int .i64 1) v27x16) fun v29x18 =>
      ob (vSlA 24 1 (σ15 5) (some (.int .i64 1)) (some v29x18)) fun v30x19 =>
      HT prg I.internal_strconv_formatBase10 [v30x19, (σ15 6)].toArray H17 fun v32x20 H21 =>
      ob (vInt .lss (σ15 0) (.int .i64 0)) fun v34x22 =>
      cnd v34x22
        (ob (vIxArr 24 1 (σ15 5) (.int .i64 0)) fun v35x23 =>
        st 1 v35x23 (.int .u8 45) H21 fun H24 =>
        ob (vInt .add (.int .i64 1) v27x16) fun v37x25 =>
        ob (vSlA 24 1 (σ15 5) none (some v37x25)) fun v38x26 =>
        ob (val prg (convert 78 9 v38x26) H24) fun v39x27 =>
        K v39x27 H24)
        (ob (vInt .add (.int .i64 1) v27x16) fun v41x28 =>
      ob (vSlA 24 1 (σ15 5) (some (.int .i64 1)) (some v41x28)) fun v42x29 =>
      ob (val prg (convert 78 9 v42x29) H21) fun v43x30 =>
      K v43x30 H21)) fun J15 =>
    ob (vInt .lss a0 (.int .i64 0)) fun v23x31 =>
    cnd v23x31
      (ob (vUn .neg v21x14) fun v25x32 =>
      J15 (up (up (up (up (up (up (up (up (up (up (up (up (up (up (up (up (up (up (S0 [a0, a1]) 4 (.string ⟨#[]⟩)) 10 a1) 11 v11x1) 12 a0) 13 v13x2) 14 v13x2) 15 v15x4) 16 v16x7) 17 v17x9) 5 v5x12) 20 a0) 21 v21x14) 6 v21x14) 22 a0) 23 v23x31) 24 v21x14) 25 v25x32) 6 v25x32) H13)
      (J15 (up (up (up (up (up (up (up (up (up (up (up (up (up (up (up (S0 [a0, a1]) 4 (.string ⟨#[]⟩)) 10 a1) 11 v11x1) 12 a0) 13 v13x2) 14 v13x2) 15 v15x4) 16 v16x7) 17 v17x9) 5 v5x12) 20 a0) 21 v21x14) 6 v21x14) 22 a0) 23 v23x31) H13)))
    (ob (vCI .u64 a0) fun v46x33 =>
  ob (vInt .lss a0 (.int .i64 0)) fun v49x34 =>
  HT prg I.internal_strconv_formatBits [(.slice none 0 0), v46x33, a1, v49x34, (.bool false)].toArray H fun v50x35 H36 =>
  ob (vExt v50x35 0) fun v51x37 =>
  ob (vExt v50x35 1) fun v52x38 =>
  K v52x38 H36)
def O.internal_strconv_FormatInt : Nat → Nat × List Nat := fun i => (0, [])
theorem R.internal_strconv_FormatInt {a0 a1 : Value} {H : Hp} {K : Value → Hp → Prop} (h : F.internal_strconv_FormatInt a0 a1 H K) : HT prg I.internal_strconv_FormatInt [a0, a1].toArray H K :=
  HT_of_fev O.internal_strconv_FormatInt mixed Tryz.func139 (by kernel_rfl) (Eq.mpr (by kernel_rfl : fev prg O.internal_strconv_FormatInt Tryz.f139 [a0, a1] H K = F.internal_strconv_FormatInt a0 a1 H K) h)

/-! strconv.FormatInt: function 128 -/
def F.strconv_FormatInt (a0 a1 : Value) (H : Hp) (K : Value → Hp → Prop) : Prop :=
  HT prg I.internal_strconv_FormatInt [a0, a1].toArray H fun v7x1 H2 =>
  K v7x1 H2
def O.strconv_FormatInt : Nat → Nat × List Nat := fun i => (0, [])
theorem R.strconv_FormatInt {a0 a1 : Value} {H : Hp} {K : Value → Hp → Prop} (h : F.strconv_FormatInt a0 a1 H K) : HT prg I.strconv_FormatInt [a0, a1].toArray H K :=
  HT_of_fev O.strconv_FormatInt mixed Tryz.func128 (by kernel_rfl) (Eq.mpr (by kernel_rfl : fev prg O.strconv_FormatInt Tryz.f128 [a0, a1] H K = F.strconv_FormatInt a0 a1 H K) h)

/-! loop.example/g01381/impl.Decimal: function 108 -/
def F.impl_Decimal (a0 : Value) (H : Hp) (K : Value → Hp → Prop) : Prop :=
  HT prg I.strconv_FormatInt [a0, (.int .i64 10)].toArray H fun v4x1 H2 =>
  K v4x1 H2
def O.impl_Decimal : Nat → Nat × List Nat := fun i => (0, [])
theorem R.impl_Decimal {a0 : Value} {H : Hp} {K : Value → Hp → Prop} (h : F.impl_Decimal a0 H K) : HT prg I.impl_Decimal [a0].toArray H K :=
  HT_of_fev O.impl_Decimal mixed Tryz.func108 (by kernel_rfl) (Eq.mpr (by kernel_rfl : fev prg O.impl_Decimal Tryz.f108 [a0] H K = F.impl_Decimal a0 H K) h)

/-! loop.example/g01381/impl.runsText: function 107 -/
def F.impl_runsText (a0 : Value) (H : Hp) (K : Value → Hp → Prop) : Prop :=
  jn (fun σ1 H1 =>
    K (σ1 3) H1) fun J1 =>
  lpE (fun Q2 σ2 H2 =>
    ob (vLenSl (σ2 0)) fun v8x3 =>
    ob (vInt .lss (σ2 4) v8x3) fun v9x4 =>
    cnd v9x4
      (jn (fun σ5 H5 =>
      ob (vIx 1 (σ5 0) (σ5 4)) fun v30x6 =>
      ob (vLoad v30x6 H5) fun v31x7 =>
      ob (vInt .eql v31x7 (.int .i64 0)) fun v32x8 =>
      gop v32x8 true (fun K9 => K9 (σ5 5) H5) H5 fun v34x10 H11 =>
      gop v32x8 true (fun K12 => K12 (σ5 0) H11) H11 fun v35x13 H14 =>
      gop v32x8 true (fun K15 => ob (vLenSl v35x13) fun u => K15 u H14) H14 fun v36x16 H17 =>
      gop v32x8 true (fun K18 => ob (vInt .eql v34x10 v36x16) fun u => K18 u H17) H17 fun v37x19 H20 =>
      ob (vPick v32x8 v37x19 (.bool false)) fun v38x21 =>
      cnd v38x21
        (Q2 (.exit 0) (up (up (up (up (up (up (up (up (up (up (up σ5 28 (σ5 0)) 29 (σ5 4)) 30 v30x6) 31 v31x7) 32 v32x8) 33 v32x8) 34 v34x10) 35 v35x13) 36 v36x16) 37 v37x19) 38 v38x21) H20)
        (ob (vInt .sub (σ5 5) (σ5 4)) fun v41x22 =>
      ob (vInt .gtr v41x22 (.int .i64 1)) fun v42x23 =>
      cnd v42x23
        (ob (vInt .sub (σ5 5) (σ5 4)) fun v46x24 =>
        HT prg I.impl_Decimal [v46x24].toArray H20 fun v47x25 H26 =>
        ob (vStr .add (σ5 3) v47x25) fun v48x27 =>
        ob (vIx 1 (σ5 0) (σ5 4)) fun v52x28 =>
      ob (vLoad v52x28 H26) fun v53x29 =>
      ob (vIx 1 (σ5 0) (σ5 4)) fun v56x30 =>
      ob (vLoad v56x30 H26) fun v57x31 =>
      ob (vInt .add v57x31 (.int .i64 1)) fun v58x32 =>
      ob (vSlS (.string ⟨#[98, 111]⟩) (some v53x29) (some v58x32)) fun v59x33 =>
      ob (vStr .add v48x27 v59x33) fun v60x34 =>
      Q2 .normal (up (up (up (up (up (up (up (up (up (up (up (up (up (up (up (up (up (up (up (up (up (up (up (up (up (up (up (up (up (up (up (up (up (up (up (up (up σ5 28 (σ5 0)) 29 (σ5 4)) 30 v30x6) 31 v31x7) 32 v32x8) 33 v32x8) 34 v34x10) 35 v35x13) 36 v36x16) 37 v37x19) 38 v38x21) 39 (σ5 5)) 40 (σ5 4)) 41 v41x22) 42 v42x23) 43 (σ5 3)) 44 (σ5 5)) 45 (σ5 4)) 46 v46x24) 47 v47x25) 48 v48x27) 3 v48x27) 49 v48x27) 50 (σ5 0)) 51 (σ5 4)) 52 v52x28) 53 v53x29) 54 (σ5 0)) 55 (σ5 4)) 56 v56x30) 57 v57x31) 58 v58x32) 59 v59x33) 60 v60x34) 3 v60x34) 61 (σ5 5)) 4 (σ5 5)) H26)
        (ob (vIx 1 (σ5 0) (σ5 4)) fun v52x35 =>
      ob (vLoad v52x35 H20) fun v53x36 =>
      ob (vIx 1 (σ5 0) (σ5 4)) fun v56x37 =>
      ob (vLoad v56x37 H20) fun v57x38 =>
      ob (vInt .add v57x38 (.int .i64 1)) fun v58x39 =>
      ob (vSlS (.string ⟨#[98, 111]⟩) (some v53x36) (some v58x39)) fun v59x40 =>
      ob (vStr .add (σ5 3) v59x40) fun v60x41 =>
      Q2 .normal (up (up (up (up (up (up (up (up (up (up (up (up (up (up (up (up (up (up (up (up (up (up (up (up (up (up (up (up (up (up σ5 28 (σ5 0)) 29 (σ5 4)) 30 v30x6) 31 v31x7) 32 v32x8) 33 v32x8) 34 v34x10) 35 v35x13) 36 v36x16) 37 v37x19) 38 v38x21) 39 (σ5 5)) 40 (σ5 4)) 41 v41x22) 42 v42x23) 49 (σ5 3)) 50 (σ5 0)) 51 (σ5 4)) 52 v52x35) 53 v53x36) 54 (σ5 0)) 55 (σ5 4)) 56 v56x37) 57 v57x38) 58 v58x39) 59 v59x40) 60 v60x41) 3 v60x41) 61 (σ5 5)) 4 (σ5 5)) H20))) fun J5 =>
    lpE (fun Q42 σ42 H42 =>
      ob (vLenSl (σ42 0)) fun v13x43 =>
      ob (vInt .lss (σ42 5) v13x43) fun v14x44 =>
      gop v14x44 true (fun K45 => K45 (σ42 0) H42) H42 fun v16x46 H47 =>
      gop v14x44 true (fun K48 => K48 (σ42 5) H47) H47 fun v17x49 H50 =>
      gop v14x44 true (fun K51 => ob (vIx 1 v16x46 v17x49) fun u => K51 u H50) H50 fun v18x52 H53 =>
      gop v14x44 true (fun K54 => ob (vLoad v18x52 H53) fun u => K54 u H53) H53 fun v19x55 H56 =>
      gop v14x44 true (fun K57 => K57 (σ42 0) H56) H56 fun v20x58 H59 =>
      gop v14x44 true (fun K60 => K60 (σ42 4) H59) H59 fun v21x61 H62 =>
      gop v14x44 true (fun K63 => ob (vIx 1 v20x58 v21x61) fun u => K63 u H62) H62 fun v22x64 H65 =>
      gop v14x44 true (fun K66 => ob (vLoad v22x64 H65) fun u => K66 u H65) H65 fun v23x67 H68 =>
      gop v14x44 true (fun K69 => ob (vInt .eql v19x55 v23x67) fun u => K69 u H68) H68 fun v24x70 H71 =>
      ob (vPick v14x44 v24x70 (.bool false)) fun v25x72 =>
      cnd v25x72
        (ob (vInt .add (σ42 5) (.int .i64 1)) fun v27x73 =>
      Q42 .normal (up (up (up (up (up (up (up (up (up (up (up (up (up (up (up (up (up (up σ42 11 (σ42 5)) 12 (σ42 0)) 13 v13x43) 14 v14x44) 15 v14x44) 16 v16x46) 17 v17x49) 18 v18x52) 19 v19x55) 20 v20x58) 21 v21x61) 22 v22x64) 23 v23x67) 24 v24x70) 25 v25x72) 26 (σ42 5)) 27 v27x73) 5 v27x73) H71)
        (Q42 (.exit 2) (up (up (up (up (up (up (up (up (up (up (up (up (up (up (up σ42 11 (σ42 5)) 12 (σ42 0)) 13 v13x43) 14 v14x44) 15 v14x44) 16 v16x46) 17 v17x49) 18 v18x52) 19 v19x55) 20 v20x58) 21 v21x61) 22 v22x64) 23 v23x67) 24 v24x70) 25 v25x72) H71)) (blkQ 2 (thenQ J5 (blkQ 1 Q2))) (up (up (up (up (up (up σ2 6 (σ2 4)) 7 (σ2 0)) 8 v8x3) 9 v9x4) 10 (σ2 4)) 5 (σ2 4)) H2)
      (Q2 (.exit 0) (up (up (up (up σ2 6 (σ2 4)) 7 (σ2 0)) 8 v8x3) 9 v9x4) H2)) (blkQ 0 (thenQ J1 (retQ prg [(.tmp 2)] K))) (up (up (up (S0 [a0]) 2 (.string ⟨#[]⟩)) 3 (.string ⟨#[]⟩)) 4 (.int .i64 0)) H
def O.impl_runsText : Nat → Nat × List Nat := fun i => bif Nat.beq i 10 then (0, [0, 1, 2, 3, 4, 5, 6, 7, 8, 9, 10, 11, 12]) else bif Nat.beq i 5 then (0, [0, 1, 2, 3, 4, 5, 6, 7, 8, 9, 10, 11, 12, 13, 14]) else (0, [])
theorem R.impl_runsText {a0 : Value} {H : Hp} {K : Value → Hp → Prop} (h : F.impl_runsText a0 H K) : HT prg I.impl_runsText [a0].toArray H K :=
  HT_of_fev O.impl_runsText mixed Tryz.func107 (by kernel_rfl) (Eq.mpr (by kernel_rfl : fev prg O.impl_runsText Tryz.f107 [a0] H K = F.impl_runsText a0 H K) h)

/-! (*strings.Builder).copyCheck: function 140 -/
def F.pstrings_Builder_copyCheck (a0 : Value) (H : Hp) (K : Value → Hp → Prop) : Prop :=
  ob (vNilC a0) fun v3x1 =>
  ob (vFa 0 v3x1) fun v4x2 =>
  ob (vLoad v4x2 H) fun v5x3 =>
  ob (val prg (do eqGuard .eql 138 (.tmp 5) (.const (.pointer none)) v5x3 (.pointer none); binOp .eql 138 v5x3 (.pointer none)) H) fun v6x4 =>
  cnd v6x4
    (hp prg (convert 138 162 a0) H fun v9x5 H6 =>
    hp prg (callFunc I.internal_abi_NoEscape [v9x5].toArray) H6 (nextH prg (fun v10x7 H8 =>
    hp prg (convert 162 138 v10x7) H8 fun v11x9 H10 =>
    ob (vNilC a0) fun v12x11 =>
    ob (vFa 0 v12x11) fun v13x12 =>
    st 1 v13x12 v11x9 H10 fun H13 =>
    K (.tuple #[]) H13)))
    (ob (vNilC a0) fun v15x14 =>
    ob (vFa 0 v15x14) fun v16x15 =>
    ob (vLoad v16x15 H) fun v17x16 =>
    ob (val prg (do eqGuard .neq 138 (.tmp 17) (.tmp 18) v17x16 a0; binOp .neq 138 v17x16 a0) H) fun v19x17 =>
    cnd v19x17
      (False)
      (K (.tuple #[]) H))
def O.pstrings_Builder_copyCheck : Nat → Nat × List Nat := fun i => (0, [])
theorem R.pstrings_Builder_copyCheck {a0 : Value} {H : Hp} {K : Value → Hp → Prop} (h : F.pstrings_Builder_copyCheck a0 H K) : HT prg I.pstrings_Builder_copyCheck [a0].toArray H K :=
  HT_of_fev O.pstrings_Builder_copyCheck mixed Tryz.func140 (by kernel_rfl) (Eq.mpr (by kernel_rfl : fev prg O.pstrings_Builder_copyCheck Tryz.f140 [a0] H K = F.pstrings_Builder_copyCheck a0 H K) h)

/-! (*strings.Builder).grow: function 141 -/
def F.pstrings_Builder_grow (a0 a1 : Value) (H : Hp) (K : Value → Hp → Prop) : Prop :=
  ob (vNilC a0) fun v6x1 =>
  ob (vFa 1 v6x1) fun v7x2 =>
  ob (vLoad v7x2 H) fun v8x3 =>
  ob (vCapSl v8x3) fun v9x4 =>
  ob (vInt .mul (.int .i64 2) v9x4) fun v10x5 =>
  ob (vInt .add v10x5 a1) fun v12x6 =>
  ob (vNilC a0) fun v15x7 =>
  ob (vFa 1 v15x7) fun v16x8 =>
  ob (vLoad v16x8 H) fun v17x9 =>
  ob (vLenSl v17x9) fun v18x10 =>
  hp prg (callFunc I.internal_bytealg_MakeNoZero [v12x6].toArray) H (nextH prg (fun v13x11 H12 =>
  Le H H12 ∧ (ob (vSl3 1 v13x11 none (some v18x10) none) fun v19x13 =>
  ob (vNilC a0) fun v22x14 =>
  ob (vFa 1 v22x14) fun v23x15 =>
  ob (vLoad v23x15 H12) fun v24x16 =>
  hp prg (builtin .copy #[78, 78] 3 #[false, false] [v19x13, v24x16].toArray) H12 (nextH prg (fun v25x17 H18 =>
  ob (vNilC a0) fun v28x19 =>
  ob (vFa 1 v28x19) fun v29x20 =>
  st 1 v29x20 v19x13 H18 fun H21 =>
  K (.tuple #[]) H21)))))
def O.pstrings_Builder_grow : Nat → Nat × List Nat := fun i => bif Nat.beq i 0 then (0, [0, 1, 2, 3, 4, 5, 6, 7, 9, 10, 11, 12, 13, 8, 14, 15]) else (0, [])
theorem R.pstrings_Builder_grow {a0 a1 : Value} {H : Hp} {K : Value → Hp → Prop} (h : F.pstrings_Builder_grow a0 a1 H K) : HT prg I.pstrings_Builder_grow [a0, a1].toArray H K :=
  HT_of_fev O.pstrings_Builder_grow mixed Tryz.func141 (by kernel_rfl) (Eq.mpr (by kernel_rfl : fev prg O.pstrings_Builder_grow Tryz.f141 [a0, a1] H K = F.pstrings_Builder_grow a0 a1 H K) h)

/-! (*strings.Builder).Grow: function 129 -/
def F.pstrings_Builder_Grow (a0 a1 : Value) (H : Hp) (K : Value → Hp → Prop) : Prop :=
  HT prg I.pstrings_Builder_copyCheck [a0].toArray H fun v5x1 H2 =>
  jn (fun σ3 H3 =>
    ob (vNilC (σ3 0)) fun v10x4 =>
    ob (vFa 1 v10x4) fun v11x5 =>
    ob (vLoad v11x5 H3) fun v12x6 =>
    ob (vCapSl v12x6) fun v13x7 =>
    ob (vNilC (σ3 0)) fun v15x8 =>
    ob (vFa 1 v15x8) fun v16x9 =>
    ob (vLoad v16x9 H3) fun v17x10 =>
    ob (vLenSl v17x10) fun v18x11 =>
    ob (vInt .sub v13x7 v18x11) fun v19x12 =>
    ob (vInt .lss v19x12 (σ3 1)) fun v21x13 =>
    cnd v21x13
      (HT prg I.pstrings_Builder_grow [(σ3 0), (σ3 1)].toArray H3 fun v24x14 H15 =>
      K (.tuple #[]) H15)
      (K (.tuple #[]) H3)) fun J3 =>
  ob (vInt .lss a1 (.int .i64 0)) fun v7x16 =>
  cnd v7x16
    (ob (val prg (Instr.makeInterface 9 (.string ⟨#[115, 116, 114, 105, 110, 103, 115, 46, 66, 117, 105, 108, 100, 101, 114, 46, 71, 114, 111, 119, 58, 32, 110, 101, 103, 97, 116, 105, 118, 101, 32, 99, 111, 117, 110, 116]⟩)) H2) fun v8x17 =>
    hp prg (do pure (Next.value (← Instr.panic v8x17))) H2 (nextH prg (fun _ H18 =>
    J3 (up (up (up (up (up (S0 [a0, a1]) 4 a0) 5 v5x1) 6 a1) 7 v7x16) 8 v8x17) H18)))
    (J3 (up (up (up (up (S0 [a0, a1]) 4 a0) 5 v5x1) 6 a1) 7 v7x16) H2)
def O.pstrings_Builder_Grow : Nat → Nat × List Nat := fun i => bif Nat.beq i 3 then (0, [0, 1, 2, 3, 4, 5, 6, 7, 8, 9, 10, 11, 12]) else (0, [])
theorem R.pstrings_Builder_Grow {a0 a1 : Value} {H : Hp} {K : Value → Hp → Prop} (h : F.pstrings_Builder_Grow a0 a1 H K) : HT prg I.pstrings_Builder_Grow [a0, a1].toArray H K :=
  HT_of_fev O.pstrings_Builder_Grow mixed Tryz.func129 (by kernel_rfl) (Eq.mpr (by kernel_rfl : fev prg O.pstrings_Builder_Grow Tryz.f129 [a0, a1] H K = F.pstrings_Builder_Grow a0 a1 H K) h)

/-! (*strings.Builder).WriteString: function 130 -/
def F.pstrings_Builder_WriteString (a0 a1 : Value) (H : Hp) (K : Value → Hp → Prop) : Prop :=
  HT prg I.pstrings_Builder_copyCheck [a0].toArray H fun v7x1 H2 =>
  ob (vNilC a0) fun v10x3 =>
  ob (vFa 1 v10x3) fun v11x4 =>
  ob (vLoad v11x4 H2) fun v12x5 =>
  apd 1 1 #[(.int .u8 0)] 5 v12x5 a1 H2 fun v14x6 H7 =>
  ob (vNilC a0) fun v15x8 =>
  ob (vFa 1 v15x8) fun v16x9 =>
  st 1 v16x9 v14x6 H7 fun H10 =>
  ob (vLenS a1) fun v18x11 =>
  K (.tuple #[v18x11, .nilIface]) H10
def O.pstrings_Builder_WriteString : Nat → Nat × List Nat := fun i => (0, [])
theorem R.pstrings_Builder_WriteString {a0 a1 : Value} {H : Hp} {K : Value → Hp → Prop} (h : F.pstrings_Builder_WriteString a0 a1 H K) : HT prg I.pstrings_Builder_WriteString [a0, a1].toArray H K :=
  HT_of_fev O.pstrings_Builder_WriteString mixed Tryz.func130 (by kernel_rfl) (Eq.mpr (by kernel_rfl : fev prg O.pstrings_Builder_WriteString Tryz.f130 [a0, a1] H K = F.pstrings_Builder_WriteString a0 a1 H K) h)

/-! (*strings.Builder).String: function 131 -/
def F.pstrings_Builder_String (a0 : Value) (H : Hp) (K : Value → Hp → Prop) : Prop :=
  (ob (vNilC a0) fun v4x1 =>
  ob (vFa 1 v4x1) fun v5x2 =>
  ob (vLoad v5x2 H) fun v6x3 =>
  ob (vNilC a0) fun v9x4 =>
  ob (vFa 1 v9x4) fun v10x5 =>
  ob (vLoad v10x5 H) fun v11x6 =>
  ob (vLenSl v11x6) fun v12x7 =>
  hp prg (builtin .unsafeSliceData #[78] 154 #[false] [v6x3].toArray) H (nextH prg (fun v7x8 H9 =>
  hp prg (builtin .unsafeString #[154, 3] 9 #[false, false] [v7x8, v12x7].toArray) H9 (nextH prg (fun v13x10 H11 =>
  K v13x10 H11))))) ∧ (ob (vNilC a0) fun v4x12 =>
  ob (vFa 1 v4x12) fun v5x13 =>
  ob (vLoad v5x13 H) fun v6x14 =>
  ob (vNilC a0) fun v9x15 =>
  ob (vFa 1 v9x15) fun v10x16 =>
  hp prg (builtin .unsafeSliceData #[78] 154 #[false] [v6x14].toArray) H (nextH prg (fun v7x17 H18 =>
  ob (vLoad v10x16 H18) fun v11x19 =>
  ob (vLenSl v11x19) fun v12x20 =>
  hp prg (builtin .unsafeString #[154, 3] 9 #[false, false] [v7x17, v12x20].toArray) H18 (nextH prg (fun v13x21 H22 =>
  K v13x21 H22)))))
def O.pstrings_Builder_String : Nat → Nat × List Nat := fun i => bif Nat.beq i 1 then (0, [1008, 1004, 0, 1, 2, 3, 5, 6, 7, 8, 9, 4, 10, 11, 0, 1, 2, 3, 5, 6, 7, 4, 8, 9, 10, 11]) else (0, [])
theorem R.pstrings_Builder_String {a0 : Value} {H : Hp} {K : Value → Hp → Prop} (h : F.pstrings_Builder_String a0 H K) : HT prg I.pstrings_Builder_String [a0].toArray H K :=
  HT_of_fev O.pstrings_Builder_String mixed Tryz.func131 (by kernel_rfl) (Eq.mpr (by kernel_rfl : fev prg O.pstrings_Builder_String Tryz.f131 [a0] H K = F.pstrings_Builder_String a0 H K) h)

/-! strings.Join: function 109 -/
def F.strings_Join (a0 a1 : Value) (H : Hp) (K : Value → Hp → Prop) : Prop :=
  ob (vLenSl a0) fun v12x1 =>
  ob (vInt .eql v12x1 (.int .i64 0)) fun v14x2 =>
  cnd v14x2
    (K (.string ⟨#[]⟩) H)
    (ob (vInt .eql v12x1 (.int .i64 1)) fun v16x3 =>
    cnd v16x3
      (ob (vIx 1 a0 (.int .i64 0)) fun v18x4 =>
      ob (vLoad v18x4 H) fun v19x5 =>
      K v19x5 H)
      (jn (fun σ6 H6 =>
    jn (fun σ7 H7 =>
      nw #[(.pointer none), (.slice none 0 0)] 140 H7 fun v8x8 H9 =>
      HT prg I.pstrings_Builder_Grow [v8x8, (σ7 5)].toArray H9 fun v57x10 H11 =>
      ob (vIx 1 (σ7 0) (.int .i64 0)) fun v59x12 =>
      ob (vLoad v59x12 H11) fun v60x13 =>
      HT prg I.pstrings_Builder_WriteString [v8x8, v60x13].toArray H11 fun v61x14 H15 =>
      jn (fun σ16 H16 =>
        HT prg I.pstrings_Builder_String [(σ16 8)].toArray H16 fun v74x17 H18 =>
        K v74x17 H18) fun J16 =>
      ob (vSl3 1 (σ7 0) (some (.int .i64 1)) none none) fun v63x19 =>
      ob (vLenSl v63x19) fun v64x20 =>
      lpE (fun Q21 σ21 H21 =>
        ob (vInt .lss (σ21 65) (σ21 64)) fun v66x22 =>
        cnd v66x22
          (ob (vIx 1 (σ21 63) (σ21 65)) fun v67x23 =>
        ob (vLoad v67x23 H21) fun v68x24 =>
        HT prg I.pstrings_Builder_WriteString [(σ21 8), (σ21 1)].toArray H21 fun v70x25 H26 =>
        HT prg I.pstrings_Builder_WriteString [(σ21 8), v68x24].toArray H26 fun v72x27 H28 =>
        ob (vInt .add (σ21 65) (.int .i64 1)) fun v73x29 =>
        Q21 .normal (up (up (up (up (up (up (up (up (up (up σ21 66 v66x22) 67 v67x23) 68 v68x24) 10 v68x24) 69 (σ21 1)) 70 v70x25) 71 v68x24) 72 v72x27) 73 v73x29) 65 v73x29) H28)
          (Q21 (.exit 3) (up σ21 66 v66x22) H21)) (blkQ 3 (thenQ J16 (retQ prg [(.tmp 4)] K))) (up (up (up (up (up (up (up (up (up (up (up σ7 8 v8x8) 56 (σ7 5)) 57 v57x10) 58 (σ7 0)) 59 v59x12) 60 v60x13) 61 v61x14) 62 (σ7 0)) 63 v63x19) 64 v64x20) 65 (.int .i64 0)) H15) fun J7 =>
    ob (vLenSl (σ6 0)) fun v40x30 =>
    lpE (fun Q31 σ31 H31 =>
      ob (vInt .lss (σ31 41) (σ31 40)) fun v42x32 =>
      cnd v42x32
        (ob (vIx 1 (σ31 39) (σ31 41)) fun v43x33 =>
      ob (vLoad v43x33 H31) fun v44x34 =>
      ob (vLenS v44x34) fun v46x35 =>
      ob (vInt .sub (.int .i64 9223372036854775807) (σ31 5)) fun v48x36 =>
      ob (vInt .gtr v46x35 v48x36) fun v49x37 =>
      cnd v49x37
        (ob (val prg (Instr.makeInterface 9 (.string ⟨#[115, 116, 114, 105, 110, 103, 115, 58, 32, 74, 111, 105, 110, 32, 111, 117, 116, 112, 117, 116, 32, 108, 101, 110, 103, 116, 104, 32, 111, 118, 101, 114, 102, 108, 111, 119]⟩)) H31) fun v50x38 =>
        hp prg (do pure (Next.value (← Instr.panic v50x38))) H31 (nextH prg (fun _ H39 =>
        ob (vLenS v44x34) fun v53x40 =>
      ob (vInt .add (σ31 5) v53x40) fun v54x41 =>
      ob (vInt .add (σ31 41) (.int .i64 1)) fun v55x42 =>
      Q31 .normal (up (up (up (up (up (up (up (up (up (up (up (up (up (up (up (up (up σ31 42 v42x32) 43 v43x33) 44 v44x34) 7 v44x34) 45 v44x34) 46 v46x35) 47 (σ31 5)) 48 v48x36) 49 v49x37) 50 v50x38) 51 (σ31 5)) 52 v44x34) 53 v53x40) 54 v54x41) 5 v54x41) 55 v55x42) 41 v55x42) H39)))
        (ob (vLenS v44x34) fun v53x43 =>
      ob (vInt .add (σ31 5) v53x43) fun v54x44 =>
      ob (vInt .add (σ31 41) (.int .i64 1)) fun v55x45 =>
      Q31 .normal (up (up (up (up (up (up (up (up (up (up (up (up (up (up (up (up σ31 42 v42x32) 43 v43x33) 44 v44x34) 7 v44x34) 45 v44x34) 46 v46x35) 47 (σ31 5)) 48 v48x36) 49 v49x37) 51 (σ31 5)) 52 v44x34) 53 v53x43) 54 v54x44) 5 v54x44) 55 v55x45) 41 v55x45) H31))
        (Q31 (.exit 1) (up σ31 42 v42x32) H31)) (blkQ 1 (thenQ J7 (retQ prg [(.tmp 4)] K))) (up (up (up σ6 39 (σ6 0)) 40 v40x30) 41 (.int .i64 0)) H6) fun J6 =>
  ob (vLenS a1) fun v21x46 =>
  ob (vInt .gtr v21x46 (.int .i64 0)) fun v22x47 =>
  cnd v22x47
    (ob (vLenS a1) fun v24x48 =>
    ob (vLenSl a0) fun v26x49 =>
    ob (vInt .sub v26x49 (.int .i64 1)) fun v27x50 =>
    ob (vInt .quo (.int .i64 9223372036854775807) v27x50) fun v28x51 =>
    ob (vInt .geq v24x48 v28x51) fun v29x52 =>
    cnd v29x52
      (ob (val prg (Instr.makeInterface 9 (.string ⟨#[115, 116, 114, 105, 110, 103, 115, 58, 32, 74, 111, 105, 110, 32, 111, 117, 116, 112, 117, 116, 32, 108, 101, 110, 103, 116, 104, 32, 111, 118, 101, 114, 102, 108, 111, 119]⟩)) H) fun v30x53 =>
      hp prg (do pure (Next.value (← Instr.panic v30x53))) H (nextH prg (fun _ H54 =>
      ob (vLenS a1) fun v33x55 =>
    ob (vLenSl a0) fun v35x56 =>
    ob (vInt .sub v35x56 (.int .i64 1)) fun v36x57 =>
    ob (vInt .mul v33x55 v36x57) fun v37x58 =>
    ob (vInt .add (.int .i64 0) v37x58) fun v38x59 =>
    J6 (up (up (up (up (up (up (up (up (up (up (up (up (up (up (up (up (up (up (up (up (up (up (up (up (up (up (up (up (S0 [a0, a1]) 4 (.string ⟨#[]⟩)) 11 a0) 12 v12x1) 14 v14x2) 13 v14x2) 16 v16x3) 15 v16x3) 5 (.int .i64 0)) 20 a1) 21 v21x46) 22 v22x47) 23 a1) 24 v24x48) 25 a0) 26 v26x49) 27 v27x50) 28 v28x51) 29 v29x52) 30 v30x53) 31 (.int .i64 0)) 32 a1) 33 v33x55) 34 a0) 35 v35x56) 36 v36x57) 37 v37x58) 38 v38x59) 5 v38x59) H54)))
      (ob (vLenS a1) fun v33x60 =>
    ob (vLenSl a0) fun v35x61 =>
    ob (vInt .sub v35x61 (.int .i64 1)) fun v36x62 =>
    ob (vInt .mul v33x60 v36x62) fun v37x63 =>
    ob (vInt .add (.int .i64 0) v37x63) fun v38x64 =>
    J6 (up (up (up (up (up (up (up (up (up (up (up (up (up (up (up (up (up (up (up (up (up (up (up (up (up (up (up (S0 [a0, a1]) 4 (.string ⟨#[]⟩)) 11 a0) 12 v12x1) 14 v14x2) 13 v14x2) 16 v16x3) 15 v16x3) 5 (.int .i64 0)) 20 a1) 21 v21x46) 22 v22x47) 23 a1) 24 v24x48) 25 a0) 26 v26x49) 27 v27x50) 28 v28x51) 29 v29x52) 31 (.int .i64 0)) 32 a1) 33 v33x60) 34 a0) 35 v35x61) 36 v36x62) 37 v37x63) 38 v38x64) 5 v38x64) H))
    (J6 (up (up (up (up (up (up (up (up (up (up (up (S0 [a0, a1]) 4 (.string ⟨#[]⟩)) 11 a0) 12 v12x1) 14 v14x2) 13 v14x2) 16 v16x3) 15 v16x3) 5 (.int .i64 0)) 20 a1) 21 v21x46) 22 v22x47) H)))
def O.strings_Join : Nat → Nat × List Nat := fun i => (0, [])
theorem R.strings_Join {a0 a1 : Value} {H : Hp} {K : Value → Hp → Prop} (h : F.strings_Join a0 a1 H K) : HT prg I.strings_Join [a0, a1].toArray H K :=
  HT_of_fev O.strings_Join mixed Tryz.func109 (by kernel_rfl) (Eq.mpr (by kernel_rfl : fev prg O.strings_Join Tryz.f109 [a0, a1] H K = F.strings_Join a0 a1 H K) h)

/-! (loop.example/g01381/impl.Field).text: function 82 -/
def F.impl_Field_text (a0 : Value) (H : Hp) (K : Value → Hp → Prop) : Prop :=
  nw (a0 : Value).cells 44 H fun v1x1 H2 =>
  bS 1 0 #[(.string ⟨#[]⟩)] 9 [] H2 fun v5x3 H4 =>
  nw #[(.slice none 0 0)] 27 H4 fun v3x5 H6 =>
  st 1 v3x5 v5x3 H6 fun H7 =>
  jn (fun σ8 H8 =>
    ob (vFa 1 (σ8 1)) fun v17x9 =>
    ob (vLoad v17x9 H8) fun v18x10 =>
    ob (vFa 0 (σ8 1)) fun v21x11 =>
    ob (vLoad v21x11 H8) fun v22x12 =>
    ob (vLoad (σ8 3) H8) fun v26x13 =>
    HT prg I.impl_Decimal [v18x10].toArray H8 fun v19x14 H15 =>
    Le H8 H15 ∧ (ob (vStr .add v19x14 (.string ⟨#[44]⟩)) fun v20x16 =>
    HT prg I.impl_Decimal [v22x12].toArray H15 fun v23x17 H18 =>
    Le H15 H18 ∧ (ob (vStr .add v20x16 v23x17) fun v24x19 =>
    ob (vStr .add v24x19 (.string ⟨#[58]⟩)) fun v25x20 =>
    HT prg I.strings_Join [v26x13, (.string ⟨#[36]⟩)].toArray H18 fun v27x21 H22 =>
    Le H18 H22 ∧ (ob (vStr .add v25x20 v27x21) fun v28x23 =>
    ob (vStr .add v28x23 (.string ⟨#[33]⟩)) fun v29x24 =>
    K v29x24 H22)))) fun J8 =>
  ob (vFa 2 v1x1) fun v6x25 =>
  ob (vLoad v6x25 H7) fun v7x26 =>
  ob (vFa 1 v1x1) fun v8x27 =>
  ob (vLoad v8x27 H7) fun v9x28 =>
  HT prg I.slices_Chunk_int64Zint64 [v7x26, v9x28].toArray H7 fun v10x29 H30 =>
  rgE prg v10x29 [11] (fun Q31 σ31 H31 =>
    ob (vLoad (σ31 3) H31) fun v12x32 =>
    HT prg I.impl_runsText [(σ31 11)].toArray H31 fun v14x33 H34 =>
    Le H31 H34 ∧ (bS 1 1 #[(.string ⟨#[]⟩)] 9 [(0, v14x33)] H34 fun v15x35 H36 =>
    apd 1 16 #[(.string ⟨#[]⟩)] 9 v12x32 v15x35 H36 fun v16x37 H38 =>
    st 1 (σ31 3) v16x37 H38 fun H39 =>
    Q31 .normal (up (up (up (up (up (up σ31 4 (σ31 11)) 12 v12x32) 13 (σ31 11)) 14 v14x33) 15 v15x35) 16 v16x37) H39)) (blkQ 0 (thenQ J8 (retQ prg [(.tmp 2)] K))) (up (up (up (up (up (up (up (up (up (S0 [a0]) 1 v1x1) 2 (.string ⟨#[]⟩)) 5 v5x3) 3 v3x5) 6 v6x25) 7 v7x26) 8 v8x27) 9 v9x28) 10 v10x29) H30
def O.impl_Field_text : Nat → Nat × List Nat := fun i => bif Nat.beq i 5 then (0, [0, 1, 4, 5, 9, 2, 3, 6, 7, 8, 10, 11, 12, 13]) else bif Nat.beq i 4 then (0, [0, 1, 2, 3, 4, 5]) else (0, [])
theorem R.impl_Field_text {a0 : Value} {H : Hp} {K : Value → Hp → Prop} (h : F.impl_Field_text a0 H K) : HT prg I.impl_Field_text [a0].toArray H K :=
  HT_of_fev O.impl_Field_text mixed Tryz.func82 (by kernel_rfl) (Eq.mpr (by kernel_rfl : fev prg O.impl_Field_text Tryz.f82 [a0] H K = F.impl_Field_text a0 H K) h)

/-! slices.Min[[]string,string]: function 83 -/
def F.slices_Min_string_string (a0 : Value) (H : Hp) (K : Value → Hp → Prop) : Prop :=
  jn (fun σ1 H1 =>
    ob (vIx 1 (σ1 0) (.int .i64 0)) fun v10x2 =>
    ob (vLoad v10x2 H1) fun v11x3 =>
    jn (fun σ4 H4 =>
      K (σ4 3) H4) fun J4 =>
    lpE (fun Q5 σ5 H5 =>
      ob (vLenSl (σ5 0)) fun v14x6 =>
      ob (vInt .lss (σ5 4) v14x6) fun v15x7 =>
      cnd v15x7
        (ob (vIx 1 (σ5 0) (σ5 4)) fun v21x8 =>
      ob (vLoad v21x8 H5) fun v22x9 =>
      hp prg (builtin .min #[9, 9] 9 #[false, false] [(σ5 3), v22x9].toArray) H5 (nextH prg (fun v23x10 H11 =>
      ob (vInt .add (σ5 4) (.int .i64 1)) fun v17x12 =>
      Q5 .normal (up (up (up (up (up (up (up (up (up (up (up (up (up (up σ5 12 (σ5 4)) 13 (σ5 0)) 14 v14x6) 15 v15x7) 18 (σ5 3)) 19 (σ5 0)) 20 (σ5 4)) 21 v21x8) 22 v22x9) 23 v23x10) 3 v23x10) 16 (σ5 4)) 17 v17x12) 4 v17x12) H11)))
        (Q5 (.exit 0) (up (up (up (up σ5 12 (σ5 4)) 13 (σ5 0)) 14 v14x6) 15 v15x7) H5)) (blkQ 0 (thenQ J4 (retQ prg [(.tmp 2)] K))) (up (up (up (up (up σ1 9 (σ1 0)) 10 v10x2) 11 v11x3) 3 v11x3) 4 (.int .i64 1)) H1) fun J1 =>
  ob (vLenSl a0) fun v6x13 =>
  ob (vInt .lss v6x13 (.int .i64 1)) fun v7x14 =>
  cnd v7x14
    (ob (val prg (Instr.makeInterface 9 (.string ⟨#[115, 108, 105, 99, 101, 115, 46, 77, 105, 110, 58, 32, 101, 109, 112, 116, 121, 32, 108, 105, 115, 116]⟩)) H) fun v8x15 =>
    hp prg (do pure (Next.value (← Instr.panic v8x15))) H (nextH prg (fun _ H16 =>
    J1 (up (up (up (up (up (S0 [a0]) 2 (.string ⟨#[]⟩)) 5 a0) 6 v6x13) 7 v7x14) 8 v8x15) H16)))
    (J1 (up (up (up (up (S0 [a0]) 2 (.string ⟨#[]⟩)) 5 a0) 6 v6x13) 7 v7x14) H)
def O.slices_Min_string_string : Nat → Nat × List Nat := fun i => (0, [])
theorem R.slices_Min_string_string {a0 : Value} {H : Hp} {K : Value → Hp → Prop} (h : F.slices_Min_string_string a0 H K) : HT prg I.slices_Min_string_string [a0].toArray H K :=
  HT_of_fev O.slices_Min_string_string mixed Tryz.func83 (by kernel_rfl) (Eq.mpr (by kernel_rfl : fev prg O.slices_Min_string_string Tryz.f83 [a0] H K = F.slices_Min_string_string a0 H K) h)

end Go.Proofs.YtffmfkpobjdmmaaGreatDoor
