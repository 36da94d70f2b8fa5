/- Several texts in one. -/
import Derived.Test.YtnijdhlmimemcaaGreatDoorHI
import Derived.Test.YtnijdhlmimemcaaGreatDoorG0
/- Slices over a partial heap: what is read, what is owned, and what stays when something else is written. -/
namespace Go.Proofs.YtnijdhlmimemcaaGreatDoor.HL
abbrev eI : Int → Value := .int .i64
abbrev eB : Bool → Value := .bool
/-- The pointer to a slice's cell, where its elements have one cell each. -/
def ptr (v : Value) (i : Int) : Value := match v with | .slice (some a) _ _ => .pointer (some (a.add (i.toNat * 1))) | _ => undef
/-- The block that a slice or a pointer may write. -/
def bk (v : Value) : Option Nat := match v with | .slice (some a) _ c => if c = 0 then none else some a.block | .pointer (some a) => some a.block | _ => none
/-- The element at an index. -/
def at_ {α : Type} (d : α) (l : List α) (i : Int) : α := l.getD i.toNat d

/-- A slice that reads so. -/
def Sl {α : Type} (enc : α → Value) (H : Hp) (v : Value) (l : List α) : Prop :=
  ∃ a c, v = .slice a l.length c ∧ l.length ≤ c ∧ ∀ i (h : i < l.length), ∃ ad, a = some ad ∧ H.cell? (ad.add i) = some (enc l[i])
/-- A slice whose block is known whole, and may be written. -/
def Own {α : Type} (enc : α → Value) (H : Hp) (v : Value) (l : List α) : Prop :=
  ∃ a c, v = .slice a l.length c ∧ l.length ≤ c ∧ (0 < c → ∃ b off cs e, a = some ⟨b, off, none⟩ ∧ H b = some (.cells cs e (0, 0)) ∧ off + c ≤ cs.size ∧ ∀ i (h : i < l.length), cs[off + i]? = some (enc l[i]))
/-- A slice whose block is not known in a heap. -/
def Nw (H : Hp) (v : Value) : Prop := ∀ b, bk v = some b → H b = none
def Apart (u v : Value) : Prop := ∀ b, bk u = some b → bk v ≠ some b
/-- All that is known stays, but for a slice's block. -/
def Off (v : Value) (H H' : Hp) : Prop := ∀ b o, H b = some o → bk v ≠ some b → H' b = some o

theorem add_none (b off i : Nat) : (⟨b, off, none⟩ : Addr).add i = ⟨b, off + i, none⟩ := by
  unfold Addr.add
  split
  · rename_i h; subst h; rfl
  · rfl
theorem Apart.symm {u v : Value} (h : Apart u v) : Apart v u := fun b hb hu => h b hu hb
theorem Nw.le {H H' : Hp} {v : Value} (h : Nw H' v) (hl : Le H H') : Nw H v := fun b hb => by
  cases ho : H b with
  | none => rfl
  | some o => have := hl b o ho; rw [h b hb] at this; exact absurd this (by simp)
theorem Off.le {H0 H H' : Hp} {v : Value} (h : Off v H H') (hl : Le H0 H) (hn : Nw H0 v) : Le H0 H' := fun b o hb =>
  h b o (hl b o hb) (fun e => by rw [hn b e] at hb; exact absurd hb (by simp))
theorem Off.of_le {H H' : Hp} {v : Value} (h : Le H H') : Off v H H' := fun b o hb _ => h b o hb
theorem Off.trans {A B C : Hp} {v : Value} (h : Off v A B) (h' : Off v B C) : Off v A C := fun b o hb hv => h' b o (h b o hb hv) hv

section
variable {α : Type} {enc : α → Value} {H H' : Hp} {u v : Value} {l : List α}
theorem Sl.le (h : Sl enc H v l) (hl : Le H H') : Sl enc H' v l := by
  obtain ⟨a, c, rfl, hc, hr⟩ := h
  exact ⟨a, c, rfl, hc, fun i hi => by obtain ⟨ad, e, hh⟩ := hr i hi; exact ⟨ad, e, hl.cell hh⟩⟩
theorem Sl.len (h : Sl enc H v l) : vLenSl v = some (.int .i64 l.length) := by
  obtain ⟨a, c, rfl, hc, hr⟩ := h; rfl
theorem Sl.ix (h : Sl enc H v l) {k : IntKind} {i : Int} (h0 : 0 ≤ i) (h1 : i < l.length) : vIx 1 v (.int k i) = some (ptr v i) := by
  obtain ⟨a, c, rfl, hc, hr⟩ := h
  obtain ⟨ad, rfl, hh⟩ := hr i.toNat (by omega)
  simp only [vIx, ptr]
  rw [if_pos ⟨h0, by simpa using h1⟩]
theorem Sl.ld (h : Sl enc H v l) (d : α) {i : Int} (h0 : 0 ≤ i) (h1 : i < l.length) : vLoad (ptr v i) H = some (enc (at_ d l i)) := by
  obtain ⟨a, c, rfl, hc, hr⟩ := h
  have hi : i.toNat < l.length := by omega
  obtain ⟨ad, rfl, hh⟩ := hr i.toNat hi
  simp only [vLoad, ptr, Nat.mul_one, hh, at_, List.getD_eq_getElem?_getD, List.getElem?_eq_getElem hi, Option.getD_some]
theorem Sl.nil (c : Nat) (a : Option Addr) : Sl enc H (.slice a 0 c) [] := ⟨a, c, rfl, by simp, fun i hi => absurd hi (by simp)⟩

theorem Own.len (h : Own enc H v l) : vLenSl v = some (.int .i64 l.length) := by
  obtain ⟨a, c, rfl, hc, hr⟩ := h; rfl
theorem Own.sl (h : Own enc H v l) : Sl enc H v l := by
  obtain ⟨a, c, rfl, hc, hr⟩ := h
  refine ⟨a, c, rfl, hc, fun i hi => ?_⟩
  obtain ⟨b, off, cs, e, rfl, hb, hs, hcs⟩ := hr (by omega)
  exact ⟨_, rfl, by simp only [Hp.cell?, add_none, hb, hcs i hi]; rfl⟩
theorem Own.off (h : Own enc H u l) (ho : Off v H H') (ha : Apart u v) : Own enc H' u l := by
  obtain ⟨a, c, rfl, hc, hr⟩ := h
  refine ⟨a, c, rfl, hc, fun h0 => ?_⟩
  obtain ⟨b, off, cs, e, rfl, hb, hs, hcs⟩ := hr h0
  refine ⟨b, off, cs, e, rfl, ho b _ hb (ha b ?_), hs, hcs⟩
  simp only [bk]
  rw [if_neg (by omega)]
theorem Own.le (h : Own enc H u l) (hl : Le H H') : Own enc H' u l := by
  obtain ⟨a, c, rfl, hc, hr⟩ := h
  refine ⟨a, c, rfl, hc, fun h0 => ?_⟩
  obtain ⟨b, off, cs, e, rfl, hb, hs, hcs⟩ := hr h0
  exact ⟨b, off, cs, e, rfl, hl b _ hb, hs, hcs⟩
theorem Own.known (h : Own enc H u l) : ∀ b, bk u = some b → ∃ o, H b = some o := by
  obtain ⟨a, c, rfl, hc, hr⟩ := h
  intro b hb
  cases a with
  | none => simp [bk] at hb
  | some ad =>
    simp only [bk] at hb
    by_cases h0 : c = 0
    · rw [if_pos h0] at hb; simp at hb
    · rw [if_neg h0] at hb
      obtain ⟨b', off, cs, e, he, hbb, _⟩ := hr (by omega)
      simp only [Option.some.injEq] at hb he
      subst he
      simp only at hb
      subst hb
      exact ⟨_, hbb⟩
theorem Own.apart (h : Own enc H u l) (hn : Nw H v) : Apart u v := fun b hb hv => by
  obtain ⟨o, ho⟩ := h.known b hb
  rw [hn b hv] at ho
  exact absurd ho (by simp)
theorem Apart.of_nw {H : Hp} {u v : Value} (hu : ∀ b, bk u = some b → ∃ o, H b = some o) (hn : Nw H v) : Apart u v := fun b hb hv => by
  obtain ⟨o, ho⟩ := hu b hb
  rw [hn b hv] at ho
  exact absurd ho (by simp)
theorem Own.nil_of (a : Option Addr) : Own enc H (.slice a 0 0) [] := ⟨a, 0, rfl, by simp, fun h0 => absurd h0 (by simp)⟩

/-- A write of one cell. -/
theorem Own.st (h : Own enc H v l) {x : α} {K : Hp → Prop} {i : Int} (h0 : 0 ≤ i) (h1 : i < l.length) (hx : oneCell (enc x) = true) (hz : (enc x).cells = #[enc x])
    (hk : ∀ H', Own enc H' v (l.set i.toNat x) → Off v H H' → K H') : st 1 (ptr v i) (enc x) H K := by
  obtain ⟨a, c, rfl, hc, hr⟩ := h
  obtain ⟨b, off, cs, e, rfl, hb, hs, hcs⟩ := hr (by omega)
  have hi : i.toNat < l.length := by omega
  simp only [HL.st, ptr, hz, List.toList_toArray, Nat.mul_one, List.size_toArray, List.length_singleton, true_and, stC]
  refine ⟨hx, ?_, ?_, ?_⟩
  · simp only [Hp.cell?, add_none, hb, hcs _ hi, Nat.add_zero]; rfl
  · simp only [Hp.frozen?, add_none, hb]; simp
  · refine hk _ ⟨_, c, by simp, by simpa using hc, fun _ => ⟨b, off, cs.setIfInBounds (off + i.toNat) (enc x), e, rfl, ?_, by simpa using hs, ?_⟩⟩ ?_
    · simp only [Hp.setCell, add_none, hb, Nat.add_zero, Hp.put_same]; rfl
    · intro j hj
      have hj' : j < l.length := by simpa using hj
      rw [Array.getElem?_setIfInBounds]
      by_cases e1 : off + i.toNat = off + j
      · have : i.toNat = j := by omega
        subst this
        rw [if_pos rfl, if_pos (by omega)]; simp
      · have : i.toNat ≠ j := by omega
        rw [if_neg e1, hcs j hj', List.getElem_set_ne this]
    · intro x' o ho hv
      simp only [bk, if_neg (by omega : ¬ c = 0)] at hv
      simp only [Hp.setCell, add_none, hb]
      rw [Hp.put_ne _ _ (by rintro rfl; exact hv rfl)]
      exact ho

theorem zrow_get (z : Value) (n i : Nat) (h : i < n) : (zrow #[z] n)[i]? = some z := by
  simp only [zrow, List.size_toArray, List.length_singleton, Nat.mod_one]
  simp [h]
theorem zrow_size (zs : Array Value) (n : Nat) : (zrow zs n).size = n := by simp [zrow]

/-- A new row. -/
theorem Own.mk_ {bytes : Nat} {z : α} {e : TypeId} {k k' : IntKind} {n c : Int} {K : Value → Hp → Prop} (h0 : 0 ≤ n) (h1 : n ≤ c) (h2 : c ≤ 281474976710656) (h3 : bytes * c ≤ 281474976710656)
    (hk : ∀ v H', Own enc H' v (List.replicate n.toNat z) → Nw H v → Le H H' → K v H') : mkS 1 bytes #[enc z] e (.int k n) (.int k' c) H K := by
  refine ⟨h0, h1, h2, h3, fun r hr => hk _ _ ⟨some ⟨r, 0, none⟩, c.toNat, by simp, by simp; omega, fun h4 => ⟨r, 0, _, e, rfl, Hp.put_same _ _ _, ?_, ?_⟩⟩ ?_ (Le.put _ hr)⟩
  · rw [Nat.mul_one, if_neg (by omega), zrow_size]; omega
  · intro i hi
    have : i < n.toNat := by simpa using hi
    rw [Nat.mul_one, if_neg (by omega), Nat.zero_add, zrow_get _ _ _ (by omega)]; simp
  · intro b hb
    simp only [bk] at hb
    split at hb
    · simp at hb
    · simp only [Option.some.injEq] at hb; subst hb; exact hr

theorem rd_cells (ad : Addr) : ∀ (n s : Nat) (l : List α), l.length = n → (∀ i (h : i < l.length), H.cell? (ad.add (s + i)) = some (enc l[i])) → rdCells H ad s n = some (l.map enc)
  | 0, s, l, hn, _ => by have : l = [] := List.length_eq_zero_iff.mp hn; subst this; rfl
  | n + 1, s, l, hn, h => by
    cases l with
    | nil => simp at hn
    | cons x r =>
      simp only [rdCells]
      have h0 := h 0 (by simp)
      simp only [Nat.add_zero, List.getElem_cons_zero] at h0
      rw [h0, rd_cells ad n (s + 1) r (by simpa using hn) (fun i hi => by
        have := h (i + 1) (by simpa using hi)
        rw [show s + 1 + i = s + (i + 1) by omega]
        simpa using this)]
      rfl
theorem Sl.firstC (h : Sl enc H v l) : firstC H 1 l.length v = some (l.map enc) := by
  obtain ⟨a, c, rfl, hc, hr⟩ := h
  cases l with
  | nil => cases a <;> rfl
  | cons x r =>
    obtain ⟨ad, rfl, _⟩ := hr 0 (by simp)
    simp only [HL.firstC, Nat.mul_one]
    exact rd_cells ad _ 0 _ rfl (fun i hi => by obtain ⟨ad', e, hh⟩ := hr i hi; cases e; simpa using hh)
theorem Sl.lenO (h : Sl enc H v l) : lenO v = some l.length := by
  obtain ⟨a, c, rfl, hc, hr⟩ := h; rfl

theorem stC_run {K : Hp → Prop} {b : Nat} {e : TypeId} : ∀ (m : List Value) (ad : Addr) (i : Nat) (cs : Array Value) (H : Hp), ad.block = b → ad.spot = none → H b = some (.cells cs e (0, 0)) → ad.off + i + m.length ≤ cs.size →
    (∀ x ∈ m, oneCell x = true) →
    (∀ H' cs', H' b = some (.cells cs' e (0, 0)) → cs'.size = cs.size → (∀ j, j < ad.off + i → cs'[j]? = cs[j]?) → (∀ j (h : j < m.length), cs'[ad.off + i + j]? = some m[j]) → (∀ x, x ≠ b → H' x = H x) → K H') → stC ad K m i H
  | [], ad, i, cs, H, hb, hsp, hH, hs, ho, hk => hk H cs hH rfl (fun _ _ => rfl) (fun j h => absurd h (by simp)) (fun _ _ => rfl)
  | x :: m, ad, i, cs, H, hb, hsp, hH, hs, ho, hk => by
    obtain ⟨abk, aoff, asp⟩ := ad
    simp only at hb hsp hs hk
    subst hb hsp
    simp only [List.length_cons] at hs
    refine ⟨ho x (by simp), ?_, ?_, ?_⟩
    · simp only [Hp.cell?, add_none, hH]
      rw [Array.getElem?_eq_getElem (by omega)]; rfl
    · simp only [Hp.frozen?, add_none, hH]; simp
    · refine stC_run (b := abk) (e := e) m _ (i + 1) (cs.setIfInBounds (aoff + i) x) _ rfl rfl ?_ (by simp; omega) (fun y hy => ho y (by simp [hy])) ?_
      · simp only [Hp.setCell, add_none, hH, Hp.put_same]; rfl
      · intro H' cs' h1 h2 h3 h4 h5
        refine hk H' cs' h1 (by simpa using h2) ?_ ?_ ?_
        · intro j hj
          rw [h3 j (by simp only; omega), Array.getElem?_setIfInBounds_ne (by omega)]
        · intro j hj
          cases j with
          | zero =>
            rw [Nat.add_zero, h3 _ (by simp only; omega), Array.getElem?_setIfInBounds_self_of_lt (by omega)]; rfl
          | succ j =>
            have := h4 j (by simpa using hj)
            simp only at this
            rw [show aoff + i + (j + 1) = aoff + (i + 1) + j by omega, this]; rfl
        · intro x' hx'
          rw [h5 x' hx']
          simp only [Hp.setCell, add_none, hH]
          rw [Hp.put_ne _ _ hx']

/-- An append. -/
theorem Own.apd {bytes : Nat} {z : Value} {e : TypeId} {w : Value} {m : List α} {K : Value → Hp → Prop} (h : Own enc H v l) (hm : Sl enc H w m) (ho : ∀ x, oneCell (enc x) = true)
    (hb : l.length + m.length < 9223372036854775808) (hc : ∀ c, l.length + m.length > c → Builtin.nextslicecap (l.length + m.length) c * bytes ≤ 281474976710656)
    (hk : ∀ v' H', Own enc H' v' (l ++ m) → Off v H H' → (∀ b, bk v' = some b → bk v = some b ∨ H b = none) → K v' H') : apd 1 bytes #[z] e v w H K := by
  have hmf := hm.firstC
  have hml := hm.lenO
  have hlf := h.sl.firstC
  obtain ⟨a, c, rfl, hlc, hr⟩ := h
  simp only [HL.apd, hml]
  by_cases hcap : l.length + m.length ≤ c
  · rw [if_pos hcap]
    simp only [hmf]
    by_cases hc0 : c = 0
    · have hl : l = [] := List.length_eq_zero_iff.mp (by omega)
      have hm' : m = [] := List.length_eq_zero_iff.mp (by omega)
      subst hl hm' hc0
      have : K (.slice a (([] : List α).length + ([] : List α).length) 0) H := hk _ H ⟨a, 0, rfl, by simp, fun h0 => absurd h0 (by simp)⟩ (fun b o hb _ => hb) (fun b hb => by cases a <;> simp [bk] at hb)
      cases a with
      | none => exact this
      | some ad => exact this
    · obtain ⟨b, off, cs, e', rfl, hbb, hs, hcs⟩ := hr (by omega)
      simp only [add_none, Nat.mul_one]
      refine stC_run (b := b) (e := e') (m.map enc) _ 0 cs H rfl rfl hbb (by simp; omega) (by simp; intro x _; exact ho x) ?_
      intro H' cs' h1 h2 h3 h4 h5
      simp only [Nat.add_zero] at h3 h4
      refine hk _ H' ⟨some ⟨b, off, none⟩, c, by simp, by simpa using hcap, fun _ => ⟨b, off, cs', e', rfl, h1, by omega, ?_⟩⟩ ?_ ?_
      · intro i hi
        by_cases hil : i < l.length
        · rw [h3 _ (by omega), hcs i hil, List.getElem_append_left hil]
        · have := h4 (i - l.length) (by simp at hi ⊢; omega)
          rw [show off + l.length + (i - l.length) = off + i by omega] at this
          rw [this, List.getElem_append_right (by omega)]; simp
      · intro x o hx hne
        simp only [bk, if_neg hc0] at hne
        rw [h5 x (by rintro rfl; exact hne rfl)]; exact hx
      · intro x hx
        left; exact hx
  · rw [if_neg hcap]
    refine ⟨hb, hc c (by omega), ?_⟩
    simp only [hlf, hmf]
    intro c' hc1 hc2 r hr'
    refine hk _ _ ⟨some ⟨r, 0, none⟩, c', by simp, by simpa using hc1, fun _ => ⟨r, 0, _, e, rfl, Hp.put_same _ _ _, ?_, ?_⟩⟩ ?_ ?_
    · have : (Builtin.zeroCells #[z] (c' - (l.length + m.length))).size = c' - (l.length + m.length) := by simp [Builtin.zeroCells]
      simp [this]; omega
    · intro i hi
      rw [Nat.zero_add, Array.getElem?_append_left (by simpa using hi)]
      rw [← Array.getElem?_toList]
      simp only [Array.toList_append, ← List.map_append, List.getElem?_map]
      rw [List.getElem?_eq_getElem hi]; rfl
    · intro x o hx _
      rw [Hp.put_ne _ _ (by rintro rfl; rw [hr'] at hx; exact absurd hx (by simp))]; exact hx
    · intro x hx
      right
      simp only [bk] at hx
      split at hx
      · simp at hx
      · simp only [Option.some.injEq] at hx; subst hx; exact hr'
end
end Go.Proofs.YtnijdhlmimemcaaGreatDoor.HL
/- Values and loops over a partial heap: the rules that a proof of a function's text uses. -/
namespace Go.Proofs.YtnijdhlmimemcaaGreatDoor.HL
theorem cnd_i {b : Bool} {A B : Prop} (h1 : b = true → A) (h2 : b = false → B) : cnd (.bool b) A B := by
  cases b
  · exact h2 rfl
  · exact h1 rfl
theorem cnd_d {p : Prop} [Decidable p] {A B : Prop} (h1 : p → A) (h2 : ¬ p → B) : cnd (.bool (decide p)) A B := by
  by_cases h : p
  · rw [decide_eq_true h]; exact h1 h
  · rw [decide_eq_false h]; exact h2 h
theorem gop_tt (F : (Value → Hp → Prop) → Prop) (H : Hp) (K : Value → Hp → Prop) : gop (.bool true) true F H K = F K := rfl
theorem gop_ft (F : (Value → Hp → Prop) → Prop) (H : Hp) (K : Value → Hp → Prop) : gop (.bool false) true F H K = K undef H := rfl
theorem vPick_t (a b : Value) : vPick (.bool true) a b = some a := rfl
theorem vPick_f (a b : Value) : vPick (.bool false) a b = some b := rfl
theorem vExt_20 (a b : Value) : vExt (.tuple #[a, b]) 0 = some a := rfl
theorem vExt_21 (a b : Value) : vExt (.tuple #[a, b]) 1 = some b := rfl
theorem vExt_30 (a b c : Value) : vExt (.tuple #[a, b, c]) 0 = some a := rfl
theorem vExt_31 (a b c : Value) : vExt (.tuple #[a, b, c]) 1 = some b := rfl
theorem vExt_32 (a b c : Value) : vExt (.tuple #[a, b, c]) 2 = some c := rfl
theorem vExt_40 (a b c d : Value) : vExt (.tuple #[a, b, c, d]) 0 = some a := rfl
theorem vExt_41 (a b c d : Value) : vExt (.tuple #[a, b, c, d]) 1 = some b := rfl
theorem vExt_42 (a b c d : Value) : vExt (.tuple #[a, b, c, d]) 2 = some c := rfl
theorem vExt_43 (a b c d : Value) : vExt (.tuple #[a, b, c, d]) 3 = some d := rfl
theorem vUn_not (b : Bool) : vUn .not (.bool b) = some (.bool !b) := rfl
theorem vInt_lss (k : IntKind) (a b : Int) : vInt .lss (.int k a) (.int k b) = some (.bool (decide (a < b))) := by simp [vInt]
theorem vInt_leq (k : IntKind) (a b : Int) : vInt .leq (.int k a) (.int k b) = some (.bool (decide (a ≤ b))) := by simp [vInt]
theorem vInt_gtr (k : IntKind) (a b : Int) : vInt .gtr (.int k a) (.int k b) = some (.bool (decide (b < a))) := by simp [vInt]
theorem vInt_geq (k : IntKind) (a b : Int) : vInt .geq (.int k a) (.int k b) = some (.bool (decide (b ≤ a))) := by simp [vInt]
theorem vInt_eql (k : IntKind) (a b : Int) : vInt .eql (.int k a) (.int k b) = some (.bool (decide (a = b))) := by
  simp only [vInt, if_true]; rfl
theorem vInt_neq (k : IntKind) (a b : Int) : vInt .neq (.int k a) (.int k b) = some (.bool (decide (a ≠ b))) := by
  simp only [vInt, if_true, bne, ne_eq, decide_not]; rfl
theorem wrap64 {x : Int} (h : -9223372036854775808 ≤ x) (h' : x < 9223372036854775808) : IntKind.i64.wrap x = x := by
  unfold IntKind.wrap; simp [IntKind.signed, IntKind.bits]; omega
theorem vInt_add {a b : Int} (h : -9223372036854775808 ≤ a + b) (h' : a + b < 9223372036854775808) : vInt .add (.int .i64 a) (.int .i64 b) = some (.int .i64 (a + b)) := by
  simp only [vInt, if_true, wrap64 h h']
theorem vInt_sub {a b : Int} (h : -9223372036854775808 ≤ a - b) (h' : a - b < 9223372036854775808) : vInt .sub (.int .i64 a) (.int .i64 b) = some (.int .i64 (a - b)) := by
  simp only [vInt, if_true, wrap64 h h']
theorem vInt_mul {a b : Int} (h : -9223372036854775808 ≤ a * b) (h' : a * b < 9223372036854775808) : vInt .mul (.int .i64 a) (.int .i64 b) = some (.int .i64 (a * b)) := by
  simp only [vInt, if_true, wrap64 h h']
theorem vInt_rem {a b : Int} (h : b ≠ 0) : vInt .rem (.int .i64 a) (.int .i64 b) = some (.int .i64 (a.tmod b)) := by
  simp only [vInt]; rw [if_pos ⟨trivial, h⟩]
theorem vInt_quo {a b : Int} (h : 0 < b) (h1 : -9223372036854775808 ≤ a) (h2 : a < 9223372036854775808) : vInt .quo (.int .i64 a) (.int .i64 b) = some (.int .i64 (a.tdiv b)) := by
  have e : IntKind.i64.wrap (a.tdiv b) = a.tdiv b := by
    have h3 := Int.natAbs_tdiv_le_natAbs a b
    by_cases h0 : 0 ≤ a
    · have := Int.tdiv_nonneg h0 (Int.le_of_lt h)
      exact wrap64 (by omega) (by omega)
    · have h4 := Int.tdiv_nonneg (a := -a) (by omega) (Int.le_of_lt h)
      rw [Int.neg_tdiv] at h4
      exact wrap64 (by omega) (by omega)
  simp only [vInt]; rw [if_pos ⟨trivial, by omega⟩, e]
theorem vCI_64 (k : IntKind) {a : Int} (h : -9223372036854775808 ≤ a) (h' : a < 9223372036854775808) : vCI .i64 (.int k a) = some (.int .i64 a) := by
  simp only [vCI, wrap64 h h']

/-- What is reckoned at once: the rules of straight code. -/
theorem EV : (∀ (a : Value) (K : Value → Prop), ob (some a) K = K a) ∧ (∀ F H K, gop (.bool true) true F H K = F K) ∧ (∀ F H K, gop (.bool false) true F H K = K undef H) ∧
    (∀ F H K, gop (.bool true) false F H K = K undef H) ∧ (∀ F H K, gop (.bool false) false F H K = F K) ∧ (∀ a b, vPick (.bool true) a b = some a) ∧ (∀ a b, vPick (.bool false) a b = some b) ∧
    (∀ b, vUn .not (.bool b) = some (.bool !b)) ∧ ((!true) = false) ∧ ((!false) = true) ∧ (∀ A B, cnd (.bool true) A B = A) ∧ (∀ A B, cnd (.bool false) A B = B) ∧
    (∀ a b, vBool .eql (.bool a) (.bool b) = some (.bool (a == b))) ∧ (∀ a b, vBool .neq (.bool a) (.bool b) = some (.bool (!(a == b)))) ∧ (∀ b : Bool, (b == b) = true) ∧
    (∀ k a b, vInt .neq (.int k a) (.int k b) = some (.bool (decide (a ≠ b)))) ∧ (∀ k a b, vInt .lss (.int k a) (.int k b) = some (.bool (decide (a < b)))) ∧ (∀ k a b, vInt .gtr (.int k a) (.int k b) = some (.bool (decide (b < a)))) ∧
    (∀ k a b, vInt .leq (.int k a) (.int k b) = some (.bool (decide (a ≤ b)))) ∧ (∀ k a b, vInt .geq (.int k a) (.int k b) = some (.bool (decide (b ≤ a)))) ∧ (∀ k a b, vInt .eql (.int k a) (.int k b) = some (.bool (decide (a = b)))) ∧
    (∀ a : Int, decide (a ≠ a) = false) ∧ (∀ a : Int, decide (a = a) = true) ∧ (decide False = false) ∧ (decide True = true) ∧
    (∀ a b, vExt (.tuple #[a, b]) 0 = some a) ∧ (∀ a b, vExt (.tuple #[a, b]) 1 = some b) ∧ (∀ a b c, vExt (.tuple #[a, b, c]) 0 = some a) ∧ (∀ a b c, vExt (.tuple #[a, b, c]) 1 = some b) ∧ (∀ a b c, vExt (.tuple #[a, b, c]) 2 = some c) ∧
    (∀ a b c d, vExt (.tuple #[a, b, c, d]) 0 = some a) ∧ (∀ a b c d, vExt (.tuple #[a, b, c, d]) 1 = some b) ∧ (∀ a b c d, vExt (.tuple #[a, b, c, d]) 2 = some c) ∧ (∀ a b c d, vExt (.tuple #[a, b, c, d]) 3 = some d) :=
  ⟨fun _ _ => rfl, fun _ _ _ => rfl, fun _ _ _ => rfl, fun _ _ _ => rfl, fun _ _ _ => rfl, fun _ _ => rfl, fun _ _ => rfl, fun _ => rfl, rfl, rfl, fun _ _ => rfl, fun _ _ => rfl,
    fun _ _ => rfl, fun _ _ => rfl, fun b => by simp, fun _ _ _ => vInt_neq _ _ _, fun _ _ _ => vInt_lss _ _ _, fun _ _ _ => vInt_gtr _ _ _, fun _ _ _ => vInt_leq _ _ _, fun _ _ _ => vInt_geq _ _ _, fun _ _ _ => vInt_eql _ _ _,
    fun a => by simp, fun a => by simp, by simp, by simp, fun _ _ => rfl, fun _ _ => rfl, fun _ _ _ => rfl, fun _ _ _ => rfl, fun _ _ _ => rfl, fun _ _ _ _ => rfl, fun _ _ _ _ => rfl, fun _ _ _ _ => rfl, fun _ _ _ _ => rfl⟩

theorem ob_i {α : Type} {x : Option α} {a : α} {K : α → Prop} (h : x = some a) (hk : K a) : ob x K := by rw [h]; exact hk
theorem cnd_t1 {A B : Prop} (h : A) : cnd (.bool true) A B := h
theorem cnd_f1 {A B : Prop} (h : B) : cnd (.bool false) A B := h
theorem gop_rt {F : (Value → Hp → Prop) → Prop} {H : Hp} {K : Value → Hp → Prop} (h : F K) : gop (.bool true) true F H K := h
theorem gop_rf {F : (Value → Hp → Prop) → Prop} {H : Hp} {K : Value → Hp → Prop} (h : F K) : gop (.bool false) false F H K := h
theorem gop_st {F : (Value → Hp → Prop) → Prop} {H : Hp} {K : Value → Hp → Prop} (h : K undef H) : gop (.bool true) false F H K := h
theorem gop_sf {F : (Value → Hp → Prop) → Prop} {H : Hp} {K : Value → Hp → Prop} (h : K undef H) : gop (.bool false) true F H K := h
theorem vBool_neq_same (b : Bool) : vBool .neq (.bool b) (.bool b) = some (.bool false) := by simp [vBool]
theorem Own.one {α : Type} {enc : α → Value} {H : Hp} {v : Value} {l : List α} (h : Own enc H v l) : oneCell v = true := by
  obtain ⟨a, c, rfl, _⟩ := h; rfl
theorem Own.cells {α : Type} {enc : α → Value} {H : Hp} {v : Value} {l : List α} (h : Own enc H v l) : v.cells = #[v] := by
  obtain ⟨a, c, rfl, _⟩ := h; rfl
theorem Sl.one {α : Type} {enc : α → Value} {H : Hp} {v : Value} {l : List α} (h : Sl enc H v l) : oneCell v = true := by
  obtain ⟨a, c, rfl, _⟩ := h; rfl
theorem Sl.cells {α : Type} {enc : α → Value} {H : Hp} {v : Value} {l : List α} (h : Sl enc H v l) : v.cells = #[v] := by
  obtain ⟨a, c, rfl, _⟩ := h; rfl

/-- A loop's next round. -/
theorem nxt {I : Nat → S → Hp → Prop} {Q : Exit → S → Hp → Prop} {σ : S} {H : Hp} {n : Nat} (m : Nat) (hm : m < n) (h : I m σ H) : thenQ (fun σ' H' => ∃ m, m < n ∧ I m σ' H') Q .normal σ H := ⟨m, hm, h⟩
theorem retK {K : Value → Hp → Prop} {v v' : Value} {H : Hp} (e : v = v') (h : K v' H) : K v H := e ▸ h

/-- Several ways that meet: what holds where they meet. -/
theorem jn_i {K : S → Hp → Prop} {F : (S → Hp → Prop) → Prop} (P : S → Hp → Prop) (h : ∀ σ H, P σ H → K σ H) (hf : ∀ J : S → Hp → Prop, (∀ σ H, P σ H → J σ H) → F J) : jn K F := hf K h

theorem kF {p : Prop} [Decidable p] {K : Value → Hp → Prop} {H : Hp} (hk : K (.bool (decide p)) H) (h : ¬ p) : K (.bool false) H := by rw [decide_eq_false h] at hk; exact hk
theorem kT {p : Prop} [Decidable p] {K : Value → Hp → Prop} {H : Hp} (hk : K (.bool (decide p)) H) (h : p) : K (.bool true) H := by rw [decide_eq_true h] at hk; exact hk
theorem kQ {p q : Prop} [Decidable p] [Decidable q] {K : Value → Hp → Prop} {H : Hp} (hk : K (.bool (decide p)) H) (h : p ↔ q) : K (.bool (decide q)) H := by rw [decide_eq_decide.mpr h] at hk; exact hk

/-! ### copies -/
theorem growBy_le (n : Nat) : ∀ (r c : Nat), Builtin.growBy n r c ≤ max c (n + (n + 768) / 4)
  | 0, c => by simp only [Builtin.growBy]; omega
  | r + 1, c => by
    simp only [Builtin.growBy]
    split
    · omega
    · have := growBy_le n r (c + (c + 768) / 4)
      omega
theorem nsc_le {n c : Nat} (h : n > c) : Builtin.nextslicecap n c ≤ 2 * n + 1024 := by
  unfold Builtin.nextslicecap
  split
  · omega
  · split
    · omega
    · have := growBy_le n 4 c; omega
theorem bS_nil {α : Type} {enc : α → Value} {z : Value} {sz : Nat} {e : TypeId} {H : Hp} {K : Value → Hp → Prop} (hk : ∀ v H', Own enc H' v [] → Nw H v → bk v = none → Le H H' → K v H') : bS sz 0 #[z] e [] H K := by
  refine ⟨by simp, ?_⟩
  rw [if_pos (by simp)]
  show match some (#[] : Array Value) with
    | some cells => ∀ r, H r = none → K (.slice (some ⟨r, 0, none⟩) 0 0) (H.put r (.cells cells e))
    | none => False
  intro r hr
  refine hk _ _ ⟨some ⟨r, 0, none⟩, 0, rfl, by simp, fun h0 => absurd h0 (by simp)⟩ ?_ rfl (Le.put _ hr)
  intro b hb
  simp [bk] at hb
/-- An append to an empty slice of its own: a copy. -/
theorem apd_nil {α : Type} {enc : α → Value} {z : Value} {b : Nat} {e : TypeId} {a v1 : Value} {l : List α} {H : Hp} {K : Value → Hp → Prop} (o1 : Own enc H v1 []) (k1 : bk v1 = none) (ha : Sl enc H a l) (ho : ∀ x, oneCell (enc x) = true) (hb : b ≤ 64) (hl : l.length ≤ 68719476736)
    (hk : ∀ v H', Own enc H' v l → Nw H v → Le H H' → K v H') : apd 1 b #[z] e v1 a H K := by
  refine o1.apd ha ho (by simp; omega) (fun c hc => ?_) (fun v2 H2 o2 off2 hbk => ?_)
  · have := nsc_le hc
    simp only [List.length_nil, Nat.zero_add] at this ⊢
    exact Nat.le_trans (Nat.mul_le_mul this hb) (by omega)
  · rw [List.nil_append] at o2
    refine hk v2 H2 o2 (fun x hx => ?_) (fun x o hx => off2 x o hx (by rw [k1]; simp))
    rcases hbk x hx with h | h
    · rw [k1] at h; simp at h
    · exact h
theorem Own.isSl {α : Type} {enc : α → Value} {H : Hp} {v : Value} {l : List α} (h : Own enc H v l) : ∃ a n c, v = .slice a n c := by
  obtain ⟨a, c, h, _⟩ := h; exact ⟨_, _, _, h⟩
theorem Sl.isSl {α : Type} {enc : α → Value} {H : Hp} {v : Value} {l : List α} (h : Sl enc H v l) : ∃ a n c, v = .slice a n c := by
  obtain ⟨a, c, h, _⟩ := h; exact ⟨_, _, _, h⟩
/-- A copy of a slice: an append to an empty one. -/
theorem clone_i {α : Type} {enc : α → Value} {z z' : Value} {sz b : Nat} {e e' : TypeId} {a : Value} {l : List α} {H : Hp} {K : Value → Value → Hp → Prop} (ha : Sl enc H a l) (ho : ∀ x, oneCell (enc x) = true) (hb : b ≤ 64) (hl : l.length ≤ 68719476736)
    (hk : ∀ v1 v H', Own enc H' v l → Nw H v → Le H H' → K v1 v H') : bS sz 0 #[z] e [] H (fun v1 H1 => apd 1 b #[z'] e' v1 a H1 (K v1)) := by
  refine bS_nil (enc := enc) (fun v1 H1 o1 n1 k1 le1 => ?_)
  refine o1.apd (ha.le le1) ho (by simp; omega) (fun c hc => ?_) (fun v2 H2 o2 off2 hbk => ?_)
  · have := nsc_le hc
    simp only [List.length_nil, Nat.zero_add] at this ⊢
    exact Nat.le_trans (Nat.mul_le_mul this hb) (by omega)
  · rw [List.nil_append] at o2
    have hle : Le H1 H2 := fun x o hx => off2 x o hx (by rw [k1]; simp)
    refine hk v1 v2 H2 o2 (fun x hx => ?_) (le1.trans hle)
    rcases hbk x hx with h | h
    · rw [k1] at h; simp at h
    · cases ho : H x with
      | none => rfl
      | some o => rw [le1 x o ho] at h; simp at h

/-! ### lists by index -/
theorem at_eq {α : Type} (d : α) (l : List α) {i : Nat} (h : i < l.length) : at_ d l (i : Int) = l[i] := by
  unfold at_; rw [Int.toNat_natCast, List.getD_eq_getElem?_getD, List.getElem?_eq_getElem h]; rfl
theorem take_at {α : Type} (d : α) (l : List α) {i : Nat} (h : i < l.length) : l.take (i + 1) = l.take i ++ [at_ d l (i : Int)] := by
  rw [at_eq d l h, List.take_append_getElem h]
theorem at_mem {α : Type} (d : α) (l : List α) {i : Int} (h0 : 0 ≤ i) (h : i < l.length) : at_ d l i ∈ l := by
  have hn : i.toNat < l.length := by omega
  unfold at_; rw [List.getD_eq_getElem?_getD, List.getElem?_eq_getElem hn]; exact List.getElem_mem hn
end Go.Proofs.YtnijdhlmimemcaaGreatDoor.HL
/- Maps by texts. -/
namespace Go.Proofs.YtnijdhlmimemcaaGreatDoor.HL
set_option maxRecDepth 100000
def keyIs (k : ByteArray) (v : Value) : Bool := match v with | .string s => k == s | _ => false
/-- What a map has at a text: where, and what. -/
def findS (k : ByteArray) : List MapEntry → Nat → Option (Nat × Value)
  | [], _ => none
  | e :: es, i => bif keyIs k e.key then some (i, e.val) else findS k es (i + 1)
def keysS (es : List MapEntry) : Prop := ∀ e ∈ es, ∃ s, e.key = .string s
theorem findNow_s (k : ByteArray) : ∀ (es : List MapEntry) (i : Nat), keysS es → Instr.findNow .string (.string k) es i = some (findS k es i)
  | [], i, _ => rfl
  | e :: es, i, h => by
    obtain ⟨s, hs⟩ := h e (by simp)
    have ih := findNow_s k es (i + 1) (fun x hx => h x (by simp [hx]))
    unfold Instr.findNow findS
    rw [hs]
    simp only [Instr.sameNow, keyIs]
    cases e1 : (k == s) with
    | true => rfl
    | false => exact ih
theorem val_checkKey (P : Program) (b : Bool) (n : Nat) (t : TypeId) (k : ByteArray) (H : Hp) (ht : P.underlying t = some .string) : val P (Instr.checkKey b (n + 1) t (.string k)) H = some () := by
  unfold Instr.checkKey
  rw [val_bind', val_underlying, ht]
  rfl
theorem val_findKey (P : Program) (t : TypeId) (k : ByteArray) (es : List MapEntry) (H : Hp) (ht : P.underlying t = some .string) (hk : keysS es) : val P (Instr.findKey t (.string k) es) H = some (findS k es 0) := by
  unfold Instr.findKey
  rw [val_bind', val_underlying, ht]
  simp only [Option.bind_some]
  rw [findNow_s k es 0 hk]
  rfl
/-- A look into a map. -/
theorem hp_lookup {P : Program} {t kt et : TypeId} {r c : Nat} {es : Array MapEntry} {k : ByteArray} {z : Value} {H : Hp} {K : Value → Hp → Prop} (ht : P.underlying t = some (.map kt et)) (hk : P.underlying kt = some .string) (hz : zeroO P et = some z)
    (hr : H r = some (.map es c)) (hs : keysS es.toList) (h : K (.tuple #[match findS k es.toList 0 with | some (_, v) => v | none => z, .bool (findS k es.toList 0).isSome]) H) : hp P (Instr.lookup t (.map (some r)) (.string k) true) H K := by
  refine hp_of_val P _ H K _ ?_ h
  unfold Instr.lookup
  rw [val_bind', val_underlying, ht]
  simp only [Option.bind_some]
  rw [val_bind']
  have e1 : val P (getObj r) H = some (.map es c) := by
    show val P (Sem.getObj r Sem.pure) H = _
    simp only [val, hr]
  simp only [val_bind', e1, Option.bind_some, val_pure, val_checkKey P _ 9999 kt k H hk, val_findKey P kt k es.toList H hk hs]
  cases findS k es.toList 0 with
  | none => simp only [val_bind', val_zeroValue, hz, Option.bind_some, val_pure]; rfl
  | some x => simp only [val_pure, Option.bind_some]; rfl
/-- A new entry. -/
theorem hp_mapUpdate_new {P : Program} {t kt et : TypeId} {r c : Nat} {es : Array MapEntry} {k : ByteArray} {x : Value} {H : Hp} {K : Unit → Hp → Prop} (ht : P.underlying t = some (.map kt et)) (hk : P.underlying kt = some .string)
    (hr : H r = some (.map es c)) (hs : keysS es.toList) (hn : findS k es.toList 0 = none) (h : K () (H.put r (.map (es.push { key := .string k, val := x, born := c }) (c + 1)))) : hp P (Instr.mapUpdate t (.map (some r)) (.string k) x) H K := by
  unfold Instr.mapUpdate
  have e1 : val P (getObj r) H = some (.map es c) := by
    show val P (Sem.getObj r Sem.pure) H = _
    simp only [val, hr]
  refine hp_val_bind P _ _ H K _ (by rw [val_underlying, ht]) ?_
  refine hp_val_bind P _ _ H K _ e1 ?_
  refine hp_val_bind P _ _ H K _ (val_checkKey P _ 9999 kt k H hk) ?_
  refine hp_val_bind P _ _ H K _ (val_findKey P kt k es.toList H hk hs) ?_
  rw [hn]
  show hp P (Sem.setObj r _ (Sem.pure ())) H K
  simp only [hp, hr]
  exact h
end Go.Proofs.YtnijdhlmimemcaaGreatDoor.HL
/- Rules for contracts that are told once. -/
namespace Go.Proofs.YtnijdhlmimemcaaGreatDoor.HL
theorem keq {K : Value → Hp → Prop} {v v' : Value} {H : Hp} (e : v = v') (h : K v' H) : K v H := e ▸ h
theorem Own.cast {α : Type} {enc : α → Value} {H : Hp} {v : Value} {l l' : List α} (e : l = l') (h : Own enc H v l) : Own enc H v l' := e ▸ h
theorem Sl.cast {α : Type} {enc : α → Value} {H : Hp} {v : Value} {l l' : List α} (e : l = l') (h : Sl enc H v l) : Sl enc H v l' := e ▸ h
/-- A slice that reads so, and whose block is known. -/
def Ro {α : Type} (enc : α → Value) (H : Hp) (v : Value) (l : List α) : Prop := Sl enc H v l ∧ ∀ b, bk v = some b → ∃ o, H b = some o
section
variable {α : Type} {enc : α → Value} {H H' : Hp} {u v : Value} {l l' : List α}
theorem Ro.sl (h : Ro enc H v l) : Sl enc H v l := h.1
theorem Ro.known (h : Ro enc H v l) : ∀ b, bk v = some b → ∃ o, H b = some o := h.2
theorem Ro.le (h : Ro enc H v l) (hl : Le H H') : Ro enc H' v l := ⟨h.1.le hl, fun b hb => by obtain ⟨o, ho⟩ := h.2 b hb; exact ⟨o, hl b o ho⟩⟩
theorem Sl.off (h : Sl enc H u l) (ho : Off v H H') (ha : Apart u v) : Sl enc H' u l := by
  obtain ⟨a, c, rfl, hc, hr⟩ := h
  refine ⟨a, c, rfl, hc, fun i hi => ?_⟩
  obtain ⟨ad, rfl, hh⟩ := hr i hi
  refine ⟨ad, rfl, ?_⟩
  have hb : (ad.add i).block = ad.block := by unfold Addr.add; split <;> rfl
  have hne : bk v ≠ some ad.block := ha ad.block (by simp only [bk]; rw [if_neg (by omega)])
  unfold Hp.cell? at hh ⊢
  rw [hb] at hh ⊢
  cases hc' : H ad.block with
  | none => simp [hc'] at hh
  | some o => rw [ho _ _ hc' hne]; rw [hc'] at hh; exact hh
theorem Ro.off (h : Ro enc H u l) (ho : Off v H H') (ha : Apart u v) : Ro enc H' u l := ⟨h.1.off ho ha, fun b hb => by obtain ⟨o, hh⟩ := h.2 b hb; exact ⟨o, ho b o hh (ha b hb)⟩⟩
theorem Ro.apart (h : Ro enc H u l) (hn : Nw H v) : Apart u v := Apart.of_nw h.2 hn
theorem Ro.cast (e : l = l') (h : Ro enc H v l) : Ro enc H v l' := e ▸ h
theorem Ro.len (h : Ro enc H v l) : vLenSl v = some (.int .i64 l.length) := h.1.len
theorem Ro.one (h : Ro enc H v l) : oneCell v = true := h.1.one
theorem Ro.cells (h : Ro enc H v l) : v.cells = #[v] := h.1.cells
theorem Ro.isSl (h : Ro enc H v l) : ∃ a n c, v = .slice a n c := h.1.isSl
theorem Own.ro (h : Own enc H v l) : Ro enc H v l := ⟨h.sl, h.known⟩
theorem Ro.of_sl (h : Sl enc H v l) (hn : 0 < l.length) : Ro enc H v l := by
  refine ⟨h, ?_⟩
  obtain ⟨a, c, rfl, hc, hr⟩ := h
  intro b hb
  obtain ⟨ad, rfl, hh⟩ := hr 0 hn
  simp only [bk, if_neg (by omega : ¬ c = 0), Option.some.injEq] at hb
  subst hb
  unfold Hp.cell? at hh
  have hb : (ad.add 0).block = ad.block := by unfold Addr.add; split <;> rfl
  rw [hb] at hh
  cases hc' : H ad.block with
  | none => simp [hc'] at hh
  | some o => exact ⟨o, rfl⟩
end
theorem gop_u {b : Bool} {F : (Value → Hp → Prop) → Prop} {H : Hp} {K : Value → Hp → Prop} (h : K undef H) : gop undef b F H K := h
theorem vUn_ngK {a : Int} (h : -9223372036854775808 ≤ -a) (h' : -a < 9223372036854775808) : vUn .neg (.int .i64 a) = some (.int .i64 (-a)) := by
  simp only [vUn, Int.zero_sub, wrap64 h h']
theorem gop_e {b c g : Bool} {F : (Value → Hp → Prop) → Prop} {H : Hp} {K : Value → Hp → Prop} (e : b = c) (h : gop (.bool c) g F H K) : gop (.bool b) g F H K := by rw [e]; exact h
theorem vPick_et {b : Bool} (e : b = true) (x y : Value) : vPick (.bool b) x y = some x := by rw [e]; rfl
theorem vPick_ef {b : Bool} (e : b = false) (x y : Value) : vPick (.bool b) x y = some y := by rw [e]; rfl
/-- A number, or 0 where something does not hold. -/
def selI (p : Prop) [Decidable p] (x : Int) : Int := if p then x else 0
/-- A list, or none where something does not hold. -/
def selL {α : Type} (p : Prop) [Decidable p] (l : List α) : List α := if p then l else []
theorem selI_t {p : Prop} [Decidable p] {x : Int} (h : p) : selI p x = x := if_pos h
theorem selI_f {p : Prop} [Decidable p] {x : Int} (h : ¬ p) : selI p x = 0 := if_neg h
theorem selL_t {α : Type} {p : Prop} [Decidable p] {l : List α} (h : p) : selL p l = l := if_pos h
theorem selL_f {α : Type} {p : Prop} [Decidable p] {l : List α} (h : ¬ p) : selL p l = [] := if_neg h
theorem gT {p : Prop} [Decidable p] {F : (Value → Hp → Prop) → Prop} {H : Hp} {K : Value → Hp → Prop} (c : p) (h : F K) : gop (.bool (decide p)) true F H K := gop_e (decide_eq_true c) (gop_rt h)
theorem hT {p : Prop} [Decidable p] {F : (Value → Hp → Prop) → Prop} {H : Hp} {K : Value → Hp → Prop} (c : p) (h : K undef H) : gop (.bool (decide p)) false F H K := gop_e (decide_eq_true c) (gop_st h)
theorem gF {p : Prop} [Decidable p] {F : (Value → Hp → Prop) → Prop} {H : Hp} {K : Value → Hp → Prop} (c : ¬ p) (h : F K) : gop (.bool (decide p)) false F H K := gop_e (decide_eq_false c) (gop_rf h)
theorem hF {p : Prop} [Decidable p] {F : (Value → Hp → Prop) → Prop} {H : Hp} {K : Value → Hp → Prop} (c : ¬ p) (h : K undef H) : gop (.bool (decide p)) true F H K := gop_e (decide_eq_false c) (gop_sf h)
end Go.Proofs.YtnijdhlmimemcaaGreatDoor.HL
/- Structs that lie in cells of their own: what is read, what is written. -/
namespace Go.Proofs.YtnijdhlmimemcaaGreatDoor.HL
/-- A pointer to a block of its own, whose cells are these. -/
def Cel (H : Hp) (p : Value) (cs : List Value) : Prop := ∃ r e, p = .pointer (some ⟨r, 0, none⟩) ∧ H r = some (.cells cs.toArray e (0, 0))
/-- The pointer to a field's first cell. -/
def fp (p : Value) (k : Nat) : Value := match p with | .pointer (some a) => .pointer (some (a.add k)) | _ => undef

theorem oc0 : ∀ x ∈ ([] : List Value), oneCell x = true := fun x hx => absurd hx (by simp)
theorem oc1 {a : Value} {l : List Value} (h : oneCell a = true) (t : ∀ x ∈ l, oneCell x = true) : ∀ x ∈ a :: l, oneCell x = true := fun x hx => by
  rcases List.mem_cons.mp hx with rfl | hx
  · exact h
  · exact t x hx
section
variable {H H' : Hp} {p u v : Value} {cs : List Value}
theorem Cel.le (h : Cel H p cs) (hl : Le H H') : Cel H' p cs := by
  obtain ⟨r, e, rfl, hr⟩ := h
  exact ⟨r, e, rfl, hl _ _ hr⟩
theorem Cel.off (h : Cel H p cs) (ho : Off v H H') (ha : Apart p v) : Cel H' p cs := by
  obtain ⟨r, e, rfl, hr⟩ := h
  exact ⟨r, e, rfl, ho _ _ hr (ha r rfl)⟩
theorem Cel.known (h : Cel H p cs) : ∀ b, bk p = some b → ∃ o, H b = some o := by
  obtain ⟨r, e, rfl, hr⟩ := h
  intro b hb
  simp only [bk, Option.some.injEq] at hb
  subst hb
  exact ⟨_, hr⟩
theorem Cel.apart (h : Cel H p cs) (hn : Nw H v) : Apart p v := Apart.of_nw h.known hn
theorem nw_i {cells : Array Value} {e : TypeId} {K : Value → Hp → Prop} (hk : ∀ p H', Cel H' p cells.toList → Nw H p → Le H H' → K p H') : nw cells e H K := by
  intro r hr
  refine hk _ _ ⟨r, e, rfl, by rw [Hp.put_same]⟩ ?_ (Le.put _ hr)
  intro b hb
  simp only [bk, Option.some.injEq] at hb
  subst hb
  exact hr
theorem Cel.fa (h : Cel H p cs) (k : Nat) : vFa k p = some (fp p k) := by
  obtain ⟨r, e, rfl, hr⟩ := h; rfl
theorem Cel.nilC (h : Cel H p cs) : vNilC p = some p := by
  obtain ⟨r, e, rfl, hr⟩ := h; rfl
theorem Cel.ld (h : Cel H p cs) (k : Nat) {x : Value} (hx : cs[k]? = some x) : vLoad (fp p k) H = some x := by
  obtain ⟨r, e, rfl, hr⟩ := h
  simp only [fp, vLoad, add_none, Hp.cell?, hr, Nat.zero_add]
  simpa using hx
theorem Cel.ld0 (h : Cel H p cs) {x : Value} (hx : cs[0]? = some x) : vLoad p H = some x := by
  obtain ⟨r, e, rfl, hr⟩ := h
  simp only [vLoad, Hp.cell?, hr]
  simpa using hx
theorem Cel.ldn (h : Cel H p cs) {n : Nat} (hn : cs.length = n) : vLoadN n p H = some (.agg cs.toArray) := by
  obtain ⟨r, e, rfl, hr⟩ := h
  simp only [vLoadN]
  rw [rd_cells (enc := id) ⟨r, 0, none⟩ n 0 cs hn (fun i hi => by
    simp only [add_none, Hp.cell?, hr, Nat.zero_add]
    simp [hi])]
  simp
theorem Cel.st (h : Cel H p cs) {k : Nat} {x : Value} {K : Hp → Prop} (hk : k < cs.length) (ho : oneCell x = true) (hz : x.cells = #[x]) (hK : ∀ H', Cel H' p (cs.set k x) → Off p H H' → K H') : st 1 (fp p k) x H K := by
  obtain ⟨r, e, rfl, hr⟩ := h
  simp only [HL.st, fp, add_none, Nat.zero_add, hz, List.toList_toArray, List.size_toArray, List.length_singleton, true_and, stC, Nat.add_zero]
  refine ⟨ho, ?_, ?_, ?_⟩
  · simp only [Hp.cell?, hr]; simp [hk]
  · simp only [Hp.frozen?, hr]; simp
  · refine hK _ ⟨r, e, rfl, ?_⟩ ?_
    · simp only [Hp.setCell, hr, Hp.put_same]; simp
    · intro b o hb hv
      simp only [bk, ne_eq, Option.some.injEq] at hv
      simp only [Hp.setCell, hr]
      rw [Hp.put_ne _ _ (Ne.symm hv)]
      exact hb
theorem Cel.st0 (h : Cel H p cs) {x : Value} {K : Hp → Prop} (hk : 0 < cs.length) (ho : oneCell x = true) (hz : x.cells = #[x]) (hK : ∀ H', Cel H' p (cs.set 0 x) → Off p H H' → K H') : HL.st 1 p x H K := by
  have : p = fp p 0 := by obtain ⟨r, e, rfl, hr⟩ := h; simp [fp, add_none]
  have h2 := h.st (K := K) hk ho hz hK
  rwa [← this] at h2
theorem Cel.stn (h : Cel H p cs) {ws : List Value} {n : Nat} {K : Hp → Prop} (hn : ws.length = n) (hl : cs.length = n) (ho : ∀ x ∈ ws, oneCell x = true) (hK : ∀ H', Cel H' p ws → Off p H H' → K H') : HL.st n p (.agg ws.toArray) H K := by
  obtain ⟨r, e, rfl, hr⟩ := h
  simp only [HL.st, Value.cells, List.size_toArray, hn, true_and]
  refine stC_run (b := r) (e := e) ws _ 0 cs.toArray H rfl rfl hr (by simp; omega) ho ?_
  intro H' cs' h1 h2 h3 h4 h5
  refine hK H' ⟨r, e, rfl, ?_⟩ ?_
  · rw [h1]
    have : cs' = ws.toArray := by
      apply Array.ext_getElem?
      intro i
      by_cases hi : i < ws.length
      · have := h4 i hi
        simp only [Nat.zero_add] at this
        rw [this]; simp [hi]
      · rw [Array.getElem?_eq_none (by rw [h2]; simp; omega), Array.getElem?_eq_none (by simp; omega)]
    rw [this]
  · intro b o hb hv
    simp only [bk, ne_eq, Option.some.injEq] at hv
    rw [h5 b (Ne.symm hv)]; exact hb
end
end Go.Proofs.YtnijdhlmimemcaaGreatDoor.HL
/- Slices whose elements have some cells each: what is read, what is owned. -/
namespace Go.Proofs.YtnijdhlmimemcaaGreatDoor.HL
theorem add_add (a : Addr) (x y : Nat) : (a.add x).add y = a.add (x + y) := by
  unfold Addr.add
  by_cases hx : x = 0
  · subst hx; simp
  · by_cases hy : y = 0
    · subst hy; simp
    · rw [if_neg hx, if_neg hy, if_neg (by omega)]; simp [Nat.add_assoc]
theorem add_block (a : Addr) (x : Nat) : (a.add x).block = a.block := by unfold Addr.add; split <;> rfl
section
variable {α : Type} {enc : α → List Value} {n : Nat} {H H' : Hp} {u v : Value} {l m : List α}
theorem flat_len (hn : ∀ x, (enc x).length = n) : ∀ l : List α, (l.flatMap enc).length = l.length * n
  | [] => by simp
  | x :: r => by rw [List.flatMap_cons, List.length_append, hn, flat_len hn r, List.length_cons, Nat.add_mul, Nat.one_mul]; omega
theorem flat_get (hn : ∀ x, (enc x).length = n) : ∀ (l : List α) (i j : Nat) (h : i < l.length), j < n → (l.flatMap enc)[i * n + j]? = (enc l[i])[j]?
  | x :: r, 0, j, h, hj => by rw [List.flatMap_cons, Nat.zero_mul, Nat.zero_add, List.getElem?_append_left (by rw [hn]; exact hj)]; rfl
  | x :: r, i + 1, j, h, hj => by
    rw [List.flatMap_cons, List.getElem?_append_right (by rw [hn, Nat.add_mul]; omega), hn, show (i + 1) * n + j - n = i * n + j by rw [Nat.add_mul]; omega, flat_get hn r i j (by simpa using h) hj]
    rfl
theorem flat_ix {i j N : Nat} (h : i < N) (hj : j < n) : i * n + j < N * n := by
  have := Nat.mul_le_mul_right n (show i + 1 ≤ N by omega)
  rw [Nat.add_mul] at this; omega
/-- A slice of elements of n cells that reads so. -/
def SlE (n : Nat) (enc : α → List Value) (H : Hp) (v : Value) (l : List α) : Prop :=
  ∃ a c, v = .slice a l.length c ∧ l.length ≤ c ∧ ∀ t (h : t < (l.flatMap enc).length), ∃ ad, a = some ad ∧ H.cell? (ad.add t) = some (l.flatMap enc)[t]
/-- One whose block is known whole, and may be written. -/
def OwnE (n : Nat) (enc : α → List Value) (H : Hp) (v : Value) (l : List α) : Prop :=
  ∃ a c, v = .slice a l.length c ∧ l.length ≤ c ∧ (0 < c → ∃ b off cs e, a = some ⟨b, off, none⟩ ∧ H b = some (.cells cs e (0, 0)) ∧ off + c * n ≤ cs.size ∧ ∀ t (h : t < (l.flatMap enc).length), cs[off + t]? = some (l.flatMap enc)[t])
/-- The pointer to an element. -/
def ptrE (n : Nat) (v : Value) (i : Int) : Value := match v with | .slice (some a) _ _ => .pointer (some (a.add (i.toNat * n))) | _ => undef
theorem SlE.le (h : SlE n enc H v l) (hl : Le H H') : SlE n enc H' v l := by
  obtain ⟨a, c, rfl, hc, hr⟩ := h
  exact ⟨a, c, rfl, hc, fun i hi => by obtain ⟨ad, e, hh⟩ := hr i hi; exact ⟨ad, e, hl.cell hh⟩⟩
theorem SlE.len (h : SlE n enc H v l) : vLenSl v = some (.int .i64 l.length) := by
  obtain ⟨a, c, rfl, hc, hr⟩ := h; rfl
theorem SlE.base (h : SlE n enc H v l) (hn : ∀ x, (enc x).length = n) (n0 : 0 < n) {i : Nat} (hi : i < l.length) : ∃ a c, v = .slice (some a) l.length c ∧ ∀ j (hj : j < n), H.cell? (a.add (i * n + j)) = (enc l[i])[j]? := by
  obtain ⟨a, c, rfl, hc, hr⟩ := h
  have hb := flat_ix (n := n) hi n0
  obtain ⟨ad, rfl, _⟩ := hr (i * n + 0) (by rw [flat_len hn]; exact hb)
  refine ⟨ad, c, rfl, fun j hj => ?_⟩
  have hk := flat_ix (n := n) hi hj
  obtain ⟨ad', e, hh⟩ := hr (i * n + j) (by rw [flat_len hn]; exact hk)
  cases e
  rw [hh, ← flat_get hn l i j hi hj, List.getElem?_eq_getElem]
theorem SlE.ix (h : SlE n enc H v l) (hn : ∀ x, (enc x).length = n) (n0 : 0 < n) {k : IntKind} {i : Int} (h0 : 0 ≤ i) (h1 : i < l.length) : vIx n v (.int k i) = some (ptrE n v i) := by
  obtain ⟨a, c, rfl, _⟩ := h.base hn n0 (i := i.toNat) (by omega)
  simp only [vIx, ptrE]
  rw [if_pos ⟨h0, by simpa using h1⟩]
theorem SlE.ldn (h : SlE n enc H v l) (hn : ∀ x, (enc x).length = n) (n0 : 0 < n) (d : α) {i : Int} (h0 : 0 ≤ i) (h1 : i < l.length) : vLoadN n (ptrE n v i) H = some (.agg (enc (at_ d l i)).toArray) := by
  have hi : i.toNat < l.length := by omega
  obtain ⟨a, c, rfl, hr⟩ := h.base hn n0 hi
  have e : at_ d l i = l[i.toNat] := by unfold at_; rw [List.getD_eq_getElem?_getD, List.getElem?_eq_getElem hi]; rfl
  simp only [vLoadN, ptrE]
  rw [rd_cells (enc := id) _ n 0 (enc l[i.toNat]) (hn _) (fun j hj => by
    rw [add_add, Nat.zero_add, hr j (by rw [hn] at hj; exact hj), List.getElem?_eq_getElem hj]; rfl), e]
  simp
theorem SlE.fa (h : SlE n enc H v l) (hn : ∀ x, (enc x).length = n) (n0 : 0 < n) {i : Int} (h0 : 0 ≤ i) (h1 : i < l.length) (k : Nat) : vFa k (ptrE n v i) = some (fp (ptrE n v i) k) := by
  obtain ⟨a, c, rfl, _⟩ := h.base hn n0 (i := i.toNat) (by omega)
  rfl
theorem SlE.nilC (h : SlE n enc H v l) (hn : ∀ x, (enc x).length = n) (n0 : 0 < n) {i : Int} (h0 : 0 ≤ i) (h1 : i < l.length) : vNilC (ptrE n v i) = some (ptrE n v i) := by
  obtain ⟨a, c, rfl, _⟩ := h.base hn n0 (i := i.toNat) (by omega)
  rfl
theorem SlE.ld (h : SlE n enc H v l) (hn : ∀ x, (enc x).length = n) (n0 : 0 < n) (d : α) {i : Int} (h0 : 0 ≤ i) (h1 : i < l.length) {k : Nat} (hk : k < n) {x : Value} (hx : (enc (at_ d l i))[k]? = some x) : vLoad (fp (ptrE n v i) k) H = some x := by
  have hi : i.toNat < l.length := by omega
  obtain ⟨a, c, rfl, hr⟩ := h.base hn n0 hi
  have e : at_ d l i = l[i.toNat] := by unfold at_; rw [List.getD_eq_getElem?_getD, List.getElem?_eq_getElem hi]; rfl
  simp only [vLoad, fp, ptrE, add_add]
  rw [hr k hk, ← e, hx]
theorem SlE.firstC (h : SlE n enc H v l) (hn : ∀ x, (enc x).length = n) : firstC H n l.length v = some (l.flatMap enc) := by
  obtain ⟨a, c, rfl, hc, hr⟩ := h
  by_cases h0 : (l.flatMap enc).length = 0
  · have e : l.flatMap enc = [] := List.length_eq_zero_iff.mp h0
    have e2 : l.length * n = 0 := by rw [← flat_len hn]; exact h0
    cases a with
    | none => rw [e]; rfl
    | some ad => simp only [HL.firstC, e2, e]; rfl
  · obtain ⟨ad, rfl, _⟩ := hr 0 (by omega)
    simp only [HL.firstC]
    have := rd_cells (H := H) (enc := id) ad (l.length * n) 0 (l.flatMap enc) (flat_len hn l) (fun i hi => by obtain ⟨ad', e, hh⟩ := hr i hi; cases e; simpa using hh)
    rw [this]; simp
theorem SlE.lenO (h : SlE n enc H v l) : lenO v = some l.length := by
  obtain ⟨a, c, rfl, hc, hr⟩ := h; rfl
theorem OwnE.len (h : OwnE n enc H v l) : vLenSl v = some (.int .i64 l.length) := by
  obtain ⟨a, c, rfl, hc, hr⟩ := h; rfl
theorem OwnE.sl (h : OwnE n enc H v l) (hn : ∀ x, (enc x).length = n) : SlE n enc H v l := by
  obtain ⟨a, c, rfl, hc, hr⟩ := h
  refine ⟨a, c, rfl, hc, fun i hi => ?_⟩
  have h1 := flat_len hn l
  have hc0 : 0 < c := by
    rcases Nat.eq_zero_or_pos c with h | h
    · have : l.length = 0 := by omega
      rw [this, Nat.zero_mul] at h1; omega
    · exact h
  obtain ⟨b, off, cs, e, rfl, hb, hs, hcs⟩ := hr hc0
  exact ⟨_, rfl, by simp only [Hp.cell?, add_none, hb, hcs i hi]; rfl⟩
theorem OwnE.off (h : OwnE n enc H u l) (ho : Off v H H') (ha : Apart u v) : OwnE n enc H' u l := by
  obtain ⟨a, c, rfl, hc, hr⟩ := h
  refine ⟨a, c, rfl, hc, fun h0 => ?_⟩
  obtain ⟨b, off, cs, e, rfl, hb, hs, hcs⟩ := hr h0
  refine ⟨b, off, cs, e, rfl, ho b _ hb (ha b ?_), hs, hcs⟩
  simp only [bk]
  rw [if_neg (by omega)]
theorem OwnE.le (h : OwnE n enc H u l) (hl : Le H H') : OwnE n enc H' u l := by
  obtain ⟨a, c, rfl, hc, hr⟩ := h
  refine ⟨a, c, rfl, hc, fun h0 => ?_⟩
  obtain ⟨b, off, cs, e, rfl, hb, hs, hcs⟩ := hr h0
  exact ⟨b, off, cs, e, rfl, hl b _ hb, hs, hcs⟩
theorem OwnE.known (h : OwnE n enc H u l) : ∀ b, bk u = some b → ∃ o, H b = some o := by
  obtain ⟨a, c, rfl, hc, hr⟩ := h
  intro b hb
  cases a with
  | none => simp [bk] at hb
  | some ad =>
    simp only [bk] at hb
    by_cases h0 : c = 0
    · rw [if_pos h0] at hb; simp at hb
    · rw [if_neg h0] at hb
      obtain ⟨b', off, cs, e, he, hbb, _⟩ := hr (by omega)
      simp only [Option.some.injEq] at hb he
      subst he
      simp only at hb
      subst hb
      exact ⟨_, hbb⟩
theorem OwnE.apart (h : OwnE n enc H u l) (hn : Nw H v) : Apart u v := Apart.of_nw h.known hn
theorem OwnE.one (h : OwnE n enc H v l) : oneCell v = true := by
  obtain ⟨a, c, rfl, _⟩ := h; rfl
theorem OwnE.cells (h : OwnE n enc H v l) : v.cells = #[v] := by
  obtain ⟨a, c, rfl, _⟩ := h; rfl
theorem OwnE.isSl (h : OwnE n enc H v l) : ∃ a n c, v = .slice a n c := by
  obtain ⟨a, c, h, _⟩ := h; exact ⟨_, _, _, h⟩
theorem OwnE.cast {l' : List α} (e : l = l') (h : OwnE n enc H v l) : OwnE n enc H v l' := e ▸ h
theorem OwnE.nil_of (a : Option Addr) : OwnE n enc H (.slice a 0 0) ([] : List α) := ⟨a, 0, rfl, by simp, fun h0 => absurd h0 (by simp)⟩
theorem SlE.nil (c : Nat) (a : Option Addr) : SlE n enc H (.slice a 0 c) ([] : List α) := ⟨a, c, rfl, by simp, fun i hi => absurd hi (by simp)⟩
theorem SlE.one (h : SlE n enc H v l) : oneCell v = true := by
  obtain ⟨a, c, rfl, _⟩ := h; rfl
theorem SlE.cells (h : SlE n enc H v l) : v.cells = #[v] := by
  obtain ⟨a, c, rfl, _⟩ := h; rfl
theorem SlE.cast {l' : List α} (e : l = l') (h : SlE n enc H v l) : SlE n enc H v l' := e ▸ h
/-- A new row of elements of n cells: one element. -/
theorem bSE_one {z : Array Value} {e : TypeId} {x : α} {k : Nat} {cs : List Value} {K : Value → Hp → Prop} (hx : enc x = cs) (hl : cs.length = n) (n0 : 0 < n) (n1 : n ≤ 1000) (hz : z.size = n)
    (hk : ∀ v H', OwnE n enc H' v [x] → Nw H v → Le H H' → K v H') (hk1 : k = 1) : bS n k z e [(0, .agg cs.toArray)] H K := by
  subst hk1
  refine ⟨by omega, ?_⟩
  have hs : (zrow z (1 * n)).size = n := by simp [zrow]
  have hf : Instr.fill (fun i => some (i * n, n)) (if 1 * n = 0 then #[] else zrow z (1 * n)) [(0, .agg cs.toArray)] = some cs.toArray := by
    rw [if_neg (by omega)]
    simp only [Instr.fill, Value.cells, Nat.zero_mul, Nat.zero_add]
    rw [if_neg (by rw [hs]; simp [hl])]
    congr 1
    apply Array.ext_getElem?
    intro i
    have key : ∀ (r : List Value) (s : Nat) (a : Array Value), s + r.length ≤ a.size → ((r.toArray.zipIdx s).foldl (fun cs x => cs.setIfInBounds x.2 x.1) a)[i]? = if s ≤ i ∧ i < s + r.length then r[i - s]? else a[i]? := by
      intro r
      induction r with
      | nil => intro s a _; rw [if_neg (by simp only [List.length_nil]; omega), ← Array.foldl_toList, Array.toList_zipIdx]; rfl
      | cons y r ih =>
        intro s a ha
        simp only [List.length_cons] at ha ⊢
        rw [← Array.foldl_toList]
        simp only [Array.toList_zipIdx, List.zipIdx_cons, List.foldl_cons]
        have := ih (s + 1) (a.setIfInBounds s y) (by simp; omega)
        rw [← Array.foldl_toList] at this
        simp only [Array.toList_zipIdx] at this
        rw [this]
        by_cases h1 : s = i
        · subst h1
          rw [if_neg (by omega), if_pos (by omega), Array.getElem?_setIfInBounds_self_of_lt (by omega)]; simp
        · by_cases h2 : s + 1 ≤ i ∧ i < s + 1 + r.length
          · rw [if_pos h2, if_pos (by omega), show i - s = (i - (s + 1)) + 1 by omega]; simp
          · rw [if_neg h2, if_neg (by omega), Array.getElem?_setIfInBounds_ne h1]
    have := key cs 0 (zrow z (1 * n)) (by rw [hs]; omega)
    simp only [Nat.zero_add, Nat.zero_le, true_and, Nat.sub_zero] at this
    rw [this]
    split
    · simp
    · rw [Array.getElem?_eq_none (by rw [hs]; omega), Array.getElem?_eq_none (by simp; omega)]
  rw [hf]
  intro r hr
  refine hk _ _ ⟨some ⟨r, 0, none⟩, 1, rfl, Nat.le_refl _, fun _ => ⟨r, 0, _, e, rfl, Hp.put_same _ _ _, by simp [hl], fun t ht => ?_⟩⟩ ?_ (Le.put _ hr)
  · simp only [List.flatMap_cons, List.flatMap_nil, List.append_nil, hx] at ht ⊢
    simp [ht]
  · intro b hb
    simp only [bk] at hb
    split at hb
    · simp at hb
    · simp only [Option.some.injEq] at hb; subst hb; exact hr
theorem bSE_nil {z : Array Value} {e : TypeId} {K : Value → Hp → Prop} (hk : ∀ v H', OwnE n enc H' v ([] : List α) → Nw H v → bk v = none → Le H H' → K v H') : bS n 0 z e [] H K := by
  refine ⟨by simp, ?_⟩
  rw [if_pos (by simp)]
  show match some (#[] : Array Value) with
    | some cells => ∀ r, H r = none → K (.slice (some ⟨r, 0, none⟩) 0 0) (H.put r (.cells cells e))
    | none => False
  intro r hr
  refine hk _ _ (OwnE.nil_of _) ?_ rfl (Le.put _ hr)
  intro b hb
  simp [bk] at hb
/-- An append. -/
theorem OwnE.apd {bytes : Nat} {z : Array Value} {e : TypeId} {w : Value} {K : Value → Hp → Prop} (h : OwnE n enc H v l) (hn : ∀ x, (enc x).length = n) (hz : z.size = n) (hm : SlE n enc H w m) (ho : ∀ x ∈ m, ∀ y ∈ enc x, oneCell y = true)
    (hb : bytes ≤ 64) (hlm : l.length + m.length ≤ 68719476736)
    (hk : ∀ v' H', OwnE n enc H' v' (l ++ m) → Off v H H' → (∀ b, bk v' = some b → bk v = some b ∨ H b = none) → K v' H') : apd n bytes z e v w H K := by
  have hmf := hm.firstC hn
  have hml := hm.lenO
  have hlf := (h.sl hn).firstC hn
  have fl := flat_len hn l
  have fm := flat_len hn m
  have hap : (l ++ m).flatMap enc = l.flatMap enc ++ m.flatMap enc := List.flatMap_append
  obtain ⟨a, c, rfl, hlc, hr⟩ := h
  simp only [HL.apd, hml]
  by_cases hcap : l.length + m.length ≤ c
  · rw [if_pos hcap]
    simp only [hmf]
    by_cases hc0 : c = 0
    · have hl : l = [] := List.length_eq_zero_iff.mp (by omega)
      have hm' : m = [] := List.length_eq_zero_iff.mp (by omega)
      subst hl hm' hc0
      have : K (.slice a (([] : List α).length + ([] : List α).length) 0) H := hk _ H ⟨a, 0, rfl, by simp, fun h0 => absurd h0 (by simp)⟩ (fun b o hb _ => hb) (fun b hb => by cases a <;> simp [bk] at hb)
      cases a with
      | none => exact this
      | some ad => exact this
    · obtain ⟨b, off, cs, e', rfl, hbb, hs, hcs⟩ := hr (by omega)
      have hmul : (l.length + m.length) * n ≤ c * n := Nat.mul_le_mul_right n hcap
      rw [Nat.add_mul] at hmul
      simp only [add_none]
      refine stC_run (b := b) (e := e') (m.flatMap enc) _ 0 cs H rfl rfl hbb (by simp only [Nat.add_zero]; omega) (fun x hx => by
        obtain ⟨y, hy, hxy⟩ := List.mem_flatMap.mp hx; exact ho y hy x hxy) ?_
      intro H' cs' h1 h2 h3 h4 h5
      simp only [Nat.add_zero] at h3 h4
      refine hk _ H' ⟨some ⟨b, off, none⟩, c, by simp, by simpa using hcap, fun _ => ⟨b, off, cs', e', rfl, h1, by omega, ?_⟩⟩ ?_ ?_
      · simp only [hap]
        intro t ht
        rw [List.length_append] at ht
        by_cases htl : t < (l.flatMap enc).length
        · rw [h3 _ (by omega), hcs t htl, List.getElem_append_left htl]
        · have := h4 (t - (l.flatMap enc).length) (by omega)
          rw [show off + l.length * n + (t - (l.flatMap enc).length) = off + t by omega] at this
          rw [this, List.getElem_append_right (by omega)]
      · intro x o hx hne
        simp only [bk, if_neg hc0] at hne
        rw [h5 x (by rintro rfl; exact hne rfl)]; exact hx
      · intro x hx
        left; exact hx
  · rw [if_neg hcap]
    refine ⟨by omega, ?_, ?_⟩
    · have := nsc_le (n := l.length + m.length) (c := c) (by omega)
      exact Nat.le_trans (Nat.mul_le_mul this hb) (by omega)
    simp only [hlf, hmf]
    intro c' hc1 hc2 r hr'
    have hmul : (l.length + m.length) * n ≤ c' * n := Nat.mul_le_mul_right n hc1
    have hsub : (c' - (l.length + m.length)) * n = c' * n - (l.length + m.length) * n := Nat.sub_mul _ _ _
    rw [Nat.add_mul] at hmul hsub
    refine hk _ _ ⟨some ⟨r, 0, none⟩, c', by simp, by simpa using hc1, fun _ => ⟨r, 0, _, e, rfl, Hp.put_same _ _ _, ?_, ?_⟩⟩ ?_ ?_
    · have : (Builtin.zeroCells z (c' - (l.length + m.length))).size = (c' - (l.length + m.length)) * n := by simp [Builtin.zeroCells, hz]
      simp only [Nat.zero_add, Array.size_append, List.size_toArray, this, fl, fm]; omega
    · simp only [hap]
      intro t ht
      rw [Nat.zero_add, Array.getElem?_append_left (by simpa using ht)]
      rw [← Array.getElem?_toList]
      simp only [Array.toList_append]
      rw [List.getElem?_eq_getElem ht]
    · intro x o hx _
      rw [Hp.put_ne _ _ (by rintro rfl; rw [hr'] at hx; exact absurd hx (by simp))]; exact hx
    · intro x hx
      right
      simp only [bk] at hx
      split at hx
      · simp at hx
      · simp only [Option.some.injEq] at hx; subst hx; exact hr'
end
end Go.Proofs.YtnijdhlmimemcaaGreatDoor.HL
/- Functions' texts over a partial heap. -/
namespace Go.Proofs.YtnijdhlmimemcaaGreatDoor
open HL
def O0 : Nat → Nat × List Nat := fun _ => (0, [])
variable {a0 a1 a2 a3 a4 a5 : Value} {H : Hp} {K : Value → Hp → Prop}
set_option linter.unusedVariables false
set_option maxRecDepth 100000
set_option maxHeartbeats 4000000
def F.q5 (a0 a1 : Value) (H : Hp) (K : Value → Hp → Prop) : Prop :=
 ob (vLenSl a0) fun b =>
 ob (vInt .gtr b (.int .i64 1048576)) fun c =>
 gop c false (fun K3 => K3 a1 H) H fun d H5 =>
 gop c false (fun K6 => ob (vLenSl d) fun u => K6 u H5) H5 fun e H8 =>
 gop c false (fun K9 => ob (vInt .gtr e (.int .i64 1048576)) fun u => K9 u H8) H8 fun f H11 =>
 ob (vPick c (.bool true) f) fun g =>
 K g H11
theorem R.q5 (h : F.q5 a0 a1 H K) : HT prg 5 [a0, a1].toArray H K :=
 HT_of_eq O0 mixed Tryz.func5 (by kernel_rfl) (by kernel_rfl) h
def F.q23 (a0 : Value) (H : Hp) (K : Value → Hp → Prop) : Prop :=
 ob (vBuild [(0, 1), (1, 1), (2, 1)] (.agg #[(.slice none 0 0), (.int .i64 0), (.int .u64 0)]) [(0, a0)]) fun b =>
 nw (b : Value).cells 95 H fun c H3 =>
 K c H3
theorem R.q23 (h : F.q23 a0 H K) : HT prg 23 [a0].toArray H K :=
 HT_of_eq O0 mixed Tryz.func23 (by kernel_rfl) (by kernel_rfl) h
def F.q95 (a0 : Value) (H : Hp) (K : Value → Hp → Prop) : Prop :=
 jn (fun σ1 H1 =>
 ob (vNilC (σ1 0)) fun b =>
 ob (vFa 1 b) fun c =>
 ob (vLoad c H1) fun d =>
 ob (vInt .add d (.int .i64 1)) fun e =>
 ob (vNilC (σ1 0)) fun f =>
 ob (vFa 1 f) fun g =>
 st 1 g e H1 fun H8 =>
 ob (vNilC (σ1 0)) fun i =>
 ob (vFa 2 i) fun j =>
 ob (vLoad j H8) fun k =>
 ob (vInt .mul k (.int .u64 6364136223846793005)) fun l =>
 ob (vCI .u64 (σ1 3)) fun m =>
 ob (vInt .add l m) fun n =>
 ob (vInt .add n (.int .u64 1442695040888963407)) fun p =>
 ob (vNilC (σ1 0)) fun q =>
 ob (vFa 2 q) fun r =>
 st 1 r p H8 fun H18 =>
 ob (vNilC (σ1 0)) fun s =>
 ob (vFa 1 s) fun t =>
 ob (vLoad t H18) fun w =>
 ob (vNilC (σ1 0)) fun x =>
 ob (vFa 0 x) fun y =>
 ob (vLoad y H18) fun z =>
 ob (vLenSl z) fun b0 =>
 ob (vInt .leq w b0) fun c0 =>
 cnd c0
 (K (σ1 3) H18)
 (ob (vNilC (σ1 0)) fun d0 =>
 ob (vFa 2 d0) fun e0 =>
 ob (vLoad e0 H18) fun f0 =>
 ob (vInt .shr f0 (.int .u64 40)) fun g0 =>
 ob (vInt .and g0 (.int .u64 255)) fun i0 =>
 ob (vCI .i64 i0) fun j0 =>
 K j0 H18)) fun J1 =>
 ob (vNilC a0) fun k0 =>
 ob (vFa 1 k0) fun l0 =>
 ob (vLoad l0 H) fun m0 =>
 ob (vNilC a0) fun n0 =>
 ob (vFa 0 n0) fun p0 =>
 ob (vLoad p0 H) fun q0 =>
 ob (vLenSl q0) fun r0 =>
 ob (vInt .lss m0 r0) fun s0 =>
 cnd s0
 (ob (vNilC a0) fun t0 =>
 ob (vFa 0 t0) fun w0 =>
 ob (vLoad w0 H) fun x0 =>
 ob (vNilC a0) fun y0 =>
 ob (vFa 1 y0) fun z0 =>
 ob (vLoad z0 H) fun b1 =>
 ob (vIx 1 x0 b1) fun c1 =>
 ob (vLoad c1 H) fun d1 =>
 ob (vCI .i64 d1) fun e1 =>
 J1 (up (up (up (up (up (up (up (up (up (up (up (up (up (up (up (up (up (up (up (up (up (up (up (up (S0 [a0]) 2 (.int .i64 0)) 3 (.int .i64 0)) 4 a0) 5 k0) 6 l0) 7 m0) 8 a0) 9 n0) 10 p0) 11 q0) 12 r0) 13 s0) 14 a0) 15 t0) 16 w0) 17 x0) 18 a0) 19 y0) 20 z0) 21 b1) 22 c1) 23 d1) 24 e1) 3 e1) H)
 (J1 (up (up (up (up (up (up (up (up (up (up (up (up (S0 [a0]) 2 (.int .i64 0)) 3 (.int .i64 0)) 4 a0) 5 k0) 6 l0) 7 m0) 8 a0) 9 n0) 10 p0) 11 q0) 12 r0) 13 s0) H)
def O.q95 : Nat → Nat × List Nat := fun i => bif Nat.beq i 6 then (0, [0, 1, 2, 3, 4, 5, 6, 7, 8, 9]) else bif Nat.beq i 2 then (0, [0, 1, 2, 3, 4, 5, 6, 7, 8, 9]) else bif Nat.beq i 3 then (0, [0, 1, 2, 3, 4, 5, 6, 7, 8, 9, 10, 11]) else (0, [])
theorem R.q95 (h : F.q95 a0 H K) : HT prg 95 [a0].toArray H K :=
 HT_of_eq O.q95 mixed Tryz.func95 (by kernel_rfl) (by kernel_rfl) h
def F.q65 (a0 a1 : Value) (H : Hp) (K : Value → Hp → Prop) : Prop :=
 ob (vInt .leq a1 (.int .i64 1)) fun b =>
 cnd b
 (K (.int .i64 0) H)
 (HT prg 95 [a0].toArray H fun c H3 =>
 ob (vInt .gtr a1 (.int .i64 200)) fun d =>
 cnd d
 (ob (vInt .mul c (.int .i64 256)) fun e =>
 HT prg 95 [a0].toArray H3 fun f H7 =>
 ob (vInt .add e f) fun g =>
 ob (vInt .rem g a1) fun i =>
 K i H7)
 (ob (vInt .rem c a1) fun j =>
 K j H3))
theorem R.q65 (h : F.q65 a0 a1 H K) : HT prg 65 [a0, a1].toArray H K :=
 HT_of_eq O0 mixed Tryz.func65 (by kernel_rfl) (by kernel_rfl) h
def F.q24 (a0 a1 : Value) (H : Hp) (K : Value → Hp → Prop) : Prop :=
 HT prg 65 [a0, a1].toArray H fun b H2 =>
 ob (vInt .eql b (.int .i64 0)) fun c =>
 K c H2
theorem R.q24 (h : F.q24 a0 a1 H K) : HT prg 24 [a0, a1].toArray H K :=
 HT_of_eq O0 mixed Tryz.func24 (by kernel_rfl) (by kernel_rfl) h
def F.q25 (a0 : Value) (H : Hp) (K : Value → Hp → Prop) : Prop :=
 nw #[(.slice none 0 0), (.slice none 0 0)] 26 H fun b H2 =>
 bS 1 1 #[(.int .i64 0)] 2 [(0, (.int .i64 3))] H2 fun c H4 =>
 bS 1 2 #[(.int .i64 0)] 2 [(0, (.int .i64 2)), (1, (.int .i64 3))] H4 fun d H6 =>
 ob (vBuild [(0, 1), (1, 1)] (.agg #[(.slice none 0 0), (.slice none 0 0)]) [(0, c), (1, d)]) fun e =>
 nw #[(.slice none 0 0), (.slice none 0 0)] 26 H6 fun f H9 =>
 st 2 f e H9 fun H10 =>
 jn (fun σ11 H11 =>
 ob (vLoadN 2 (σ11 3) H11) fun g =>
 st 2 (σ11 2) g H11 fun H13 =>
 ob (vLoadN 2 (σ11 2) H13) fun u14 => K u14 H13) fun J11 =>
 HT prg 24 [a0, (.int .i64 2)].toArray H10 fun i H16 =>
 cnd i
 (bS 1 0 #[(.int .i64 0)] 2 [] H16 fun j H18 =>
 bS 1 0 #[(.int .i64 0)] 2 [] H18 fun k H20 =>
 ob (vBuild [(0, 1), (1, 1)] (.agg #[(.slice none 0 0), (.slice none 0 0)]) [(0, j), (1, k)]) fun l =>
 st 2 f l H20 fun H22 =>
 lpE (fun Q23 σ23 H23 =>
 ob (vInt .lss (σ23 4) (.int .i64 9)) fun m =>
 cnd m
 (HT prg 24 [(σ23 0), (.int .i64 3)].toArray H23 fun n H26 =>
 cnd n
 (ob (vFa 0 (σ23 3)) fun p =>
 ob (vLoad p H26) fun q =>
 bS 1 1 #[(.int .i64 0)] 2 [(0, (σ23 4))] H26 fun r H30 =>
 apd 1 8 #[(.int .i64 0)] 2 q r H30 fun s H32 =>
 ob (vFa 0 (σ23 3)) fun t =>
 st 1 t s H32 fun H34 =>
 HT prg 24 [(σ23 0), (.int .i64 3)].toArray H34 fun w H36 =>
 cnd w
 (ob (vFa 1 (σ23 3)) fun x =>
 ob (vLoad x H36) fun y =>
 bS 1 1 #[(.int .i64 0)] 2 [(0, (σ23 4))] H36 fun z H40 =>
 apd 1 8 #[(.int .i64 0)] 2 y z H40 fun b0 H42 =>
 ob (vFa 1 (σ23 3)) fun c0 =>
 st 1 c0 b0 H42 fun H44 =>
 ob (vInt .add (σ23 4) (.int .i64 1)) fun d0 =>
 Q23 .normal (up (up (up (up (up (up (up (up (up (up (up (up (up (up (up (up (up (up (up (up (up σ23 13 (σ23 4)) 14 m) 17 (σ23 0)) 18 n) 19 p) 20 q) 21 (σ23 4)) 22 r) 23 s) 24 t) 25 (σ23 0)) 26 w) 27 x) 28 y) 29 (σ23 4)) 30 z) 31 b0) 32 c0) 15 (σ23 4)) 16 d0) 4 d0) H44)
 (ob (vInt .add (σ23 4) (.int .i64 1)) fun e0 =>
 Q23 .normal (up (up (up (up (up (up (up (up (up (up (up (up (up (up (up σ23 13 (σ23 4)) 14 m) 17 (σ23 0)) 18 n) 19 p) 20 q) 21 (σ23 4)) 22 r) 23 s) 24 t) 25 (σ23 0)) 26 w) 15 (σ23 4)) 16 e0) 4 e0) H36))
 (HT prg 24 [(σ23 0), (.int .i64 3)].toArray H26 fun f0 H48 =>
 cnd f0
 (ob (vFa 1 (σ23 3)) fun g0 =>
 ob (vLoad g0 H48) fun i0 =>
 bS 1 1 #[(.int .i64 0)] 2 [(0, (σ23 4))] H48 fun j0 H52 =>
 apd 1 8 #[(.int .i64 0)] 2 i0 j0 H52 fun k0 H54 =>
 ob (vFa 1 (σ23 3)) fun l0 =>
 st 1 l0 k0 H54 fun H56 =>
 ob (vInt .add (σ23 4) (.int .i64 1)) fun m0 =>
 Q23 .normal (up (up (up (up (up (up (up (up (up (up (up (up (up (up (up σ23 13 (σ23 4)) 14 m) 17 (σ23 0)) 18 n) 25 (σ23 0)) 26 f0) 27 g0) 28 i0) 29 (σ23 4)) 30 j0) 31 k0) 32 l0) 15 (σ23 4)) 16 m0) 4 m0) H56)
 (ob (vInt .add (σ23 4) (.int .i64 1)) fun n0 =>
 Q23 .normal (up (up (up (up (up (up (up (up (up σ23 13 (σ23 4)) 14 m) 17 (σ23 0)) 18 n) 25 (σ23 0)) 26 f0) 15 (σ23 4)) 16 n0) 4 n0) H48)))
 (Q23 (.exit 0) (up (up σ23 13 (σ23 4)) 14 m) H23)) (blkQ 0 (thenQ J11 (retQ prg [(.cell 2 26)] K))) (up (up (up (up (up (up (up (up (up (up (up (S0 [a0]) 2 b) 5 c) 6 d) 7 e) 3 f) 8 a0) 9 i) 10 j) 11 k) 12 l) 4 (.int .i64 1)) H22)
 (J11 (up (up (up (up (up (up (up (S0 [a0]) 2 b) 5 c) 6 d) 7 e) 3 f) 8 a0) 9 i) H16)
theorem R.q25 (h : F.q25 a0 H K) : HT prg 25 [a0].toArray H K :=
 HT_of_eq O0 mixed Tryz.func25 (by kernel_rfl) (by kernel_rfl) h
def F.q6 (a0 : Value) (H : Hp) (K : Value → Hp → Prop) : Prop :=
 nw #[(.slice none 0 0), (.slice none 0 0)] 26 H fun b H2 =>
 HT prg 23 [a0].toArray H2 fun c H4 =>
 HT prg 24 [c, (.int .i64 2)].toArray H4 fun d H6 =>
 cnd d
 (bS 1 1 #[(.int .i64 0)] 2 [(0, (.int .i64 3))] H6 fun e H8 =>
 bS 1 2 #[(.int .i64 0)] 2 [(0, (.int .i64 2)), (1, (.int .i64 3))] H8 fun f H10 =>
 ob (vBuild [(0, 1), (1, 1)] (.agg #[(.slice none 0 0), (.slice none 0 0)]) [(0, e), (1, f)]) fun g =>
 st 2 b g H10 fun H12 =>
 ob (vLoadN 2 b H12) fun u13 => K u13 H12)
 (HT prg 25 [c].toArray H6 fun i H15 =>
 st 2 b i H15 fun H16 =>
 ob (vLoadN 2 b H16) fun u17 => K u17 H16)
theorem R.q6 (h : F.q6 a0 H K) : HT prg 6 [a0].toArray H K :=
 HT_of_eq O0 mixed Tryz.func6 (by kernel_rfl) (by kernel_rfl) h
def F.q7 (a0 a1 a2 : Value) (H : Hp) (K : Value → Hp → Prop) : Prop :=
 ob (vInt .leq a2 (.int .i64 1)) fun b =>
 cnd b
 (K (.int .i64 0) H)
 (ob (vLenSl a0) fun c =>
 ob (vInt .lss a1 c) fun d =>
 cnd d
 (ob (vIx 1 a0 a1) fun e =>
 ob (vLoad e H) fun f =>
 ob (vCI .i64 f) fun g =>
 ob (vInt .rem g a2) fun i =>
 K i H)
 (ob (vInt .mul a1 (.int .i64 37)) fun j =>
 ob (vInt .add j (.int .i64 11)) fun k =>
 ob (vInt .rem k a2) fun l =>
 K l H))
theorem R.q7 (h : F.q7 a0 a1 a2 H K) : HT prg 7 [a0, a1, a2].toArray H K :=
 HT_of_eq O0 mixed Tryz.func7 (by kernel_rfl) (by kernel_rfl) h
def F.q33 (a0 a1 a2 : Value) (H : Hp) (K : Value → Hp → Prop) : Prop :=
 ob (vInt .geq a0 a1) fun b =>
 gop b true (fun K2 => K2 a0 H) H fun c H4 =>
 gop b true (fun K5 => K5 a2 H4) H4 fun d H7 =>
 gop b true (fun K8 => ob (vInt .leq c d) fun u => K8 u H7) H7 fun e H10 =>
 ob (vPick b e (.bool false)) fun f =>
 K f H10
theorem R.q33 (h : F.q33 a0 a1 a2 H K) : HT prg 33 [a0, a1, a2].toArray H K :=
 HT_of_eq O0 mixed Tryz.func33 (by kernel_rfl) (by kernel_rfl) h
def F.q113 (a0 a1 a2 : Value) (H : Hp) (K : Value → Hp → Prop) : Prop :=
 jn (fun σ1 H1 =>
 K (.bool true) H1) fun J1 =>
 ob (vLenSl a0) fun b =>
 lpE (fun Q3 σ3 H3 =>
 ob (vInt .lss (σ3 11) (σ3 10)) fun c =>
 cnd c
 (ob (vIx 1 (σ3 9) (σ3 11)) fun d =>
 ob (vLoad d H3) fun e =>
 HT prg 33 [e, (σ3 1), (σ3 2)].toArray H3 fun f H8 =>
 ob (vUn .not f) fun g =>
 cnd g
 (Q3 .ret (up (up (up (up (up (up (up (up (up (up σ3 12 c) 13 d) 14 e) 8 e) 15 e) 16 (σ3 1)) 17 (σ3 2)) 18 f) 19 g) 6 (.bool false)) H8)
 (ob (vInt .add (σ3 11) (.int .i64 1)) fun i =>
 Q3 .normal (up (up (up (up (up (up (up (up (up (up (up σ3 12 c) 13 d) 14 e) 8 e) 15 e) 16 (σ3 1)) 17 (σ3 2)) 18 f) 19 g) 20 i) 11 i) H8))
 (Q3 (.exit 0) (up σ3 12 c) H3)) (blkQ 0 (thenQ J1 (retQ prg [(.tmp 6)] K))) (up (up (up (up (S0 [a0, a1, a2]) 6 (.bool false)) 9 a0) 10 b) 11 (.int .i64 0)) H
theorem R.q113 (h : F.q113 a0 a1 a2 H K) : HT prg 113 [a0, a1, a2].toArray H K :=
 HT_of_eq O0 mixed Tryz.func113 (by kernel_rfl) (by kernel_rfl) h
def F.q73 (a0 : Value) (H : Hp) (K : Value → Hp → Prop) : Prop :=
 jn (fun σ1 H1 =>
 HT prg 113 [(σ1 0), (.int .i64 0), (.int .i64 8)].toArray H1 fun b H3 =>
 K b H3) fun J1 =>
 lpE (fun Q4 σ4 H4 =>
 ob (vLenSl (σ4 0)) fun c =>
 ob (vInt .lss (σ4 3) c) fun d =>
 cnd d
 (ob (vIx 1 (σ4 0) (σ4 3)) fun e =>
 ob (vLoad e H4) fun f =>
 ob (vInt .sub (σ4 3) (.int .i64 1)) fun g =>
 ob (vIx 1 (σ4 0) g) fun i =>
 ob (vLoad i H4) fun j =>
 ob (vInt .leq f j) fun k =>
 cnd k
 (Q4 .ret (up (up (up (up (up (up (up (up (up (up (up (up (up (up (up σ4 4 (σ4 3)) 5 (σ4 0)) 6 c) 7 d) 10 (σ4 0)) 11 (σ4 3)) 12 e) 13 f) 14 (σ4 0)) 15 (σ4 3)) 16 g) 17 i) 18 j) 19 k) 2 (.bool false)) H4)
 (ob (vInt .add (σ4 3) (.int .i64 1)) fun l =>
 Q4 .normal (up (up (up (up (up (up (up (up (up (up (up (up (up (up (up (up (up σ4 4 (σ4 3)) 5 (σ4 0)) 6 c) 7 d) 10 (σ4 0)) 11 (σ4 3)) 12 e) 13 f) 14 (σ4 0)) 15 (σ4 3)) 16 g) 17 i) 18 j) 19 k) 8 (σ4 3)) 9 l) 3 l) H4))
 (Q4 (.exit 0) (up (up (up (up σ4 4 (σ4 3)) 5 (σ4 0)) 6 c) 7 d) H4)) (blkQ 0 (thenQ J1 (retQ prg [(.tmp 2)] K))) (up (up (S0 [a0]) 2 (.bool false)) 3 (.int .i64 1)) H
def O.q73 : Nat → Nat × List Nat := fun i => bif Nat.beq i 4 then (0, [0, 1, 2, 3, 4, 5, 6, 7, 8, 9]) else (0, [])
theorem R.q73 (h : F.q73 a0 H K) : HT prg 73 [a0].toArray H K :=
 HT_of_eq O.q73 mixed Tryz.func73 (by kernel_rfl) (by kernel_rfl) h
def F.q30 (a0 : Value) (H : Hp) (K : Value → Hp → Prop) : Prop :=
 nw (a0 : Value).cells 26 H fun b H2 =>
 ob (vFa 0 b) fun c =>
 ob (vLoad c H2) fun d =>
 HT prg 73 [d].toArray H2 fun e H6 =>
 gop e true (fun K7 => ob (vFa 1 b) fun u => K7 u H6) H6 fun f H9 =>
 gop e true (fun K10 => ob (vLoad f H9) fun u => K10 u H9) H9 fun g H12 =>
 gop e true (fun K13 => HT prg 73 [g].toArray H12 K13) H12 fun i H15 =>
 ob (vPick e i (.bool false)) fun j =>
 K j H15
theorem R.q30 (h : F.q30 a0 H K) : HT prg 30 [a0].toArray H K :=
 HT_of_eq O0 mixed Tryz.func30 (by kernel_rfl) (by kernel_rfl) h
def F.q53 (a0 a1 a2 : Value) (H : Hp) (K : Value → Hp → Prop) : Prop :=
 nw #[(.int .i64 0), (.int .i64 0), (.slice none 0 0)] 36 H fun b H2 =>
 ob (vBuild [(0, 1), (1, 1), (2, 1)] (.agg #[(.int .i64 0), (.int .i64 0), (.slice none 0 0)]) [(0, a0), (1, a1)]) fun c =>
 nw #[(.int .i64 0), (.int .i64 0), (.slice none 0 0)] 36 H2 fun d H5 =>
 st 3 d c H5 fun H6 =>
 jn (fun σ7 H7 =>
 ob (vLoadN 3 (σ7 7) H7) fun e =>
 st 3 (σ7 6) e H7 fun H9 =>
 ob (vLoadN 3 (σ7 6) H9) fun u10 => K u10 H9) fun J7 =>
 lpE (fun Q11 σ11 H11 =>
 ob (vInt .lss (σ11 14) (σ11 13)) fun f =>
 cnd f
 (jn (fun σ13 H13 =>
 ob (vInt .add (σ13 14) (.int .i64 1)) fun g =>
 Q11 .normal (up (up σ13 31 g) 14 g) H13) fun J13 =>
 lpE (fun Q15 σ15 H15 =>
 ob (vInt .lss (σ15 18) (σ15 17)) fun i =>
 cnd i
 (ob (vFa 2 (σ15 7)) fun j =>
 ob (vLoad j H15) fun k =>
 callV prg (σ15 2) [(σ15 8), (σ15 18)] H15 fun l H20 =>
 Le H15 H20 ∧ (bS 1 1 #[(.int .i64 0)] 2 [(0, l)] H20 fun m H22 =>
 apd 1 8 #[(.int .i64 0)] 2 k m H22 fun n H24 =>
 ob (vFa 2 (σ15 7)) fun p =>
 st 1 p n H24 fun H26 =>
 ob (vInt .add (σ15 18) (.int .i64 1)) fun q =>
 Q15 .normal (up (up (up (up (up (up (up (up (up (up (up (up (up (up σ15 19 i) 20 (σ15 18)) 9 (σ15 18)) 21 j) 22 k) 23 (σ15 2)) 24 (σ15 8)) 25 (σ15 18)) 26 l) 27 m) 28 n) 29 p) 30 q) 18 q) H26))
 (Q15 (.exit 2) (up σ15 19 i) H15)) (blkQ 2 (blkQ 1 (thenQ J13 Q11))) (up (up (up (up (up σ11 15 f) 16 (σ11 14)) 8 (σ11 14)) 17 (σ11 1)) 18 (.int .i64 0)) H11)
 (Q11 (.exit 0) (up σ11 15 f) H11)) (blkQ 0 (thenQ J7 (retQ prg [(.cell 6 36)] K))) (up (up (up (up (up (up (up (S0 [a0, a1, a2]) 6 b) 10 a0) 11 a1) 12 c) 7 d) 13 a0) 14 (.int .i64 0)) H6
def O.q53 : Nat → Nat × List Nat := fun i => bif Nat.beq i 8 then (0, [0, 1, 2, 3, 4, 5, 6, 7, 8, 9]) else (0, [])
theorem R.q53 (h : F.q53 a0 a1 a2 H K) : HT prg 53 [a0, a1, a2].toArray H K :=
 HT_of_eq O.q53 mixed Tryz.func53 (by kernel_rfl) (by kernel_rfl) h
def F.q99 (a0 : Value) (H : Hp) (K : Value → Hp → Prop) : Prop :=
 cnd a0
 (K (.int .i64 1) H)
 (K (.int .i64 0) H)
theorem R.q99 (h : F.q99 a0 H K) : HT prg 99 [a0].toArray H K :=
 HT_of_eq O0 mixed Tryz.func99 (by kernel_rfl) (by kernel_rfl) h
def F.q144 (a0 a1 : Value) (H : Hp) (K : Value → Hp → Prop) : Prop :=
 jn (fun σ1 H1 =>
 K (.int .i64 (-1)) H1) fun J1 =>
 ob (vLenSl a0) fun b =>
 lpE (fun Q3 σ3 H3 =>
 ob (vInt .lss (σ3 8) (σ3 7)) fun c =>
 cnd c
 (ob (vIx 1 (σ3 0) (σ3 8)) fun d =>
 ob (vLoad d H3) fun e =>
 ob (vInt .eql (σ3 1) e) fun f =>
 cnd f
 (Q3 .ret (up (up (up (up (up (up (up (up (up (up (up σ3 9 c) 10 (σ3 8)) 5 (σ3 8)) 11 (σ3 1)) 12 (σ3 0)) 13 (σ3 8)) 14 d) 15 e) 16 f) 17 (σ3 8)) 4 (σ3 8)) H3)
 (ob (vInt .add (σ3 8) (.int .i64 1)) fun g =>
 Q3 .normal (up (up (up (up (up (up (up (up (up (up (up σ3 9 c) 10 (σ3 8)) 5 (σ3 8)) 11 (σ3 1)) 12 (σ3 0)) 13 (σ3 8)) 14 d) 15 e) 16 f) 18 g) 8 g) H3))
 (Q3 (.exit 0) (up σ3 9 c) H3)) (blkQ 0 (thenQ J1 (retQ prg [(.tmp 4)] K))) (up (up (up (up (S0 [a0, a1]) 4 (.int .i64 0)) 6 a0) 7 b) 8 (.int .i64 0)) H
theorem R.q144 (h : F.q144 a0 a1 H K) : HT prg 144 [a0, a1].toArray H K :=
 HT_of_eq O0 mixed Tryz.func144 (by kernel_rfl) (by kernel_rfl) h
def F.q116 (a0 a1 : Value) (H : Hp) (K : Value → Hp → Prop) : Prop :=
 HT prg 144 [a0, a1].toArray H fun b H2 =>
 ob (vInt .geq b (.int .i64 0)) fun c =>
 K c H2
theorem R.q116 (h : F.q116 a0 a1 H K) : HT prg 116 [a0, a1].toArray H K :=
 HT_of_eq O0 mixed Tryz.func116 (by kernel_rfl) (by kernel_rfl) h
def F.q79 (a0 a1 a2 : Value) (H : Hp) (K : Value → Hp → Prop) : Prop :=
 nw (a0 : Value).cells 26 H fun b H2 =>
 ob (vInt .eql a1 (.int .i64 0)) fun c =>
 cnd c
 (ob (vFa 0 b) fun d =>
 ob (vLoad d H2) fun e =>
 HT prg 116 [e, a2].toArray H2 fun f H7 =>
 HT prg 99 [f].toArray H7 fun g H9 =>
 K g H9)
 (ob (vFa 1 b) fun i =>
 ob (vLoad i H2) fun j =>
 HT prg 116 [j, a2].toArray H2 fun k H13 =>
 HT prg 99 [k].toArray H13 fun l H15 =>
 K l H15)
theorem R.q79 (h : F.q79 a0 a1 a2 H K) : HT prg 79 [a0, a1, a2].toArray H K :=
 HT_of_eq O0 mixed Tryz.func79 (by kernel_rfl) (by kernel_rfl) h
def F.q80 (a0 a1 a2 : Value) (H : Hp) (K : Value → Hp → Prop) : Prop :=
 nw (a0 : Value).cells 36 H fun b H2 =>
 ob (vFa 2 b) fun c =>
 ob (vLoad c H2) fun d =>
 ob (vFa 1 b) fun e =>
 ob (vLoad e H2) fun f =>
 ob (vInt .mul a1 f) fun g =>
 ob (vInt .add g a2) fun i =>
 ob (vIx 1 d i) fun j =>
 ob (vLoad j H2) fun k =>
 K k H2
theorem R.q80 (h : F.q80 a0 a1 a2 H K) : HT prg 80 [a0, a1, a2].toArray H K :=
 HT_of_eq O0 mixed Tryz.func80 (by kernel_rfl) (by kernel_rfl) h
def F.q85 (a0 a1 : Value) (H : Hp) (K : Value → Hp → Prop) : Prop :=
 ob (vInt .rem a0 a1) fun b =>
 ob (vInt .add b a1) fun c =>
 ob (vInt .rem c a1) fun d =>
 K d H
theorem R.q85 (h : F.q85 a0 a1 H K) : HT prg 85 [a0, a1].toArray H K :=
 HT_of_eq O0 mixed Tryz.func85 (by kernel_rfl) (by kernel_rfl) h
def F.q86 (a0 a1 a2 : Value) (H : Hp) (K : Value → Hp → Prop) : Prop :=
 nw (a0 : Value).cells 36 H fun b H2 =>
 ob (vFa 0 b) fun c =>
 ob (vLoad c H2) fun d =>
 ob (vInt .sub d (.int .i64 1)) fun e =>
 HT prg 33 [a1, (.int .i64 0), e].toArray H2 fun f H7 =>
 gop f true (fun K8 => K8 a2 H7) H7 fun g H10 =>
 gop f true (fun K11 => ob (vFa 1 b) fun u => K11 u H10) H10 fun i H13 =>
 gop f true (fun K14 => ob (vLoad i H13) fun u => K14 u H13) H13 fun j H16 =>
 gop f true (fun K17 => ob (vInt .sub j (.int .i64 1)) fun u => K17 u H16) H16 fun k H19 =>
 gop f true (fun K20 => HT prg 33 [g, (.int .i64 0), k].toArray H19 K20) H19 fun l H22 =>
 ob (vPick f l (.bool false)) fun m =>
 K m H22
theorem R.q86 (h : F.q86 a0 a1 a2 H K) : HT prg 86 [a0, a1, a2].toArray H K :=
 HT_of_eq O0 mixed Tryz.func86 (by kernel_rfl) (by kernel_rfl) h
def F.q55 (a0 a1 a2 a3 : Value) (H : Hp) (K : Value → Hp → Prop) : Prop :=
 nw (a0 : Value).cells 36 H fun b H2 =>
 cnd a3
 (ob (vLoadN 3 b H2) fun c =>
 ob (vFa 0 b) fun d =>
 ob (vLoad d H2) fun e =>
 ob (vFa 1 b) fun f =>
 ob (vLoad f H2) fun g =>
 HT prg 85 [a1, e].toArray H2 fun i H9 =>
 Le H2 H9 ∧ (HT prg 85 [a2, g].toArray H9 fun j H11 =>
 Le H9 H11 ∧ (HT prg 80 [c, i, j].toArray H11 fun k H13 =>
 Le H11 H13 ∧ (K k H13))))
 (ob (vLoadN 3 b H2) fun l =>
 HT prg 86 [l, a1, a2].toArray H2 fun m H16 =>
 ob (vUn .not m) fun n =>
 cnd n
 (K (.int .i64 0) H16)
 (ob (vLoadN 3 b H16) fun p =>
 HT prg 80 [p, a1, a2].toArray H16 fun q H20 =>
 K q H20))
def O.q55 : Nat → Nat × List Nat := fun i => bif Nat.beq i 2 then (0, [0, 1, 2, 3, 5, 6, 7, 4, 8, 9, 10]) else (0, [])
theorem R.q55 (h : F.q55 a0 a1 a2 a3 H K) : HT prg 55 [a0, a1, a2, a3].toArray H K :=
 HT_of_eq O.q55 mixed Tryz.func55 (by kernel_rfl) (by kernel_rfl) h
def F.q81 (a0 a1 a2 a3 : Value) (H : Hp) (K : Value → Hp → Prop) : Prop :=
 nw (a0 : Value).cells 36 H fun b H2 =>
 ob (vLoadN 3 b H2) fun c =>
 HT prg 80 [c, a1, a2].toArray H2 fun d H5 =>
 ob (vUn .neg d) fun e =>
 jn (fun σ7 H7 =>
 K (σ7 9) H7) fun J7 =>
 ob (vInt .sub a1 (.int .i64 1)) fun f =>
 lpE (fun Q9 σ9 H9 =>
 ob (vInt .add (σ9 1) (.int .i64 1)) fun g =>
 ob (vInt .leq (σ9 10) g) fun i =>
 cnd i
 (jn (fun σ12 H12 =>
 ob (vInt .add (σ12 10) (.int .i64 1)) fun j =>
 Q9 .normal (up (up (up σ12 23 (σ12 10)) 24 j) 10 j) H12) fun J12 =>
 ob (vInt .sub (σ9 2) (.int .i64 1)) fun k =>
 lpE (fun Q15 σ15 H15 =>
 ob (vInt .add (σ15 2) (.int .i64 1)) fun l =>
 ob (vInt .leq (σ15 11) l) fun m =>
 cnd m
 (ob (vLoadN 3 (σ15 4) H15) fun n =>
 HT prg 55 [n, (σ15 10), (σ15 11), (σ15 3)].toArray H15 fun p H20 =>
 ob (vInt .add (σ15 9) p) fun q =>
 ob (vInt .add (σ15 11) (.int .i64 1)) fun r =>
 Q15 .normal (up (up (up (up (up (up (up (up (up (up (up (up (up (up (up σ15 27 (σ15 11)) 28 (σ15 2)) 29 l) 30 m) 33 (σ15 9)) 34 n) 35 (σ15 10)) 36 (σ15 11)) 37 (σ15 3)) 38 p) 39 q) 9 q) 31 (σ15 11)) 32 r) 11 r) H20)
 (Q15 (.exit 2) (up (up (up (up σ15 27 (σ15 11)) 28 (σ15 2)) 29 l) 30 m) H15)) (blkQ 2 (blkQ 1 (thenQ J12 Q9))) (up (up (up (up (up (up (up σ9 19 (σ9 10)) 20 (σ9 1)) 21 g) 22 i) 25 (σ9 2)) 26 k) 11 k) H9)
 (Q9 (.exit 0) (up (up (up (up σ9 19 (σ9 10)) 20 (σ9 1)) 21 g) 22 i) H9)) (blkQ 0 (thenQ J7 (retQ prg [(.tmp 8)] K))) (up (up (up (up (up (up (up (up (up (up (up (S0 [a0, a1, a2, a3]) 4 b) 8 (.int .i64 0)) 12 c) 13 a1) 14 a2) 15 d) 16 e) 9 e) 17 a1) 18 f) 10 f) H5
theorem R.q81 (h : F.q81 a0 a1 a2 a3 H K) : HT prg 81 [a0, a1, a2, a3].toArray H K :=
 HT_of_eq O0 mixed Tryz.func81 (by kernel_rfl) (by kernel_rfl) h
def F.q78 (a0 a1 a2 a3 a4 : Value) (H : Hp) (K : Value → Hp → Prop) : Prop :=
 ob (vLoadN 2 a2 H) fun b =>
 ob (vLoadN 3 a3 H) fun c =>
 ob (vLoadN 3 a3 H) fun d =>
 ob (vLoad a4 H) fun e =>
 HT prg 80 [c, a0, a1].toArray H fun f H6 =>
 Le H H6 ∧ (HT prg 81 [d, a0, a1, e].toArray H6 fun g H8 =>
 Le H6 H8 ∧ (HT prg 79 [b, f, g].toArray H8 fun i H10 =>
 Le H8 H10 ∧ (K i H10)))
def O.q78 : Nat → Nat × List Nat := fun i => bif Nat.beq i 1 then (0, [0, 1, 2, 3, 5, 6, 7, 8, 4, 9, 10, 11]) else (0, [])
theorem R.q78 (h : F.q78 a0 a1 a2 a3 a4 H K) : HT prg 78 [a0, a1, a2, a3, a4].toArray H K :=
 HT_of_eq O.q78 mixed Tryz.func78 (by kernel_rfl) (by kernel_rfl) h
def F.q45 (a0 a1 a2 : Value) (H : Hp) (K : Value → Hp → Prop) : Prop :=
 nw (a0 : Value).cells 26 H fun b H2 =>
 nw (a1 : Value).cells 36 H2 fun c H4 =>
 nw (a2 : Value).cells 4 H4 fun d H6 =>
 nw #[(.int .i64 0), (.int .i64 0), (.slice none 0 0)] 36 H6 fun e H8 =>
 ob (vFa 0 c) fun f =>
 ob (vLoad f H8) fun g =>
 ob (vFa 1 c) fun i =>
 ob (vLoad i H8) fun j =>
 HT prg 53 [g, j, (.func (.func 78) #[] #[b, c, d])].toArray H8 fun k H14 =>
 st 3 e k H14 fun H15 =>
 ob (vLoadN 3 e H15) fun u16 => K u16 H15
theorem R.q45 (h : F.q45 a0 a1 a2 H K) : HT prg 45 [a0, a1, a2].toArray H K :=
 HT_of_eq O0 mixed Tryz.func45 (by kernel_rfl) (by kernel_rfl) h
def F.q119 (a0 : Value) (H : Hp) (K : Value → Hp → Prop) : Prop :=
 ob (vSlEq .eql a0 (.slice none 0 0)) fun b =>
 cnd b
 (K (.slice none 0 0) H)
 (bS 1 0 #[(.int .i64 0)] 2 [] H fun c H3 =>
 apd 1 8 #[(.int .i64 0)] 2 c a0 H3 fun d H5 =>
 K d H5)
theorem R.q119 (h : F.q119 a0 H K) : HT prg 119 [a0].toArray H K :=
 HT_of_eq O0 mixed Tryz.func119 (by kernel_rfl) (by kernel_rfl) h
def F.q91 (a0 : Value) (H : Hp) (K : Value → Hp → Prop) : Prop :=
 nw (a0 : Value).cells 36 H fun b H2 =>
 nw #[(.int .i64 0), (.int .i64 0), (.slice none 0 0)] 36 H2 fun c H4 =>
 ob (vFa 2 b) fun d =>
 ob (vLoad d H4) fun e =>
 HT prg 119 [e].toArray H4 fun f H8 =>
 ob (vFa 2 b) fun g =>
 st 1 g f H8 fun H10 =>
 ob (vLoadN 3 b H10) fun i =>
 st 3 c i H10 fun H12 =>
 ob (vLoadN 3 c H12) fun u13 => K u13 H12
theorem R.q91 (h : F.q91 a0 H K) : HT prg 91 [a0].toArray H K :=
 HT_of_eq O0 mixed Tryz.func91 (by kernel_rfl) (by kernel_rfl) h
def F.q61 (a0 a1 a2 a3 : Value) (H : Hp) (K : Value → Hp → Prop) : Prop :=
 nw (a0 : Value).cells 26 H fun b H2 =>
 nw (a1 : Value).cells 36 H2 fun c H4 =>
 nw #[(.int .i64 0), (.int .i64 0), (.slice none 0 0)] 36 H4 fun d H6 =>
 ob (vLoadN 3 c H6) fun e =>
 HT prg 91 [e].toArray H6 fun f H9 =>
 st 3 c f H9 fun H10 =>
 jn (fun σ11 H11 =>
 ob (vLoadN 3 (σ11 5) H11) fun g =>
 st 3 (σ11 8) g H11 fun H13 =>
 ob (vLoadN 3 (σ11 8) H13) fun u14 => K u14 H13) fun J11 =>
 lpE (fun Q15 σ15 H15 =>
 ob (vInt .lss (σ15 12) (σ15 11)) fun i =>
 cnd i
 (ob (vLoadN 2 (σ15 4) H15) fun j =>
 ob (vLoadN 3 (σ15 5) H15) fun k =>
 HT prg 45 [j, k, (σ15 2)].toArray H15 fun l H20 =>
 st 3 (σ15 5) l H20 fun H21 =>
 ob (vInt .add (σ15 12) (.int .i64 1)) fun m =>
 Q15 .normal (up (up (up (up (up (up (up σ15 13 i) 14 j) 15 k) 16 (σ15 2)) 17 l) 18 m) 12 m) H21)
 (Q15 (.exit 0) (up σ15 13 i) H15)) (blkQ 0 (thenQ J11 (retQ prg [(.cell 8 36)] K))) (up (up (up (up (up (up (up (S0 [a0, a1, a2, a3]) 4 b) 5 c) 8 d) 9 e) 10 f) 11 a3) 12 (.int .i64 0)) H10
theorem R.q61 (h : F.q61 a0 a1 a2 a3 H K) : HT prg 61 [a0, a1, a2, a3].toArray H K :=
 HT_of_eq O0 mixed Tryz.func61 (by kernel_rfl) (by kernel_rfl) h
def F.q31 (a0 : Value) (H : Hp) (K : Value → Hp → Prop) : Prop :=
 HT prg 33 [a0, (.int .i64 1), (.int .i64 24)].toArray H fun b H2 =>
 K b H2
theorem R.q31 (h : F.q31 a0 H K) : HT prg 31 [a0].toArray H K :=
 HT_of_eq O0 mixed Tryz.func31 (by kernel_rfl) (by kernel_rfl) h
def F.q118 (a0 a1 a2 a3 a4 : Value) (H : Hp) (K : Value → Hp → Prop) : Prop :=
 ob (vLoadN 3 a2 H) fun b =>
 ob (vLoad a3 H) fun c =>
 ob (vInt .add c a0) fun d =>
 ob (vLoad a4 H) fun e =>
 ob (vInt .add e a1) fun f =>
 HT prg 80 [b, d, f].toArray H fun g H7 =>
 K g H7
theorem R.q118 (h : F.q118 a0 a1 a2 a3 a4 H K) : HT prg 118 [a0, a1, a2, a3, a4].toArray H K :=
 HT_of_eq O0 mixed Tryz.func118 (by kernel_rfl) (by kernel_rfl) h
def F.q87 (a0 a1 a2 a3 a4 : Value) (H : Hp) (K : Value → Hp → Prop) : Prop :=
 nw (a0 : Value).cells 36 H fun b H2 =>
 nw (a1 : Value).cells 2 H2 fun c H4 =>
 nw (a2 : Value).cells 2 H4 fun d H6 =>
 nw #[(.int .i64 0), (.int .i64 0), (.slice none 0 0)] 36 H6 fun e H8 =>
 HT prg 53 [a3, a4, (.func (.func 118) #[] #[b, c, d])].toArray H8 fun f H10 =>
 st 3 e f H10 fun H11 =>
 ob (vLoadN 3 e H11) fun u12 => K u12 H11
theorem R.q87 (h : F.q87 a0 a1 a2 a3 a4 H K) : HT prg 87 [a0, a1, a2, a3, a4].toArray H K :=
 HT_of_eq O0 mixed Tryz.func87 (by kernel_rfl) (by kernel_rfl) h
def F.q56 (a0 : Value) (H : Hp) (K : Value → Hp → Prop) : Prop :=
 nw (a0 : Value).cells 36 H fun b H2 =>
 nw #[(.int .i64 0), (.int .i64 0), (.slice none 0 0)] 36 H2 fun c H4 =>
 ob (vFa 0 b) fun d =>
 ob (vLoad d H4) fun e =>
 ob (vFa 1 b) fun f =>
 ob (vLoad f H4) fun g =>
 jn (fun σ9 H9 =>
 ob (vInt .lss (σ9 8) (.int .i64 0)) fun i =>
 cnd i
 (ob (vBuild [(0, 1), (1, 1), (2, 1)] (.agg #[(.int .i64 0), (.int .i64 0), (.slice none 0 0)]) []) fun j =>
 st 3 (σ9 2) j H9 fun H12 =>
 ob (vLoadN 3 (σ9 2) H12) fun u13 => K (.tuple #[u13, (.int .i64 0), (.int .i64 0), (.bool false)]) H12)
 (ob (vLoadN 3 (σ9 1) H9) fun k =>
 ob (vInt .sub (σ9 8) (σ9 6)) fun l =>
 ob (vInt .add l (.int .i64 1)) fun m =>
 ob (vInt .sub (σ9 9) (σ9 7)) fun n =>
 ob (vInt .add n (.int .i64 1)) fun p =>
 HT prg 87 [k, (σ9 6), (σ9 7), m, p].toArray H9 fun q H20 =>
 st 3 (σ9 2) q H20 fun H21 =>
 ob (vLoadN 3 (σ9 2) H21) fun u22 => K (.tuple #[u22, (σ9 6), (σ9 7), (.bool true)]) H21)) fun J9 =>
 ob (vFa 2 b) fun r =>
 ob (vLoad r H4) fun s =>
 ob (vLenSl s) fun t =>
 lpE (fun Q26 σ26 H26 =>
 ob (vInt .lss (σ26 21) (σ26 20)) fun w =>
 cnd w
 (ob (vIx 1 (σ26 19) (σ26 21)) fun x =>
 ob (vLoad x H26) fun y =>
 ob (vInt .eql y (.int .i64 1)) fun z =>
 cnd z
 (ob (vFa 1 (σ26 1)) fun b0 =>
 ob (vLoad b0 H26) fun c0 =>
 ob (vInt .quo (σ26 21) c0) fun d0 =>
 ob (vFa 1 (σ26 1)) fun e0 =>
 ob (vLoad e0 H26) fun f0 =>
 ob (vInt .rem (σ26 21) f0) fun g0 =>
 ob (vMx false (σ26 6) [d0]) fun i0 =>
 ob (vMx false (σ26 7) [g0]) fun j0 =>
 ob (vMx true (σ26 8) [d0]) fun k0 =>
 ob (vMx true (σ26 9) [g0]) fun l0 =>
 ob (vInt .add (σ26 21) (.int .i64 1)) fun m0 =>
 Q26 .normal (up (up (up (up (up (up (up (up (up (up (up (up (up (up (up (up (up (up (up (up (up (up (up (up (up (up (up (up (up (up (up (up (up (up (up (up σ26 22 w) 23 (σ26 21)) 24 x) 25 y) 10 (σ26 21)) 11 y) 26 y) 27 z) 28 (σ26 21)) 29 b0) 30 c0) 31 d0) 32 (σ26 21)) 33 e0) 34 f0) 35 g0) 12 d0) 13 g0) 36 (σ26 6)) 37 d0) 38 i0) 39 (σ26 7)) 40 g0) 41 j0) 42 (σ26 8)) 43 d0) 44 k0) 45 (σ26 9)) 46 g0) 47 l0) 6 i0) 7 j0) 8 k0) 9 l0) 48 m0) 21 m0) H26)
 (ob (vInt .add (σ26 21) (.int .i64 1)) fun n0 =>
 Q26 .normal (up (up (up (up (up (up (up (up (up (up σ26 22 w) 23 (σ26 21)) 24 x) 25 y) 10 (σ26 21)) 11 y) 26 y) 27 z) 48 n0) 21 n0) H26))
 (Q26 (.exit 0) (up σ26 22 w) H26)) (blkQ 0 (thenQ J9 (retQ prg [(.cell 2 36), (.tmp 3), (.tmp 4), (.tmp 5)] K))) (up (up (up (up (up (up (up (up (up (up (up (up (up (up (up (up (up (S0 [a0]) 1 b) 2 c) 3 (.int .i64 0)) 4 (.int .i64 0)) 5 (.bool false)) 14 d) 15 e) 16 f) 17 g) 6 e) 7 g) 8 (.int .i64 (-1))) 9 (.int .i64 (-1))) 18 r) 19 s) 20 t) 21 (.int .i64 0)) H4
def O.q56 : Nat → Nat × List Nat := fun i => bif Nat.beq i 1 then (0, [0, 1, 2, 3, 4, 5, 6, 7]) else bif Nat.beq i 6 then (0, [0, 1, 2, 3, 4, 5, 6, 7, 8, 9]) else (0, [])
theorem R.q56 (h : F.q56 a0 H K) : HT prg 56 [a0].toArray H K :=
 HT_of_eq O.q56 mixed Tryz.func56 (by kernel_rfl) (by kernel_rfl) h
def F.q143 (a0 a1 a2 a3 a4 : Value) (H : Hp) (K : Value → Hp → Prop) : Prop :=
 ob (vLenSl a0) fun b =>
 HT prg 33 [b, a1, a2].toArray H fun c H3 =>
 gop c true (fun K4 => K4 a0 H3) H3 fun d H6 =>
 gop c true (fun K7 => K7 a3 H6) H6 fun e H9 =>
 gop c true (fun K10 => K10 a4 H9) H9 fun f H12 =>
 gop c true (fun K13 => HT prg 113 [d, e, f].toArray H12 K13) H12 fun g H15 =>
 ob (vPick c g (.bool false)) fun i =>
 K i H15
theorem R.q143 (h : F.q143 a0 a1 a2 a3 a4 H K) : HT prg 143 [a0, a1, a2, a3, a4].toArray H K :=
 HT_of_eq O0 mixed Tryz.func143 (by kernel_rfl) (by kernel_rfl) h
def F.q115 (a0 : Value) (H : Hp) (K : Value → Hp → Prop) : Prop :=
 nw (a0 : Value).cells 36 H fun b H2 =>
 ob (vFa 0 b) fun c =>
 ob (vLoad c H2) fun d =>
 ob (vFa 1 b) fun e =>
 ob (vLoad e H2) fun f =>
 ob (vInt .mul d f) fun g =>
 ob (vFa 0 b) fun i =>
 ob (vLoad i H2) fun j =>
 HT prg 31 [j].toArray H2 fun k H11 =>
 gop k true (fun K12 => ob (vFa 1 b) fun u => K12 u H11) H11 fun l H14 =>
 gop k true (fun K15 => ob (vLoad l H14) fun u => K15 u H14) H14 fun m H17 =>
 gop k true (fun K18 => HT prg 31 [m].toArray H17 K18) H17 fun n H20 =>
 ob (vPick k n (.bool false)) fun p =>
 gop p true (fun K22 => ob (vFa 2 b) fun u => K22 u H20) H20 fun q H24 =>
 gop p true (fun K25 => ob (vLoad q H24) fun u => K25 u H24) H24 fun r H27 =>
 gop p true (fun K28 => K28 g H27) H27 fun s H30 =>
 gop p true (fun K31 => K31 g H30) H30 fun t H33 =>
 gop p true (fun K34 => HT prg 143 [r, s, t, (.int .i64 0), (.int .i64 9)].toArray H33 K34) H33 fun w H36 =>
 ob (vPick p w (.bool false)) fun x =>
 K x H36
theorem R.q115 (h : F.q115 a0 H K) : HT prg 115 [a0].toArray H K :=
 HT_of_eq O0 mixed Tryz.func115 (by kernel_rfl) (by kernel_rfl) h
def F.q77 (a0 : Value) (H : Hp) (K : Value → Hp → Prop) : Prop :=
 nw (a0 : Value).cells 36 H fun b H2 =>
 ob (vLoadN 3 b H2) fun c =>
 HT prg 115 [c].toArray H2 fun d H5 =>
 gop d true (fun K6 => ob (vFa 2 b) fun u => K6 u H5) H5 fun e H8 =>
 gop d true (fun K9 => ob (vLoad e H8) fun u => K9 u H8) H8 fun f H11 =>
 gop d true (fun K12 => HT prg 113 [f, (.int .i64 0), (.int .i64 1)].toArray H11 K12) H11 fun g H14 =>
 ob (vPick d g (.bool false)) fun i =>
 K i H14
theorem R.q77 (h : F.q77 a0 H K) : HT prg 77 [a0].toArray H K :=
 HT_of_eq O0 mixed Tryz.func77 (by kernel_rfl) (by kernel_rfl) h
def F.q120 (a0 a1 a2 a3 a4 a5 : Value) (H : Hp) (K : Value → Hp → Prop) : Prop :=
 ob (vFa 1 a2) fun b =>
 ob (vLoad b H) fun c =>
 ob (vInt .mul a0 c) fun d =>
 ob (vInt .add d a1) fun e =>
 ob (vFa 2 a2) fun f =>
 ob (vLoad f H) fun g =>
 ob (vIx 1 g e) fun i =>
 ob (vLoad i H) fun j =>
 ob (vInt .eql j (.int .i64 1)) fun k =>
 gop k true (fun K10 => ob (vLoad a3 H) fun u => K10 u H) H fun l H12 =>
 gop k true (fun K13 => K13 e H12) H12 fun m H15 =>
 gop k true (fun K16 => ob (vIx 1 l m) fun u => K16 u H15) H15 fun n H18 =>
 gop k true (fun K19 => ob (vLoad n H18) fun u => K19 u H18) H18 fun p H21 =>
 gop k true (fun K22 => ob (vInt .eql p (.int .i64 0)) fun u => K22 u H21) H21 fun q H24 =>
 ob (vPick k q (.bool false)) fun r =>
 cnd r
 (ob (vLoad a3 H24) fun s =>
 ob (vLoad a4 H24) fun t =>
 ob (vIx 1 s e) fun w =>
 st 1 w t H24 fun H29 =>
 ob (vLoad a5 H29) fun x =>
 bS 1 1 #[(.int .i64 0)] 2 [(0, e)] H29 fun y H32 =>
 apd 1 8 #[(.int .i64 0)] 2 x y H32 fun z H34 =>
 st 1 a5 z H34 fun H35 =>
 K (.tuple #[]) H35)
 (K (.tuple #[]) H24)
theorem R.q120 (h : F.q120 a0 a1 a2 a3 a4 a5 H K) : HT prg 120 [a0, a1, a2, a3, a4, a5].toArray H K :=
 HT_of_eq O0 mixed Tryz.func120 (by kernel_rfl) (by kernel_rfl) h
def F.qx35 (a0 a1 : Value) (H : Hp) (K : Value → Hp → Prop) : Prop :=
 nw (a0 : Value).cells 36 H fun b H2 =>
 ob (vFa 2 b) fun c =>
 ob (vLoad c H2) fun d =>
 ob (vLenSl d) fun e =>
 mkS 1 8 #[(.int .i64 0)] 2 e e H2 fun f H7 =>
 nw #[(.slice none 0 0)] 24 H7 fun g H9 =>
 st 1 g f H9 fun H10 =>
 nw #[(.int .i64 0)] 2 H10 fun i H12 =>
 st 1 i (.int .i64 0) H12 fun H13 =>
 jn (fun σ14 H14 =>
 ob (vLoad (σ14 6) H14) fun j =>
 ob (vLoad (σ14 7) H14) fun k =>
 K (.tuple #[j, k]) H14) fun J14 =>
 ob (vFa 2 b) fun l =>
 ob (vLoad l H13) fun m =>
 ob (vLenSl m) fun n =>
 lpE (fun Q20 σ20 H20 =>
 ob (vInt .lss (σ20 19) (σ20 18)) fun p =>
 cnd p
 (jn (fun σ22 H22 =>
 ob (vInt .add (σ22 19) (.int .i64 1)) fun q =>
 Q20 .normal (up (up σ22 66 q) 19 q) H22) fun J22 =>
 ob (vIx 1 (σ20 17) (σ20 19)) fun r =>
 ob (vLoad r H20) fun s =>
 ob (vInt .neq s (.int .i64 1)) fun t =>
 gop t false (fun K27 => ob (vLoad (σ20 6) H20) fun u => K27 u H20) H20 fun w H29 =>
 gop t false (fun K30 => K30 (σ20 19) H29) H29 fun x H32 =>
 gop t false (fun K33 => ob (vIx 1 w x) fun u => K33 u H32) H32 fun y H35 =>
 gop t false (fun K36 => ob (vLoad y H35) fun u => K36 u H35) H35 fun z H38 =>
 gop t false (fun K39 => ob (vInt .neq z (.int .i64 0)) fun u => K39 u H38) H38 fun b0 H41 =>
 ob (vPick t (.bool true) b0) fun c0 =>
 cnd c0
 (J22 (up (up (up (up (up (up (up (up (up (up (up (up (up (up (up σ20 20 p) 21 (σ20 19)) 22 r) 23 s) 8 (σ20 19)) 9 s) 24 s) 25 t) 26 t) 27 w) 28 x) 29 y) 30 z) 31 b0) 32 c0) H41)
 (ob (vLoad (σ20 7) H41) fun d0 =>
 ob (vInt .add d0 (.int .i64 1)) fun e0 =>
 st 1 (σ20 7) e0 H41 fun H45 =>
 ob (vLoad (σ20 6) H45) fun f0 =>
 ob (vLoad (σ20 7) H45) fun g0 =>
 ob (vIx 1 f0 (σ20 19)) fun i0 =>
 st 1 i0 g0 H45 fun H49 =>
 bS 1 1 #[(.int .i64 0)] 2 [(0, (σ20 19))] H49 fun j0 H51 =>
 nw #[(.slice none 0 0)] 24 H51 fun k0 H53 =>
 st 1 k0 j0 H53 fun H54 =>
 lpE (fun Q55 σ55 H55 =>
 ob (vLoad (σ55 10) H55) fun l0 =>
 ob (vLenSl l0) fun m0 =>
 ob (vInt .gtr m0 (.int .i64 0)) fun n0 =>
 cnd n0
 (ob (vLoad (σ55 10) H55) fun p0 =>
 ob (vLoad (σ55 10) H55) fun q0 =>
 ob (vLenSl q0) fun r0 =>
 ob (vInt .sub r0 (.int .i64 1)) fun s0 =>
 ob (vIx 1 p0 s0) fun t0 =>
 ob (vLoad t0 H55) fun w0 =>
 ob (vLoad (σ55 10) H55) fun x0 =>
 ob (vLoad (σ55 10) H55) fun y0 =>
 ob (vLenSl y0) fun z0 =>
 ob (vInt .sub z0 (.int .i64 1)) fun b1 =>
 ob (vSl3 1 x0 none (some b1) none) fun c1 =>
 st 1 (σ55 10) c1 H55 fun H70 =>
 ob (vFa 1 (σ55 2)) fun d1 =>
 ob (vLoad d1 H70) fun e1 =>
 ob (vInt .quo w0 e1) fun f1 =>
 ob (vFa 1 (σ55 2)) fun g1 =>
 ob (vLoad g1 H70) fun i1 =>
 ob (vInt .rem w0 i1) fun j1 =>
 callV prg (σ55 1) [f1, j1, (.func (.func 120) #[] #[(σ55 2), (σ55 6), (σ55 7), (σ55 10)])] H70 fun k1 H78 =>
 Q55 .normal (up (up (up (up (up (up (up (up (up (up (up (up (up (up (up (up (up (up (up (up (up (up (up (up (up (up σ55 41 l0) 42 m0) 43 n0) 44 p0) 45 q0) 46 r0) 47 s0) 48 t0) 49 w0) 11 w0) 50 x0) 51 y0) 52 z0) 53 b1) 54 c1) 55 (σ55 1)) 56 w0) 57 d1) 58 e1) 59 f1) 60 w0) 61 g1) 62 i1) 63 j1) 64 (.func (.func 120) #[] #[(σ55 2), (σ55 6), (σ55 7), (σ55 10)])) 65 k1) H78)
 (Q55 (.exit 2) (up (up (up σ55 41 l0) 42 m0) 43 n0) H55)) (blkQ 2 (blkQ 1 (thenQ J22 Q20))) (up (up (up (up (up (up (up (up (up (up (up (up (up (up (up (up (up (up (up (up (up (up (up (up σ20 20 p) 21 (σ20 19)) 22 r) 23 s) 8 (σ20 19)) 9 s) 24 s) 25 t) 26 t) 27 w) 28 x) 29 y) 30 z) 31 b0) 32 c0) 33 d0) 34 e0) 35 f0) 36 (σ20 19)) 37 g0) 38 i0) 39 (σ20 19)) 40 j0) 10 k0) H54))
 (Q20 (.exit 0) (up σ20 20 p) H20)) (blkQ 0 (thenQ J14 (retQ prg [(.tmp 4), (.tmp 5)] K))) (up (up (up (up (up (up (up (up (up (up (up (up (up (S0 [a0, a1]) 2 b) 4 (.slice none 0 0)) 5 (.int .i64 0)) 12 c) 13 d) 14 e) 15 f) 6 g) 7 i) 16 l) 17 m) 18 n) 19 (.int .i64 0)) H13
def O.qx35 : Nat → Nat × List Nat := fun i => bif Nat.beq i 15 then (2, [0, 1, 2, 3]) else bif Nat.beq i 13 then (2, [0, 1, 2, 3, 4, 5, 6, 7, 8, 9, 10]) else (0, [])
theorem R.qx35 (h : F.qx35 a0 a1 H K) : HT prg 101 [a0, a1].toArray H K :=
 HT_of_eq O.qx35 mixed Tryz.func101 (by kernel_rfl) (by kernel_rfl) h
def F.q102 (a0 a1 a2 a3 : Value) (H : Hp) (K : Value → Hp → Prop) : Prop :=
 nw (a0 : Value).cells 36 H fun b H2 =>
 ob (vInt .sub a1 (.int .i64 1)) fun c =>
 lpE (fun Q4 σ4 H4 =>
 ob (vInt .add (σ4 1) (.int .i64 1)) fun d =>
 ob (vInt .leq (σ4 8) d) fun e =>
 cnd e
 (jn (fun σ7 H7 =>
 ob (vInt .add (σ7 8) (.int .i64 1)) fun f =>
 Q4 .normal (up (up (up σ7 16 (σ7 8)) 17 f) 8 f) H7) fun J7 =>
 ob (vInt .sub (σ4 2) (.int .i64 1)) fun g =>
 lpE (fun Q10 σ10 H10 =>
 ob (vInt .add (σ10 2) (.int .i64 1)) fun i =>
 ob (vInt .leq (σ10 9) i) fun j =>
 cnd j
 (ob (vLoadN 3 (σ10 4) H10) fun k =>
 HT prg 86 [k, (σ10 8), (σ10 9)].toArray H10 fun l H15 =>
 gop l true (fun K16 => K16 (σ10 8) H15) H15 fun m H18 =>
 gop l true (fun K19 => K19 (σ10 1) H18) H18 fun n H21 =>
 gop l true (fun K22 => ob (vInt .neq m n) fun u => K22 u H21) H21 fun p H24 =>
 gop l true (fun K25 => K25 p H24) H24 fun q H27 =>
 gop q false (fun K28 => K28 (σ10 9) H27) H27 fun r H30 =>
 gop q false (fun K31 => K31 (σ10 2) H30) H30 fun s H33 =>
 gop q false (fun K34 => ob (vInt .neq r s) fun u => K34 u H33) H33 fun t H36 =>
 gop l true (fun K37 => ob (vPick q (.bool true) t) fun u => K37 u H36) H36 fun w H39 =>
 ob (vPick l w (.bool false)) fun x =>
 cnd x
 (callV prg (σ10 3) [(σ10 8), (σ10 9)] H39 fun y H42 =>
 ob (vInt .add (σ10 9) (.int .i64 1)) fun z =>
 Q10 .normal (up (up (up (up (up (up (up (up (up (up (up (up (up (up (up (up (up (up (up (up (up (up (up (up (up σ10 20 (σ10 9)) 21 (σ10 2)) 22 i) 23 j) 26 k) 27 (σ10 8)) 28 (σ10 9)) 29 l) 30 l) 31 m) 32 n) 33 p) 34 q) 35 r) 36 s) 37 t) 38 w) 39 x) 40 (σ10 3)) 41 (σ10 8)) 42 (σ10 9)) 43 y) 24 (σ10 9)) 25 z) 9 z) H42)
 (ob (vInt .add (σ10 9) (.int .i64 1)) fun b0 =>
 Q10 .normal (up (up (up (up (up (up (up (up (up (up (up (up (up (up (up (up (up (up (up (up (up σ10 20 (σ10 9)) 21 (σ10 2)) 22 i) 23 j) 26 k) 27 (σ10 8)) 28 (σ10 9)) 29 l) 30 l) 31 m) 32 n) 33 p) 34 q) 35 r) 36 s) 37 t) 38 w) 39 x) 24 (σ10 9)) 25 b0) 9 b0) H39))
 (Q10 (.exit 2) (up (up (up (up σ10 20 (σ10 9)) 21 (σ10 2)) 22 i) 23 j) H10)) (blkQ 2 (blkQ 1 (thenQ J7 Q4))) (up (up (up (up (up (up (up σ4 12 (σ4 8)) 13 (σ4 1)) 14 d) 15 e) 18 (σ4 2)) 19 g) 9 g) H4)
 (Q4 (.exit 0) (up (up (up (up σ4 12 (σ4 8)) 13 (σ4 1)) 14 d) 15 e) H4)) (blkQ 0 (retQ prg [] K)) (up (up (up (up (S0 [a0, a1, a2, a3]) 4 b) 10 a1) 11 c) 8 c) H2
theorem R.q102 (h : F.q102 a0 a1 a2 a3 H K) : HT prg 102 [a0, a1, a2, a3].toArray H K :=
 HT_of_eq O0 mixed Tryz.func102 (by kernel_rfl) (by kernel_rfl) h
def F.q103 (a0 a1 a2 a3 a4 : Value) (H : Hp) (K : Value → Hp → Prop) : Prop :=
 ob (vLoad a2 H) fun b =>
 ob (vFa 1 a3) fun c =>
 ob (vLoad c H) fun d =>
 ob (vInt .mul a0 d) fun e =>
 ob (vInt .add e a1) fun f =>
 ob (vIx 1 b f) fun g =>
 ob (vLoad g H) fun i =>
 ob (vLoad a4 H) fun j =>
 ob (vInt .add j (.int .i64 1)) fun k =>
 ob (vInt .eql i k) fun l =>
 HT prg 99 [l].toArray H fun m H12 =>
 Le H H12 ∧ (K m H12)
def O.q103 : Nat → Nat × List Nat := fun i => bif Nat.beq i 1 then (0, [0, 1, 2, 3, 4, 5, 6, 7, 8, 9, 10, 11, 12, 13]) else (0, [])
theorem R.q103 (h : F.q103 a0 a1 a2 a3 a4 H K) : HT prg 103 [a0, a1, a2, a3, a4].toArray H K :=
 HT_of_eq O.q103 mixed Tryz.func103 (by kernel_rfl) (by kernel_rfl) h
def F.q67 (a0 : Value) (H : Hp) (K : Value → Hp → Prop) : Prop :=
 nw (a0 : Value).cells 36 H fun b H2 =>
 ob (vLoadN 3 b H2) fun c =>
 HT prg 77 [c].toArray H2 fun d H5 =>
 ob (vUn .not d) fun e =>
 cnd e
 (K (.tuple #[(.slice none 0 0), (.slice none 0 0), (.bool false)]) H5)
 (ob (vLoadN 3 b H5) fun f =>
 ob (vLoadN 3 b H5) fun g =>
 HT prg 101 [f, (.func (.func 102) #[g] #[])].toArray H5 fun i H10 =>
 ob (vExt i 0) fun j =>
 ob (vExt i 1) fun k =>
 nw #[(.slice none 0 0)] 24 H10 fun l H14 =>
 st 1 l j H14 fun H15 =>
 bS 3 0 #[(.int .i64 0), (.int .i64 0), (.slice none 0 0)] 36 [] H15 fun m H17 =>
 bS 1 0 #[(.int .i64 0)] 2 [] H17 fun n H19 =>
 jn (fun σ20 H20 =>
 K (.tuple #[(σ20 7), (σ20 8), (.bool true)]) H20) fun J20 =>
 lpE (fun Q21 σ21 H21 =>
 ob (vInt .lss (σ21 28) (σ21 27)) fun p =>
 cnd p
 (nw #[(.int .i64 0)] 2 H21 fun q H24 =>
 st 1 q (σ21 28) H24 fun H25 =>
 ob (vFa 0 (σ21 1)) fun r =>
 ob (vLoad r H25) fun s =>
 ob (vFa 1 (σ21 1)) fun t =>
 ob (vLoad t H25) fun w =>
 HT prg 53 [s, w, (.func (.func 103) #[] #[(σ21 5), (σ21 1), q])].toArray H25 fun x H31 =>
 nw #[(.int .i64 0), (.int .i64 0), (.slice none 0 0)] 36 H31 fun y H33 =>
 st 3 y x H33 fun H34 =>
 ob (vLoadN 3 y H34) fun z =>
 HT prg 56 [z].toArray H34 fun b0 H37 =>
 ob (vExt b0 0) fun c0 =>
 ob (vExt b0 1) fun d0 =>
 ob (vExt b0 2) fun e0 =>
 ob (vExt b0 3) fun f0 =>
 nw #[(.int .i64 0), (.int .i64 0), (.slice none 0 0)] 36 H37 fun g0 H43 =>
 st 3 g0 c0 H43 fun H44 =>
 ob (vLoadN 3 g0 H44) fun i0 =>
 bS 3 1 #[(.int .i64 0), (.int .i64 0), (.slice none 0 0)] 36 [(0, i0)] H44 fun j0 H47 =>
 apd 3 40 #[(.int .i64 0), (.int .i64 0), (.slice none 0 0)] 36 (σ21 7) j0 H47 fun k0 H49 =>
 bS 1 2 #[(.int .i64 0)] 2 [(0, d0), (1, e0)] H49 fun l0 H51 =>
 apd 1 8 #[(.int .i64 0)] 2 (σ21 8) l0 H51 fun m0 H53 =>
 ob (vInt .add (σ21 28) (.int .i64 1)) fun n0 =>
 Q21 .normal (up (up (up (up (up (up (up (up (up (up (up (up (up (up (up (up (up (up (up (up (up (up (up (up (up (up (up (up (up (up (up (up (up (up σ21 29 p) 30 (σ21 28)) 9 q) 31 r) 32 s) 33 t) 34 w) 35 (.func (.func 103) #[] #[(σ21 5), (σ21 1), q])) 36 x) 10 y) 38 z) 39 b0) 37 b0) 40 c0) 41 d0) 42 e0) 43 f0) 11 g0) 12 d0) 13 e0) 14 f0) 44 (σ21 7)) 45 i0) 46 j0) 47 k0) 48 (σ21 8)) 49 d0) 50 e0) 51 l0) 52 m0) 7 k0) 8 m0) 53 n0) 28 n0) H53)
 (Q21 (.exit 0) (up σ21 29 p) H21)) (blkQ 0 (thenQ J20 (retQ prg [(.tmp 2), (.tmp 3), (.tmp 4)] K))) (up (up (up (up (up (up (up (up (up (up (up (up (up (up (up (up (up (up (up (up (up (up (S0 [a0]) 1 b) 2 (.slice none 0 0)) 3 (.slice none 0 0)) 4 (.bool false)) 15 c) 16 d) 17 e) 19 f) 20 g) 21 (.func (.func 102) #[g] #[])) 22 i) 18 i) 23 j) 24 k) 5 l) 6 k) 25 m) 26 n) 7 m) 8 n) 27 k) 28 (.int .i64 0)) H19)
theorem R.q67 (h : F.q67 a0 H K) : HT prg 67 [a0].toArray H K :=
 HT_of_eq O0 mixed Tryz.func67 (by kernel_rfl) (by kernel_rfl) h
def F.q145 (a0 a1 a2 : Value) (H : Hp) (K : Value → Hp → Prop) : Prop :=
 ob (vLoadN 3 a2 H) fun b =>
 ob (vFa 1 a2) fun c =>
 ob (vLoad c H) fun d =>
 ob (vInt .sub d (.int .i64 1)) fun e =>
 ob (vInt .sub e a1) fun f =>
 HT prg 80 [b, a0, f].toArray H fun g H7 =>
 K g H7
theorem R.q145 (h : F.q145 a0 a1 a2 H K) : HT prg 145 [a0, a1, a2].toArray H K :=
 HT_of_eq O0 mixed Tryz.func145 (by kernel_rfl) (by kernel_rfl) h
def F.q121 (a0 : Value) (H : Hp) (K : Value → Hp → Prop) : Prop :=
 nw (a0 : Value).cells 36 H fun b H2 =>
 nw #[(.int .i64 0), (.int .i64 0), (.slice none 0 0)] 36 H2 fun c H4 =>
 ob (vFa 0 b) fun d =>
 ob (vLoad d H4) fun e =>
 ob (vFa 1 b) fun f =>
 ob (vLoad f H4) fun g =>
 HT prg 53 [e, g, (.func (.func 145) #[] #[b])].toArray H4 fun i H10 =>
 st 3 c i H10 fun H11 =>
 ob (vLoadN 3 c H11) fun u12 => K u12 H11
theorem R.q121 (h : F.q121 a0 H K) : HT prg 121 [a0].toArray H K :=
 HT_of_eq O0 mixed Tryz.func121 (by kernel_rfl) (by kernel_rfl) h
def F.q146 (a0 a1 a2 : Value) (H : Hp) (K : Value → Hp → Prop) : Prop :=
 ob (vLoadN 3 a2 H) fun b =>
 ob (vFa 0 a2) fun c =>
 ob (vLoad c H) fun d =>
 ob (vInt .sub d (.int .i64 1)) fun e =>
 ob (vInt .sub e a1) fun f =>
 HT prg 80 [b, f, a0].toArray H fun g H7 =>
 K g H7
theorem R.q146 (h : F.q146 a0 a1 a2 H K) : HT prg 146 [a0, a1, a2].toArray H K :=
 HT_of_eq O0 mixed Tryz.func146 (by kernel_rfl) (by kernel_rfl) h
def F.q122 (a0 : Value) (H : Hp) (K : Value → Hp → Prop) : Prop :=
 nw (a0 : Value).cells 36 H fun b H2 =>
 nw #[(.int .i64 0), (.int .i64 0), (.slice none 0 0)] 36 H2 fun c H4 =>
 ob (vFa 1 b) fun d =>
 ob (vLoad d H4) fun e =>
 ob (vFa 0 b) fun f =>
 ob (vLoad f H4) fun g =>
 HT prg 53 [e, g, (.func (.func 146) #[] #[b])].toArray H4 fun i H10 =>
 st 3 c i H10 fun H11 =>
 ob (vLoadN 3 c H11) fun u12 => K u12 H11
theorem R.q122 (h : F.q122 a0 H K) : HT prg 122 [a0].toArray H K :=
 HT_of_eq O0 mixed Tryz.func122 (by kernel_rfl) (by kernel_rfl) h
def F.q104 (a0 : Value) (H : Hp) (K : Value → Hp → Prop) : Prop :=
 nw (a0 : Value).cells 36 H fun b H2 =>
 bS 3 0 #[(.int .i64 0), (.int .i64 0), (.slice none 0 0)] 36 [] H2 fun c H4 =>
 jn (fun σ5 H5 =>
 K (σ5 3) H5) fun J5 =>
 ob (vLoadN 3 b H4) fun d =>
 ob (vLoadN 3 b H4) fun e =>
 HT prg 91 [d].toArray H4 fun f H9 =>
 Le H4 H9 ∧ (HT prg 121 [e].toArray H9 fun g H11 =>
 Le H9 H11 ∧ (bS 3 2 #[(.int .i64 0), (.int .i64 0), (.slice none 0 0)] 36 [(0, f), (1, g)] H11 fun i H13 =>
 ob (vLenSl i) fun j =>
 lpE (fun Q15 σ15 H15 =>
 ob (vInt .lss (σ15 13) (σ15 12)) fun k =>
 cnd k
 (jn (fun σ17 H17 =>
 ob (vInt .add (σ17 13) (.int .i64 1)) fun l =>
 Q15 .normal (up (up σ17 26 l) 13 l) H17) fun J17 =>
 ob (vIx 3 (σ15 11) (σ15 13)) fun m =>
 ob (vLoadN 3 m H15) fun n =>
 nw #[(.int .i64 0), (.int .i64 0), (.slice none 0 0)] 36 H15 fun p H22 =>
 st 3 p n H22 fun H23 =>
 lpE (fun Q24 σ24 H24 =>
 ob (vInt .lss (σ24 17) (.int .i64 4)) fun q =>
 cnd q
 (ob (vLoadN 3 (σ24 5) H24) fun r =>
 bS 3 1 #[(.int .i64 0), (.int .i64 0), (.slice none 0 0)] 36 [(0, r)] H24 fun s H28 =>
 apd 3 40 #[(.int .i64 0), (.int .i64 0), (.slice none 0 0)] 36 (σ24 3) s H28 fun t H30 =>
 ob (vLoadN 3 (σ24 5) H30) fun w =>
 HT prg 122 [w].toArray H30 fun x H33 =>
 st 3 (σ24 5) x H33 fun H34 =>
 ob (vInt .add (σ24 17) (.int .i64 1)) fun y =>
 Q24 .normal (up (up (up (up (up (up (up (up (up (up σ24 18 q) 19 (σ24 3)) 20 r) 21 s) 22 t) 3 t) 23 w) 24 x) 25 y) 17 y) H34)
 (Q24 (.exit 2) (up σ24 18 q) H24)) (blkQ 2 (blkQ 1 (thenQ J17 Q15))) (up (up (up (up (up σ15 14 k) 15 m) 16 n) 5 p) 17 (.int .i64 0)) H23)
 (Q15 (.exit 0) (up σ15 14 k) H15)) (blkQ 0 (thenQ J5 (retQ prg [(.tmp 2)] K))) (up (up (up (up (up (up (up (up (up (up (up (S0 [a0]) 1 b) 2 (.slice none 0 0)) 6 c) 3 c) 7 d) 9 e) 13 (.int .i64 0)) 8 f) 10 g) 11 i) 12 j) H13))
def O.q104 : Nat → Nat × List Nat := fun i => bif Nat.beq i 2 then (0, [0, 2, 6, 1, 3, 4, 5]) else (0, [])
theorem R.q104 (h : F.q104 a0 H K) : HT prg 104 [a0].toArray H K :=
 HT_of_eq O.q104 mixed Tryz.func104 (by kernel_rfl) (by kernel_rfl) h
def F.q147 (a0 a1 a2 : Value) (H : Hp) (K : Value → Hp → Prop) : Prop :=
 lpE (fun Q1 σ1 H1 =>
 ob (vLoad (σ1 1) H1) fun b =>
 ob (vLenSl b) fun c =>
 ob (vInt .lss (σ1 4) c) fun d =>
 cnd d
 (ob (vLoad (σ1 2) H1) fun e =>
 ob (vLoad (σ1 1) H1) fun f =>
 ob (vSl3 1 f (some (σ1 4)) none none) fun g =>
 ob (vLenSl g) fun i =>
 ob (vMx false e [i]) fun j =>
 ob (vLoad (σ1 1) H1) fun k =>
 ob (vInt .add (σ1 4) j) fun l =>
 ob (vInt .add (σ1 4) j) fun m =>
 ob (vSl3 1 k (some (σ1 4)) (some l) (some m)) fun n =>
 callV prg (σ1 0) [n] H1 fun p H15 =>
 ob (vUn .not p) fun q =>
 cnd q
 (Q1 .ret (up (up (up (up (up (up (up (up (up (up (up (up (up (up (up (up (up (up (up (up (up (up (up σ1 6 (σ1 4)) 7 b) 8 c) 9 d) 13 e) 14 f) 15 (σ1 4)) 16 g) 17 i) 18 j) 5 j) 19 (σ1 0)) 20 k) 21 (σ1 4)) 22 (σ1 4)) 23 j) 24 l) 25 (σ1 4)) 26 j) 27 m) 28 n) 29 p) 30 q) H15)
 (ob (vLoad (σ1 2) H15) fun r =>
 ob (vInt .add (σ1 4) r) fun s =>
 Q1 .normal (up (up (up (up (up (up (up (up (up (up (up (up (up (up (up (up (up (up (up (up (up (up (up (up (up (up (up σ1 6 (σ1 4)) 7 b) 8 c) 9 d) 13 e) 14 f) 15 (σ1 4)) 16 g) 17 i) 18 j) 5 j) 19 (σ1 0)) 20 k) 21 (σ1 4)) 22 (σ1 4)) 23 j) 24 l) 25 (σ1 4)) 26 j) 27 m) 28 n) 29 p) 30 q) 10 (σ1 4)) 11 r) 12 s) 4 s) H15))
 (Q1 (.exit 0) (up (up (up (up σ1 6 (σ1 4)) 7 b) 8 c) 9 d) H1)) (blkQ 0 (retQ prg [] K)) (up (S0 [a0, a1, a2]) 4 (.int .i64 0)) H
def O.q147 : Nat → Nat × List Nat := fun i => bif Nat.beq i 3 then (0, [0, 1, 2, 3, 4, 5, 6]) else (0, [])
theorem R.q147 (h : F.q147 a0 a1 a2 H K) : HT prg 147 [a0, a1, a2].toArray H K :=
 HT_of_eq O.q147 mixed Tryz.func147 (by kernel_rfl) (by kernel_rfl) h
def F.q123 (a0 a1 : Value) (H : Hp) (K : Value → Hp → Prop) : Prop :=
 nw (a0 : Value).cells 24 H fun b H2 =>
 nw (a1 : Value).cells 3 H2 fun c H4 =>
 ob (vLoad c H4) fun d =>
 ob (vInt .lss d (.int .i64 1)) fun e =>
 cnd e
 (ob (val prg (Instr.makeInterface 9 (.string ⟨#[99, 97, 110, 110, 111, 116, 32, 98, 101, 32, 108, 101, 115, 115, 32, 116, 104, 97, 110, 32, 49]⟩)) H4) fun f =>
 hp prg (do pure (Next.value (← Instr.panic f))) H4 (nextH prg (fun _ H8 =>
 K (.func (.func 147) #[] #[b, c]) H8)))
 (K (.func (.func 147) #[] #[b, c]) H4)
theorem R.q123 (h : F.q123 a0 a1 H K) : HT prg 123 [a0, a1].toArray H K :=
 HT_of_eq O0 mixed Tryz.func123 (by kernel_rfl) (by kernel_rfl) h
def F.q162 (a0 : Value) (H : Hp) (K : Value → Hp → Prop) : Prop :=
 ob (vInt .lss a0 (.int .i64 10)) fun b =>
 cnd b
 (ob (vInt .add a0 (.int .i64 1)) fun c =>
 ob (vSlS (.string ⟨#[48, 49, 50, 51, 52, 53, 54, 55, 56, 57, 97, 98, 99, 100, 101, 102, 103, 104, 105, 106, 107, 108, 109, 110, 111, 112, 113, 114, 115, 116, 117, 118, 119, 120, 121, 122]⟩) (some a0) (some c)) fun d =>
 K d H)
 (ob (vInt .mul a0 (.int .i64 2)) fun e =>
 ob (vInt .mul a0 (.int .i64 2)) fun f =>
 ob (vInt .add f (.int .i64 2)) fun g =>
 ob (vSlS (.string ⟨#[48, 48, 48, 49, 48, 50, 48, 51, 48, 52, 48, 53, 48, 54, 48, 55, 48, 56, 48, 57, 49, 48, 49, 49, 49, 50, 49, 51, 49, 52, 49, 53, 49, 54, 49, 55, 49, 56, 49, 57, 50, 48, 50, 49, 50, 50, 50, 51, 50, 52, 50, 53, 50, 54, 50, 55, 50, 56, 50, 57, 51, 48, 51, 49, 51, 50, 51, 51, 51, 52, 51, 53, 51, 54, 51, 55, 51, 56, 51, 57, 52, 48, 52, 49, 52, 50, 52, 51, 52, 52, 52, 53, 52, 54, 52, 55, 52, 56, 52, 57, 53, 48, 53, 49, 53, 50, 53, 51, 53, 52, 53, 53, 53, 54, 53, 55, 53, 56, 53, 57, 54, 48, 54, 49, 54, 50, 54, 51, 54, 52, 54, 53, 54, 54, 54, 55, 54, 56, 54, 57, 55, 48, 55, 49, 55, 50, 55, 51, 55, 52, 55, 53, 55, 54, 55, 55, 55, 56, 55, 57, 56, 48, 56, 49, 56, 50, 56, 51, 56, 52, 56, 53, 56, 54, 56, 55, 56, 56, 56, 57, 57, 48, 57, 49, 57, 50, 57, 51, 57, 52, 57, 53, 57, 54, 57, 55, 57, 56, 57, 57]⟩) (some e) (some g)) fun i =>
 K i H)
theorem R.q162 (h : F.q162 a0 H K) : HT prg 162 [a0].toArray H K :=
 HT_of_eq O0 mixed Tryz.func162 (by kernel_rfl) (by kernel_rfl) h
def F.q137 (a0 : Value) (H : Hp) (K : Value → Hp → Prop) : Prop :=
 jn (fun σ1 H1 =>
 jn (fun σ2 H2 =>
 ob (vInt .geq (σ2 0) (.int .u64 256)) fun b =>
 cnd b
 (ob (vInt .shr (σ2 0) (.int .u64 8)) fun c =>
 ob (vInt .add (σ2 2) (.int .i64 8)) fun d =>
 ob (vCI .u8 c) fun e =>
 ob (vIndexS (.string ⟨#[0, 1, 2, 2, 3, 3, 3, 3, 4, 4, 4, 4, 4, 4, 4, 4, 5, 5, 5, 5, 5, 5, 5, 5, 5, 5, 5, 5, 5, 5, 5, 5, 6, 6, 6, 6, 6, 6, 6, 6, 6, 6, 6, 6, 6, 6, 6, 6, 6, 6, 6, 6, 6, 6, 6, 6, 6, 6, 6, 6, 6, 6, 6, 6, 7, 7, 7, 7, 7, 7, 7, 7, 7, 7, 7, 7, 7, 7, 7, 7, 7, 7, 7, 7, 7, 7, 7, 7, 7, 7, 7, 7, 7, 7, 7, 7, 7, 7, 7, 7, 7, 7, 7, 7, 7, 7, 7, 7, 7, 7, 7, 7, 7, 7, 7, 7, 7, 7, 7, 7, 7, 7, 7, 7, 7, 7, 7, 7, 8, 8, 8, 8, 8, 8, 8, 8, 8, 8, 8, 8, 8, 8, 8, 8, 8, 8, 8, 8, 8, 8, 8, 8, 8, 8, 8, 8, 8, 8, 8, 8, 8, 8, 8, 8, 8, 8, 8, 8, 8, 8, 8, 8, 8, 8, 8, 8, 8, 8, 8, 8, 8, 8, 8, 8, 8, 8, 8, 8, 8, 8, 8, 8, 8, 8, 8, 8, 8, 8, 8, 8, 8, 8, 8, 8, 8, 8, 8, 8, 8, 8, 8, 8, 8, 8, 8, 8, 8, 8, 8, 8, 8, 8, 8, 8, 8, 8, 8, 8, 8, 8, 8, 8, 8, 8, 8, 8, 8, 8, 8, 8, 8, 8, 8, 8, 8, 8, 8, 8, 8, 8, 8, 8, 8, 8, 8, 8]⟩) e) fun f =>
 ob (vCI .i64 f) fun g =>
 ob (vInt .add d g) fun i =>
 K i H2)
 (ob (vCI .u8 (σ2 0)) fun j =>
 ob (vIndexS (.string ⟨#[0, 1, 2, 2, 3, 3, 3, 3, 4, 4, 4, 4, 4, 4, 4, 4, 5, 5, 5, 5, 5, 5, 5, 5, 5, 5, 5, 5, 5, 5, 5, 5, 6, 6, 6, 6, 6, 6, 6, 6, 6, 6, 6, 6, 6, 6, 6, 6, 6, 6, 6, 6, 6, 6, 6, 6, 6, 6, 6, 6, 6, 6, 6, 6, 7, 7, 7, 7, 7, 7, 7, 7, 7, 7, 7, 7, 7, 7, 7, 7, 7, 7, 7, 7, 7, 7, 7, 7, 7, 7, 7, 7, 7, 7, 7, 7, 7, 7, 7, 7, 7, 7, 7, 7, 7, 7, 7, 7, 7, 7, 7, 7, 7, 7, 7, 7, 7, 7, 7, 7, 7, 7, 7, 7, 7, 7, 7, 7, 8, 8, 8, 8, 8, 8, 8, 8, 8, 8, 8, 8, 8, 8, 8, 8, 8, 8, 8, 8, 8, 8, 8, 8, 8, 8, 8, 8, 8, 8, 8, 8, 8, 8, 8, 8, 8, 8, 8, 8, 8, 8, 8, 8, 8, 8, 8, 8, 8, 8, 8, 8, 8, 8, 8, 8, 8, 8, 8, 8, 8, 8, 8, 8, 8, 8, 8, 8, 8, 8, 8, 8, 8, 8, 8, 8, 8, 8, 8, 8, 8, 8, 8, 8, 8, 8, 8, 8, 8, 8, 8, 8, 8, 8, 8, 8, 8, 8, 8, 8, 8, 8, 8, 8, 8, 8, 8, 8, 8, 8, 8, 8, 8, 8, 8, 8, 8, 8, 8, 8, 8, 8, 8, 8, 8, 8, 8, 8]⟩) j) fun k =>
 ob (vCI .i64 k) fun l =>
 ob (vInt .add (σ2 2) l) fun m =>
 K m H2)) fun J2 =>
 ob (vInt .geq (σ1 0) (.int .u64 65536)) fun n =>
 cnd n
 (ob (vInt .shr (σ1 0) (.int .u64 16)) fun p =>
 ob (vInt .add (σ1 2) (.int .i64 16)) fun q =>
 J2 (up (up (up (up (up (up (up (up σ1 7 (σ1 0)) 8 n) 9 (σ1 0)) 10 p) 0 p) 11 (σ1 2)) 12 q) 2 q) H1)
 (J2 (up (up σ1 7 (σ1 0)) 8 n) H1)) fun J1 =>
 ob (vInt .geq a0 (.int .u64 4294967296)) fun r =>
 cnd r
 (ob (vInt .shr a0 (.int .u64 32)) fun s =>
 J1 (up (up (up (up (up (up (up (S0 [a0]) 2 (.int .i64 0)) 3 a0) 4 r) 5 a0) 6 s) 0 s) 2 (.int .i64 32)) H)
 (J1 (up (up (up (S0 [a0]) 2 (.int .i64 0)) 3 a0) 4 r) H)
theorem R.q137 (h : F.q137 a0 H K) : HT prg 137 [a0].toArray H K :=
 HT_of_eq O0 mixed Tryz.func137 (by kernel_rfl) (by kernel_rfl) h
end Go.Proofs.YtnijdhlmimemcaaGreatDoor
/- Functions' texts over a partial heap. -/
namespace Go.Proofs.YtnijdhlmimemcaaGreatDoor
open HL
variable {a0 a1 a2 a3 : Value} {H : Hp} {K : Value → Hp → Prop}
set_option linter.unusedVariables false
set_option maxRecDepth 100000
set_option maxHeartbeats 4000000
def F.q158 (a0 a1 : Value) (H : Hp) (K : Value → Hp → Prop) : Prop :=
 ob (vInt .eql a1 (.int .i64 10)) fun b =>
 cnd b
 (ob (vInt .leq (.int .i64 0) a0) fun c =>
 gop c true (fun K3 => K3 a0 H) H fun d H5 =>
 gop c true (fun K6 => ob (vInt .lss d (.int .i64 100)) fun u => K6 u H5) H5 fun e H8 =>
 ob (vPick c e (.bool false)) fun f =>
 cnd f
 (HT prg 162 [a0].toArray H8 fun g H11 =>
 K g H11)
 (nw #[(.int .u8 0), (.int .u8 0), (.int .u8 0), (.int .u8 0), (.int .u8 0), (.int .u8 0), (.int .u8 0), (.int .u8 0), (.int .u8 0), (.int .u8 0), (.int .u8 0), (.int .u8 0), (.int .u8 0), (.int .u8 0), (.int .u8 0), (.int .u8 0), (.int .u8 0), (.int .u8 0), (.int .u8 0), (.int .u8 0), (.int .u8 0), (.int .u8 0), (.int .u8 0), (.int .u8 0)] 174 H8 fun i H13 =>
 ob (vCI .u64 a0) fun j =>
 jn (fun σ15 H15 =>
 HT prg 163 [(σ15 6)].toArray H15 fun k H17 =>
 ob (vInt .add (.int .i64 1) k) fun l =>
 ob (vSlA 24 1 (σ15 5) (some (.int .i64 1)) (some l)) fun m =>
 HT prg 164 [m, (σ15 6)].toArray H17 fun n H21 =>
 ob (vInt .lss (σ15 0) (.int .i64 0)) fun p =>
 cnd p
 (ob (vIxArr 24 1 (σ15 5) (.int .i64 0)) fun q =>
 st 1 q (.int .u8 45) H21 fun H24 =>
 ob (vInt .add (.int .i64 1) k) fun r =>
 ob (vSlA 24 1 (σ15 5) none (some r)) fun s =>
 ob (val prg (convert 22 9 s) H24) fun t =>
 K t H24)
 (ob (vInt .add (.int .i64 1) k) fun w =>
 ob (vSlA 24 1 (σ15 5) (some (.int .i64 1)) (some w)) fun x =>
 ob (val prg (convert 22 9 x) H21) fun y =>
 K y H21)) fun J15 =>
 ob (vInt .lss a0 (.int .i64 0)) fun z =>
 cnd z
 (ob (vUn .neg j) fun b0 =>
 J15 (up (up (up (up (up (up (up (up (up (up (up (up (up (up (up (up (up (up (S0 [a0, a1]) 4 (.string ⟨#[]⟩)) 10 a1) 11 b) 12 a0) 13 c) 14 c) 15 d) 16 e) 17 f) 5 i) 20 a0) 21 j) 6 j) 22 a0) 23 z) 24 j) 25 b0) 6 b0) H13)
 (J15 (up (up (up (up (up (up (up (up (up (up (up (up (up (up (up (S0 [a0, a1]) 4 (.string ⟨#[]⟩)) 10 a1) 11 b) 12 a0) 13 c) 14 c) 15 d) 16 e) 17 f) 5 i) 20 a0) 21 j) 6 j) 22 a0) 23 z) H13)))
 (ob (vCI .u64 a0) fun c0 =>
 ob (vInt .lss a0 (.int .i64 0)) fun d0 =>
 HT prg 165 [(.slice none 0 0), c0, a1, d0, (.bool false)].toArray H fun e0 H36 =>
 ob (vExt e0 0) fun f0 =>
 ob (vExt e0 1) fun g0 =>
 K g0 H36)
theorem R.q158 (h : F.q158 a0 a1 H K) : HT prg 158 [a0, a1].toArray H K :=
 HT_of_eq O0 mixed Tryz.func158 (by kernel_rfl) (by kernel_rfl) h
def F.q148 (a0 a1 : Value) (H : Hp) (K : Value → Hp → Prop) : Prop :=
 HT prg 158 [a0, a1].toArray H fun b H2 =>
 K b H2
theorem R.q148 (h : F.q148 a0 a1 H K) : HT prg 148 [a0, a1].toArray H K :=
 HT_of_eq O0 mixed Tryz.func148 (by kernel_rfl) (by kernel_rfl) h
def F.q125 (a0 : Value) (H : Hp) (K : Value → Hp → Prop) : Prop :=
 HT prg 148 [a0, (.int .i64 10)].toArray H fun b H2 =>
 K b H2
theorem R.q125 (h : F.q125 a0 H K) : HT prg 125 [a0].toArray H K :=
 HT_of_eq O0 mixed Tryz.func125 (by kernel_rfl) (by kernel_rfl) h
def F.q124 (a0 : Value) (H : Hp) (K : Value → Hp → Prop) : Prop :=
 jn (fun σ1 H1 =>
 K (σ1 3) H1) fun J1 =>
 lpE (fun Q2 σ2 H2 =>
 ob (vLenSl (σ2 0)) fun b =>
 ob (vInt .lss (σ2 4) b) fun c =>
 cnd c
 (jn (fun σ5 H5 =>
 ob (vIx 1 (σ5 0) (σ5 4)) fun d =>
 ob (vLoad d H5) fun e =>
 ob (vInt .eql e (.int .i64 0)) fun f =>
 gop f true (fun K9 => K9 (σ5 5) H5) H5 fun g H11 =>
 gop f true (fun K12 => K12 (σ5 0) H11) H11 fun i H14 =>
 gop f true (fun K15 => ob (vLenSl i) fun u => K15 u H14) H14 fun j H17 =>
 gop f true (fun K18 => ob (vInt .eql g j) fun u => K18 u H17) H17 fun k H20 =>
 ob (vPick f k (.bool false)) fun l =>
 cnd l
 (Q2 (.exit 0) (up (up (up (up (up (up (up (up (up (up (up σ5 28 (σ5 0)) 29 (σ5 4)) 30 d) 31 e) 32 f) 33 f) 34 g) 35 i) 36 j) 37 k) 38 l) H20)
 (ob (vInt .sub (σ5 5) (σ5 4)) fun m =>
 ob (vInt .gtr m (.int .i64 1)) fun n =>
 cnd n
 (ob (vInt .sub (σ5 5) (σ5 4)) fun p =>
 HT prg 125 [p].toArray H20 fun q H26 =>
 ob (vStr .add (σ5 3) q) fun r =>
 ob (vIx 1 (σ5 0) (σ5 4)) fun s =>
 ob (vLoad s H26) fun t =>
 ob (vIx 1 (σ5 0) (σ5 4)) fun w =>
 ob (vLoad w H26) fun x =>
 ob (vInt .add x (.int .i64 1)) fun y =>
 ob (vSlS (.string ⟨#[98, 111]⟩) (some t) (some y)) fun z =>
 ob (vStr .add r z) fun b0 =>
 Q2 .normal (up (up (up (up (up (up (up (up (up (up (up (up (up (up (up (up (up (up (up (up (up (up (up (up (up (up (up (up (up (up (up (up (up (up (up (up (up σ5 28 (σ5 0)) 29 (σ5 4)) 30 d) 31 e) 32 f) 33 f) 34 g) 35 i) 36 j) 37 k) 38 l) 39 (σ5 5)) 40 (σ5 4)) 41 m) 42 n) 43 (σ5 3)) 44 (σ5 5)) 45 (σ5 4)) 46 p) 47 q) 48 r) 3 r) 49 r) 50 (σ5 0)) 51 (σ5 4)) 52 s) 53 t) 54 (σ5 0)) 55 (σ5 4)) 56 w) 57 x) 58 y) 59 z) 60 b0) 3 b0) 61 (σ5 5)) 4 (σ5 5)) H26)
 (ob (vIx 1 (σ5 0) (σ5 4)) fun c0 =>
 ob (vLoad c0 H20) fun d0 =>
 ob (vIx 1 (σ5 0) (σ5 4)) fun e0 =>
 ob (vLoad e0 H20) fun f0 =>
 ob (vInt .add f0 (.int .i64 1)) fun g0 =>
 ob (vSlS (.string ⟨#[98, 111]⟩) (some d0) (some g0)) fun i0 =>
 ob (vStr .add (σ5 3) i0) fun j0 =>
 Q2 .normal (up (up (up (up (up (up (up (up (up (up (up (up (up (up (up (up (up (up (up (up (up (up (up (up (up (up (up (up (up (up σ5 28 (σ5 0)) 29 (σ5 4)) 30 d) 31 e) 32 f) 33 f) 34 g) 35 i) 36 j) 37 k) 38 l) 39 (σ5 5)) 40 (σ5 4)) 41 m) 42 n) 49 (σ5 3)) 50 (σ5 0)) 51 (σ5 4)) 52 c0) 53 d0) 54 (σ5 0)) 55 (σ5 4)) 56 e0) 57 f0) 58 g0) 59 i0) 60 j0) 3 j0) 61 (σ5 5)) 4 (σ5 5)) H20))) fun J5 =>
 lpE (fun Q42 σ42 H42 =>
 ob (vLenSl (σ42 0)) fun k0 =>
 ob (vInt .lss (σ42 5) k0) fun l0 =>
 gop l0 true (fun K45 => K45 (σ42 0) H42) H42 fun m0 H47 =>
 gop l0 true (fun K48 => K48 (σ42 5) H47) H47 fun n0 H50 =>
 gop l0 true (fun K51 => ob (vIx 1 m0 n0) fun u => K51 u H50) H50 fun p0 H53 =>
 gop l0 true (fun K54 => ob (vLoad p0 H53) fun u => K54 u H53) H53 fun q0 H56 =>
 gop l0 true (fun K57 => K57 (σ42 0) H56) H56 fun r0 H59 =>
 gop l0 true (fun K60 => K60 (σ42 4) H59) H59 fun s0 H62 =>
 gop l0 true (fun K63 => ob (vIx 1 r0 s0) fun u => K63 u H62) H62 fun t0 H65 =>
 gop l0 true (fun K66 => ob (vLoad t0 H65) fun u => K66 u H65) H65 fun w0 H68 =>
 gop l0 true (fun K69 => ob (vInt .eql q0 w0) fun u => K69 u H68) H68 fun x0 H71 =>
 ob (vPick l0 x0 (.bool false)) fun y0 =>
 cnd y0
 (ob (vInt .add (σ42 5) (.int .i64 1)) fun z0 =>
 Q42 .normal (up (up (up (up (up (up (up (up (up (up (up (up (up (up (up (up (up (up σ42 11 (σ42 5)) 12 (σ42 0)) 13 k0) 14 l0) 15 l0) 16 m0) 17 n0) 18 p0) 19 q0) 20 r0) 21 s0) 22 t0) 23 w0) 24 x0) 25 y0) 26 (σ42 5)) 27 z0) 5 z0) H71)
 (Q42 (.exit 2) (up (up (up (up (up (up (up (up (up (up (up (up (up (up (up σ42 11 (σ42 5)) 12 (σ42 0)) 13 k0) 14 l0) 15 l0) 16 m0) 17 n0) 18 p0) 19 q0) 20 r0) 21 s0) 22 t0) 23 w0) 24 x0) 25 y0) H71)) (blkQ 2 (thenQ J5 (blkQ 1 Q2))) (up (up (up (up (up (up σ2 6 (σ2 4)) 7 (σ2 0)) 8 b) 9 c) 10 (σ2 4)) 5 (σ2 4)) H2)
 (Q2 (.exit 0) (up (up (up (up σ2 6 (σ2 4)) 7 (σ2 0)) 8 b) 9 c) H2)) (blkQ 0 (thenQ J1 (retQ prg [(.tmp 2)] K))) (up (up (up (S0 [a0]) 2 (.string ⟨#[]⟩)) 3 (.string ⟨#[]⟩)) 4 (.int .i64 0)) H
def O.q124 : Nat → Nat × List Nat := fun i => bif Nat.beq i 10 then (0, [0, 1, 2, 3, 4, 5, 6, 7, 8, 9, 10, 11, 12]) else bif Nat.beq i 5 then (0, [0, 1, 2, 3, 4, 5, 6, 7, 8, 9, 10, 11, 12, 13, 14]) else (0, [])
theorem R.q124 (h : F.q124 a0 H K) : HT prg 124 [a0].toArray H K :=
 HT_of_eq O.q124 mixed Tryz.func124 (by kernel_rfl) (by kernel_rfl) h
def F.q159 (a0 : Value) (H : Hp) (K : Value → Hp → Prop) : Prop :=
 ob (vNilC a0) fun b =>
 ob (vFa 0 b) fun c =>
 ob (vLoad c H) fun d =>
 ob (val prg (do eqGuard .eql 154 (.tmp 5) (.const (.pointer none)) d (.pointer none); binOp .eql 154 d (.pointer none)) H) fun e =>
 cnd e
 (hp prg (convert 154 178 a0) H fun f H6 =>
 hp prg (callFunc 166 [f].toArray) H6 (nextH prg (fun g H8 =>
 hp prg (convert 178 154 g) H8 fun i H10 =>
 ob (vNilC a0) fun j =>
 ob (vFa 0 j) fun k =>
 st 1 k i H10 fun H13 =>
 K (.tuple #[]) H13)))
 (ob (vNilC a0) fun l =>
 ob (vFa 0 l) fun m =>
 ob (vLoad m H) fun n =>
 ob (val prg (do eqGuard .neq 154 (.tmp 17) (.tmp 18) n a0; binOp .neq 154 n a0) H) fun p =>
 cnd p
 (False)
 (K (.tuple #[]) H))
theorem R.q159 (h : F.q159 a0 H K) : HT prg 159 [a0].toArray H K :=
 HT_of_eq O0 mixed Tryz.func159 (by kernel_rfl) (by kernel_rfl) h
def F.q160 (a0 a1 : Value) (H : Hp) (K : Value → Hp → Prop) : Prop :=
 ob (vNilC a0) fun b =>
 ob (vFa 1 b) fun c =>
 ob (vLoad c H) fun d =>
 ob (vCapSl d) fun e =>
 ob (vInt .mul (.int .i64 2) e) fun f =>
 ob (vInt .add f a1) fun g =>
 ob (vNilC a0) fun i =>
 ob (vFa 1 i) fun j =>
 ob (vLoad j H) fun k =>
 ob (vLenSl k) fun l =>
 hp prg (callFunc 167 [g].toArray) H (nextH prg (fun m H12 =>
 Le H H12 ∧ (ob (vSl3 1 m none (some l) none) fun n =>
 ob (vNilC a0) fun p =>
 ob (vFa 1 p) fun q =>
 ob (vLoad q H12) fun r =>
 hp prg (builtin .copy #[22, 22] 3 #[false, false] [n, r].toArray) H12 (nextH prg (fun s H18 =>
 ob (vNilC a0) fun t =>
 ob (vFa 1 t) fun w =>
 st 1 w n H18 fun H21 =>
 K (.tuple #[]) H21)))))
def O.q160 : Nat → Nat × List Nat := fun i => bif Nat.beq i 0 then (0, [0, 1, 2, 3, 4, 5, 6, 7, 9, 10, 11, 12, 13, 8, 14, 15]) else (0, [])
theorem R.q160 (h : F.q160 a0 a1 H K) : HT prg 160 [a0, a1].toArray H K :=
 HT_of_eq O.q160 mixed Tryz.func160 (by kernel_rfl) (by kernel_rfl) h
def F.q149 (a0 a1 : Value) (H : Hp) (K : Value → Hp → Prop) : Prop :=
 HT prg 159 [a0].toArray H fun b H2 =>
 jn (fun σ3 H3 =>
 ob (vNilC (σ3 0)) fun c =>
 ob (vFa 1 c) fun d =>
 ob (vLoad d H3) fun e =>
 ob (vCapSl e) fun f =>
 ob (vNilC (σ3 0)) fun g =>
 ob (vFa 1 g) fun i =>
 ob (vLoad i H3) fun j =>
 ob (vLenSl j) fun k =>
 ob (vInt .sub f k) fun l =>
 ob (vInt .lss l (σ3 1)) fun m =>
 cnd m
 (HT prg 160 [(σ3 0), (σ3 1)].toArray H3 fun n H15 =>
 K (.tuple #[]) H15)
 (K (.tuple #[]) H3)) fun J3 =>
 ob (vInt .lss a1 (.int .i64 0)) fun p =>
 cnd p
 (ob (val prg (Instr.makeInterface 9 (.string ⟨#[115, 116, 114, 105, 110, 103, 115, 46, 66, 117, 105, 108, 100, 101, 114, 46, 71, 114, 111, 119, 58, 32, 110, 101, 103, 97, 116, 105, 118, 101, 32, 99, 111, 117, 110, 116]⟩)) H2) fun q =>
 hp prg (do pure (Next.value (← Instr.panic q))) H2 (nextH prg (fun _ H18 =>
 J3 (up (up (up (up (up (S0 [a0, a1]) 4 a0) 5 b) 6 a1) 7 p) 8 q) H18)))
 (J3 (up (up (up (up (S0 [a0, a1]) 4 a0) 5 b) 6 a1) 7 p) H2)
def O.q149 : Nat → Nat × List Nat := fun i => bif Nat.beq i 3 then (0, [0, 1, 2, 3, 4, 5, 6, 7, 8, 9, 10, 11, 12]) else (0, [])
theorem R.q149 (h : F.q149 a0 a1 H K) : HT prg 149 [a0, a1].toArray H K :=
 HT_of_eq O.q149 mixed Tryz.func149 (by kernel_rfl) (by kernel_rfl) h
def F.q150 (a0 a1 : Value) (H : Hp) (K : Value → Hp → Prop) : Prop :=
 HT prg 159 [a0].toArray H fun b H2 =>
 ob (vNilC a0) fun c =>
 ob (vFa 1 c) fun d =>
 ob (vLoad d H2) fun e =>
 apd 1 1 #[(.int .u8 0)] 5 e a1 H2 fun f H7 =>
 ob (vNilC a0) fun g =>
 ob (vFa 1 g) fun i =>
 st 1 i f H7 fun H10 =>
 ob (vLenS a1) fun j =>
 K (.tuple #[j, .nilIface]) H10
theorem R.q150 (h : F.q150 a0 a1 H K) : HT prg 150 [a0, a1].toArray H K :=
 HT_of_eq O0 mixed Tryz.func150 (by kernel_rfl) (by kernel_rfl) h
def F.q151 (a0 : Value) (H : Hp) (K : Value → Hp → Prop) : Prop :=
 (ob (vNilC a0) fun b =>
 ob (vFa 1 b) fun c =>
 ob (vLoad c H) fun d =>
 ob (vNilC a0) fun e =>
 ob (vFa 1 e) fun f =>
 ob (vLoad f H) fun g =>
 ob (vLenSl g) fun i =>
 hp prg (builtin .unsafeSliceData #[22] 169 #[false] [d].toArray) H (nextH prg (fun j H9 =>
 hp prg (builtin .unsafeString #[169, 3] 9 #[false, false] [j, i].toArray) H9 (nextH prg (fun k H11 =>
 K k H11))))) ∧ (ob (vNilC a0) fun l =>
 ob (vFa 1 l) fun m =>
 ob (vLoad m H) fun n =>
 ob (vNilC a0) fun p =>
 ob (vFa 1 p) fun q =>
 hp prg (builtin .unsafeSliceData #[22] 169 #[false] [n].toArray) H (nextH prg (fun r H18 =>
 ob (vLoad q H18) fun s =>
 ob (vLenSl s) fun t =>
 hp prg (builtin .unsafeString #[169, 3] 9 #[false, false] [r, t].toArray) H18 (nextH prg (fun w H22 =>
 K w H22)))))
def O.q151 : Nat → Nat × List Nat := fun i => bif Nat.beq i 1 then (0, [1008, 1004, 0, 1, 2, 3, 5, 6, 7, 8, 9, 4, 10, 11, 0, 1, 2, 3, 5, 6, 7, 4, 8, 9, 10, 11]) else (0, [])
theorem R.q151 (h : F.q151 a0 H K) : HT prg 151 [a0].toArray H K :=
 HT_of_eq O.q151 mixed Tryz.func151 (by kernel_rfl) (by kernel_rfl) h
def F.q126 (a0 a1 : Value) (H : Hp) (K : Value → Hp → Prop) : Prop :=
 ob (vLenSl a0) fun b =>
 ob (vInt .eql b (.int .i64 0)) fun c =>
 cnd c
 (K (.string ⟨#[]⟩) H)
 (ob (vInt .eql b (.int .i64 1)) fun d =>
 cnd d
 (ob (vIx 1 a0 (.int .i64 0)) fun e =>
 ob (vLoad e H) fun f =>
 K f H)
 (jn (fun σ6 H6 =>
 jn (fun σ7 H7 =>
 nw #[(.pointer none), (.slice none 0 0)] 156 H7 fun g H9 =>
 HT prg 149 [g, (σ7 5)].toArray H9 fun i H11 =>
 ob (vIx 1 (σ7 0) (.int .i64 0)) fun j =>
 ob (vLoad j H11) fun k =>
 HT prg 150 [g, k].toArray H11 fun l H15 =>
 jn (fun σ16 H16 =>
 HT prg 151 [(σ16 8)].toArray H16 fun m H18 =>
 K m H18) fun J16 =>
 ob (vSl3 1 (σ7 0) (some (.int .i64 1)) none none) fun n =>
 ob (vLenSl n) fun p =>
 lpE (fun Q21 σ21 H21 =>
 ob (vInt .lss (σ21 65) (σ21 64)) fun q =>
 cnd q
 (ob (vIx 1 (σ21 63) (σ21 65)) fun r =>
 ob (vLoad r H21) fun s =>
 HT prg 150 [(σ21 8), (σ21 1)].toArray H21 fun t H26 =>
 HT prg 150 [(σ21 8), s].toArray H26 fun w H28 =>
 ob (vInt .add (σ21 65) (.int .i64 1)) fun x =>
 Q21 .normal (up (up (up (up (up (up (up (up (up (up σ21 66 q) 67 r) 68 s) 10 s) 69 (σ21 1)) 70 t) 71 s) 72 w) 73 x) 65 x) H28)
 (Q21 (.exit 3) (up σ21 66 q) H21)) (blkQ 3 (thenQ J16 (retQ prg [(.tmp 4)] K))) (up (up (up (up (up (up (up (up (up (up (up σ7 8 g) 56 (σ7 5)) 57 i) 58 (σ7 0)) 59 j) 60 k) 61 l) 62 (σ7 0)) 63 n) 64 p) 65 (.int .i64 0)) H15) fun J7 =>
 ob (vLenSl (σ6 0)) fun y =>
 lpE (fun Q31 σ31 H31 =>
 ob (vInt .lss (σ31 41) (σ31 40)) fun z =>
 cnd z
 (ob (vIx 1 (σ31 39) (σ31 41)) fun b0 =>
 ob (vLoad b0 H31) fun c0 =>
 ob (vLenS c0) fun d0 =>
 ob (vInt .sub (.int .i64 9223372036854775807) (σ31 5)) fun e0 =>
 ob (vInt .gtr d0 e0) fun f0 =>
 cnd f0
 (ob (val prg (Instr.makeInterface 9 (.string ⟨#[115, 116, 114, 105, 110, 103, 115, 58, 32, 74, 111, 105, 110, 32, 111, 117, 116, 112, 117, 116, 32, 108, 101, 110, 103, 116, 104, 32, 111, 118, 101, 114, 102, 108, 111, 119]⟩)) H31) fun g0 =>
 hp prg (do pure (Next.value (← Instr.panic g0))) H31 (nextH prg (fun _ H39 =>
 ob (vLenS c0) fun i0 =>
 ob (vInt .add (σ31 5) i0) fun j0 =>
 ob (vInt .add (σ31 41) (.int .i64 1)) fun k0 =>
 Q31 .normal (up (up (up (up (up (up (up (up (up (up (up (up (up (up (up (up (up σ31 42 z) 43 b0) 44 c0) 7 c0) 45 c0) 46 d0) 47 (σ31 5)) 48 e0) 49 f0) 50 g0) 51 (σ31 5)) 52 c0) 53 i0) 54 j0) 5 j0) 55 k0) 41 k0) H39)))
 (ob (vLenS c0) fun l0 =>
 ob (vInt .add (σ31 5) l0) fun m0 =>
 ob (vInt .add (σ31 41) (.int .i64 1)) fun n0 =>
 Q31 .normal (up (up (up (up (up (up (up (up (up (up (up (up (up (up (up (up σ31 42 z) 43 b0) 44 c0) 7 c0) 45 c0) 46 d0) 47 (σ31 5)) 48 e0) 49 f0) 51 (σ31 5)) 52 c0) 53 l0) 54 m0) 5 m0) 55 n0) 41 n0) H31))
 (Q31 (.exit 1) (up σ31 42 z) H31)) (blkQ 1 (thenQ J7 (retQ prg [(.tmp 4)] K))) (up (up (up σ6 39 (σ6 0)) 40 y) 41 (.int .i64 0)) H6) fun J6 =>
 ob (vLenS a1) fun p0 =>
 ob (vInt .gtr p0 (.int .i64 0)) fun q0 =>
 cnd q0
 (ob (vLenS a1) fun r0 =>
 ob (vLenSl a0) fun s0 =>
 ob (vInt .sub s0 (.int .i64 1)) fun t0 =>
 ob (vInt .quo (.int .i64 9223372036854775807) t0) fun w0 =>
 ob (vInt .geq r0 w0) fun x0 =>
 cnd x0
 (ob (val prg (Instr.makeInterface 9 (.string ⟨#[115, 116, 114, 105, 110, 103, 115, 58, 32, 74, 111, 105, 110, 32, 111, 117, 116, 112, 117, 116, 32, 108, 101, 110, 103, 116, 104, 32, 111, 118, 101, 114, 102, 108, 111, 119]⟩)) H) fun y0 =>
 hp prg (do pure (Next.value (← Instr.panic y0))) H (nextH prg (fun _ H54 =>
 ob (vLenS a1) fun z0 =>
 ob (vLenSl a0) fun b1 =>
 ob (vInt .sub b1 (.int .i64 1)) fun c1 =>
 ob (vInt .mul z0 c1) fun d1 =>
 ob (vInt .add (.int .i64 0) d1) fun e1 =>
 J6 (up (up (up (up (up (up (up (up (up (up (up (up (up (up (up (up (up (up (up (up (up (up (up (up (up (up (up (up (S0 [a0, a1]) 4 (.string ⟨#[]⟩)) 11 a0) 12 b) 14 c) 13 c) 16 d) 15 d) 5 (.int .i64 0)) 20 a1) 21 p0) 22 q0) 23 a1) 24 r0) 25 a0) 26 s0) 27 t0) 28 w0) 29 x0) 30 y0) 31 (.int .i64 0)) 32 a1) 33 z0) 34 a0) 35 b1) 36 c1) 37 d1) 38 e1) 5 e1) H54)))
 (ob (vLenS a1) fun f1 =>
 ob (vLenSl a0) fun g1 =>
 ob (vInt .sub g1 (.int .i64 1)) fun i1 =>
 ob (vInt .mul f1 i1) fun j1 =>
 ob (vInt .add (.int .i64 0) j1) fun k1 =>
 J6 (up (up (up (up (up (up (up (up (up (up (up (up (up (up (up (up (up (up (up (up (up (up (up (up (up (up (up (S0 [a0, a1]) 4 (.string ⟨#[]⟩)) 11 a0) 12 b) 14 c) 13 c) 16 d) 15 d) 5 (.int .i64 0)) 20 a1) 21 p0) 22 q0) 23 a1) 24 r0) 25 a0) 26 s0) 27 t0) 28 w0) 29 x0) 31 (.int .i64 0)) 32 a1) 33 f1) 34 a0) 35 g1) 36 i1) 37 j1) 38 k1) 5 k1) H))
 (J6 (up (up (up (up (up (up (up (up (up (up (up (S0 [a0, a1]) 4 (.string ⟨#[]⟩)) 11 a0) 12 b) 14 c) 13 c) 16 d) 15 d) 5 (.int .i64 0)) 20 a1) 21 p0) 22 q0) H)))
theorem R.q126 (h : F.q126 a0 a1 H K) : HT prg 126 [a0, a1].toArray H K :=
 HT_of_eq O0 mixed Tryz.func126 (by kernel_rfl) (by kernel_rfl) h
def F.q105 (a0 : Value) (H : Hp) (K : Value → Hp → Prop) : Prop :=
 nw (a0 : Value).cells 36 H fun b H2 =>
 bS 1 0 #[(.string ⟨#[]⟩)] 9 [] H2 fun c H4 =>
 nw #[(.slice none 0 0)] 30 H4 fun d H6 =>
 st 1 d c H6 fun H7 =>
 jn (fun σ8 H8 =>
 ob (vFa 1 (σ8 1)) fun e =>
 ob (vLoad e H8) fun f =>
 ob (vFa 0 (σ8 1)) fun g =>
 ob (vLoad g H8) fun i =>
 ob (vLoad (σ8 3) H8) fun j =>
 HT prg 125 [f].toArray H8 fun k H15 =>
 Le H8 H15 ∧ (ob (vStr .add k (.string ⟨#[44]⟩)) fun l =>
 HT prg 125 [i].toArray H15 fun m H18 =>
 Le H15 H18 ∧ (ob (vStr .add l m) fun n =>
 ob (vStr .add n (.string ⟨#[58]⟩)) fun p =>
 HT prg 126 [j, (.string ⟨#[36]⟩)].toArray H18 fun q H22 =>
 Le H18 H22 ∧ (ob (vStr .add p q) fun r =>
 ob (vStr .add r (.string ⟨#[33]⟩)) fun s =>
 K s H22)))) fun J8 =>
 ob (vFa 2 b) fun t =>
 ob (vLoad t H7) fun w =>
 ob (vFa 1 b) fun x =>
 ob (vLoad x H7) fun y =>
 HT prg 123 [w, y].toArray H7 fun z H30 =>
 rgE prg z [11] (fun Q31 σ31 H31 =>
 ob (vLoad (σ31 3) H31) fun b0 =>
 HT prg 124 [(σ31 11)].toArray H31 fun c0 H34 =>
 Le H31 H34 ∧ (bS 1 1 #[(.string ⟨#[]⟩)] 9 [(0, c0)] H34 fun d0 H36 =>
 apd 1 16 #[(.string ⟨#[]⟩)] 9 b0 d0 H36 fun e0 H38 =>
 st 1 (σ31 3) e0 H38 fun H39 =>
 Q31 .normal (up (up (up (up (up (up σ31 4 (σ31 11)) 12 b0) 13 (σ31 11)) 14 c0) 15 d0) 16 e0) H39)) (blkQ 0 (thenQ J8 (retQ prg [(.tmp 2)] K))) (up (up (up (up (up (up (up (up (up (S0 [a0]) 1 b) 2 (.string ⟨#[]⟩)) 5 c) 3 d) 6 t) 7 w) 8 x) 9 y) 10 z) H30
def O.q105 : Nat → Nat × List Nat := fun i => bif Nat.beq i 5 then (0, [0, 1, 4, 5, 9, 2, 3, 6, 7, 8, 10, 11, 12, 13]) else bif Nat.beq i 4 then (0, [0, 1, 2, 3, 4, 5]) else (0, [])
theorem R.q105 (h : F.q105 a0 H K) : HT prg 105 [a0].toArray H K :=
 HT_of_eq O.q105 mixed Tryz.func105 (by kernel_rfl) (by kernel_rfl) h
def F.q106 (a0 : Value) (H : Hp) (K : Value → Hp → Prop) : Prop :=
 jn (fun σ1 H1 =>
 ob (vIx 1 (σ1 0) (.int .i64 0)) fun b =>
 ob (vLoad b H1) fun c =>
 jn (fun σ4 H4 =>
 K (σ4 3) H4) fun J4 =>
 lpE (fun Q5 σ5 H5 =>
 ob (vLenSl (σ5 0)) fun d =>
 ob (vInt .lss (σ5 4) d) fun e =>
 cnd e
 (ob (vIx 1 (σ5 0) (σ5 4)) fun f =>
 ob (vLoad f H5) fun g =>
 hp prg (builtin .min #[9, 9] 9 #[false, false] [(σ5 3), g].toArray) H5 (nextH prg (fun i H11 =>
 ob (vInt .add (σ5 4) (.int .i64 1)) fun j =>
 Q5 .normal (up (up (up (up (up (up (up (up (up (up (up (up (up (up σ5 12 (σ5 4)) 13 (σ5 0)) 14 d) 15 e) 18 (σ5 3)) 19 (σ5 0)) 20 (σ5 4)) 21 f) 22 g) 23 i) 3 i) 16 (σ5 4)) 17 j) 4 j) H11)))
 (Q5 (.exit 0) (up (up (up (up σ5 12 (σ5 4)) 13 (σ5 0)) 14 d) 15 e) H5)) (blkQ 0 (thenQ J4 (retQ prg [(.tmp 2)] K))) (up (up (up (up (up σ1 9 (σ1 0)) 10 b) 11 c) 3 c) 4 (.int .i64 1)) H1) fun J1 =>
 ob (vLenSl a0) fun k =>
 ob (vInt .lss k (.int .i64 1)) fun l =>
 cnd l
 (ob (val prg (Instr.makeInterface 9 (.string ⟨#[115, 108, 105, 99, 101, 115, 46, 77, 105, 110, 58, 32, 101, 109, 112, 116, 121, 32, 108, 105, 115, 116]⟩)) H) fun m =>
 hp prg (do pure (Next.value (← Instr.panic m))) H (nextH prg (fun _ H16 =>
 J1 (up (up (up (up (up (S0 [a0]) 2 (.string ⟨#[]⟩)) 5 a0) 6 k) 7 l) 8 m) H16)))
 (J1 (up (up (up (up (S0 [a0]) 2 (.string ⟨#[]⟩)) 5 a0) 6 k) 7 l) H)
theorem R.q106 (h : F.q106 a0 H K) : HT prg 106 [a0].toArray H K :=
 HT_of_eq O0 mixed Tryz.func106 (by kernel_rfl) (by kernel_rfl) h
def F.q68 (a0 : Value) (H : Hp) (K : Value → Hp → Prop) : Prop :=
 nw (a0 : Value).cells 36 H fun b H2 =>
 ob (vLoadN 3 b H2) fun c =>
 HT prg 56 [c].toArray H2 fun d H5 =>
 ob (vExt d 0) fun e =>
 ob (vExt d 1) fun f =>
 ob (vExt d 2) fun g =>
 ob (vExt d 3) fun i =>
 nw #[(.int .i64 0), (.int .i64 0), (.slice none 0 0)] 36 H5 fun j H11 =>
 st 3 j e H11 fun H12 =>
 ob (vUn .not i) fun k =>
 cnd k
 (K (.string ⟨#[]⟩) H12)
 (bS 1 0 #[(.string ⟨#[]⟩)] 9 [] H12 fun l H15 =>
 jn (fun σ16 H16 =>
 HT prg 106 [(σ16 7)].toArray H16 fun m H18 =>
 K m H18) fun J16 =>
 ob (vLoadN 3 j H15) fun n =>
 HT prg 104 [n].toArray H15 fun p H21 =>
 ob (vLenSl p) fun q =>
 lpE (fun Q23 σ23 H23 =>
 ob (vInt .lss (σ23 23) (σ23 22)) fun r =>
 cnd r
 (ob (vIx 3 (σ23 21) (σ23 23)) fun s =>
 ob (vLoadN 3 s H23) fun t =>
 nw #[(.int .i64 0), (.int .i64 0), (.slice none 0 0)] 36 H23 fun w H28 =>
 st 3 w t H28 fun H29 =>
 ob (vLoadN 3 w H29) fun x =>
 HT prg 105 [x].toArray H29 fun y H32 =>
 bS 1 1 #[(.string ⟨#[]⟩)] 9 [(0, y)] H32 fun z H34 =>
 apd 1 16 #[(.string ⟨#[]⟩)] 9 (σ23 7) z H34 fun b0 H36 =>
 ob (vInt .add (σ23 23) (.int .i64 1)) fun c0 =>
 Q23 .normal (up (up (up (up (up (up (up (up (up (up (up (up σ23 24 r) 25 s) 26 t) 9 w) 27 (σ23 7)) 28 x) 29 y) 30 z) 31 b0) 7 b0) 32 c0) 23 c0) H36)
 (Q23 (.exit 0) (up σ23 24 r) H23)) (blkQ 0 (thenQ J16 (retQ prg [(.tmp 2)] K))) (up (up (up (up (up (up (up (up (up (up (up (up (up (up (up (up (up (up (up (up (up (S0 [a0]) 1 b) 2 (.string ⟨#[]⟩)) 11 c) 12 d) 10 d) 13 e) 14 f) 15 g) 16 i) 3 j) 4 f) 5 g) 6 i) 17 i) 18 k) 19 l) 7 l) 20 n) 21 p) 22 q) 23 (.int .i64 0)) H21)
theorem R.q68 (h : F.q68 a0 H K) : HT prg 68 [a0].toArray H K :=
 HT_of_eq O0 mixed Tryz.func68 (by kernel_rfl) (by kernel_rfl) h
def F.q127 (a0 a1 a2 : Value) (H : Hp) (K : Value → Hp → Prop) : Prop :=
 ob (vInt .add a1 (.int .i64 1)) fun b =>
 lpE (fun Q2 σ2 H2 =>
 ob (vInt .lss (σ2 6) (σ2 2)) fun c =>
 cnd c
 (jn (fun σ4 H4 =>
 ob (vInt .add (σ4 6) (.int .i64 1)) fun d =>
 Q2 .normal (up (up (up σ4 13 (σ4 6)) 14 d) 6 d) H4) fun J4 =>
 lpE (fun Q6 σ6 H6 =>
 ob (vInt .gtr (σ6 7) (σ6 1)) fun e =>
 gop e true (fun K8 => K8 (σ6 0) H6) H6 fun f H10 =>
 gop e true (fun K11 => K11 (σ6 7) H10) H10 fun g H13 =>
 gop e true (fun K14 => ob (vIx 1 f g) fun u => K14 u H13) H13 fun i H16 =>
 gop e true (fun K17 => ob (vLoad i H16) fun u => K17 u H16) H16 fun j H19 =>
 gop e true (fun K20 => K20 (σ6 0) H19) H19 fun k H22 =>
 gop e true (fun K23 => K23 (σ6 7) H22) H22 fun l H25 =>
 gop e true (fun K26 => ob (vInt .sub l (.int .i64 1)) fun u => K26 u H25) H25 fun m H28 =>
 gop e true (fun K29 => ob (vIx 1 k m) fun u => K29 u H28) H28 fun n H31 =>
 gop e true (fun K32 => ob (vLoad n H31) fun u => K32 u H31) H31 fun p H34 =>
 gop e true (fun K35 => HT prg 133 [j, p].toArray H34 fun q H37 =>
 Le H34 H37 ∧ K35 q H37) H34 fun r H39 =>
 ob (vPick e r (.bool false)) fun s =>
 cnd s
 (ob (vInt .sub (σ6 7) (.int .i64 1)) fun t =>
 ob (vInt .sub (σ6 7) (.int .i64 1)) fun w =>
 ob (vIx 1 (σ6 0) w) fun x =>
 ob (vLoad x H39) fun y =>
 ob (vIx 1 (σ6 0) (σ6 7)) fun z =>
 ob (vLoad z H39) fun b0 =>
 ob (vIx 1 (σ6 0) (σ6 7)) fun c0 =>
 st 1 c0 y H39 fun H48 =>
 ob (vIx 1 (σ6 0) t) fun d0 =>
 st 1 d0 b0 H48 fun H50 =>
 ob (vInt .sub (σ6 7) (.int .i64 1)) fun e0 =>
 Q6 .normal (up (up (up (up (up (up (up (up (up (up (up (up (up (up (up (up (up (up (up (up (up (up (up (up (up (up (up (up (up (up (up (up (up (up σ6 16 (σ6 7)) 17 (σ6 1)) 18 e) 19 e) 20 f) 21 g) 22 i) 23 j) 24 k) 25 l) 26 m) 27 n) 28 p) 29 r) 30 s) 33 (σ6 0)) 34 (σ6 7)) 35 (σ6 0)) 36 (σ6 7)) 37 t) 38 (σ6 0)) 39 (σ6 7)) 40 w) 41 x) 42 y) 43 (σ6 0)) 44 (σ6 7)) 45 z) 46 b0) 47 c0) 48 d0) 31 (σ6 7)) 32 e0) 7 e0) H50)
 (Q6 (.exit 2) (up (up (up (up (up (up (up (up (up (up (up (up (up (up (up σ6 16 (σ6 7)) 17 (σ6 1)) 18 e) 19 e) 20 f) 21 g) 22 i) 23 j) 24 k) 25 l) 26 m) 27 n) 28 p) 29 r) 30 s) H39)) (blkQ 2 (blkQ 1 (thenQ J4 Q2))) (up (up (up (up (up σ2 10 (σ2 6)) 11 (σ2 2)) 12 c) 15 (σ2 6)) 7 (σ2 6)) H2)
 (Q2 (.exit 0) (up (up (up σ2 10 (σ2 6)) 11 (σ2 2)) 12 c) H2)) (blkQ 0 (retQ prg [] K)) (up (up (up (S0 [a0, a1, a2]) 8 a1) 9 b) 6 b) H
def O.q127 : Nat → Nat × List Nat := fun i => bif Nat.beq i 4 then (0, [0, 1, 2, 3, 4, 5, 6, 7, 8, 9, 10, 11, 12, 13, 14]) else bif Nat.beq i 6 then (0, [0, 1, 2, 3, 4, 5, 6, 7, 8, 9, 10, 11, 12, 13, 14, 15, 16, 17]) else (0, [])
theorem R.q127 (h : F.q127 a0 a1 a2 H K) : HT prg 127 [a0, a1, a2].toArray H K :=
 HT_of_eq O.q127 mixed Tryz.func127 (by kernel_rfl) (by kernel_rfl) h
def F.q108 (a0 : Value) (H : Hp) (K : Value → Hp → Prop) : Prop :=
 cnd (.bool false)
 (ob (vCI .u32 a0) fun b =>
 HT prg 136 [b].toArray H fun c H3 =>
 K c H3)
 (HT prg 137 [a0].toArray H fun d H5 =>
 K d H5)
theorem R.q108 (h : F.q108 a0 H K) : HT prg 108 [a0].toArray H K :=
 HT_of_eq O0 mixed Tryz.func108 (by kernel_rfl) (by kernel_rfl) h
def F.q107 (a0 a1 a2 a3 : Value) (H : Hp) (K : Value → Hp → Prop) : Prop :=
 lpE (fun Q1 σ1 H1 =>
 ob (vInt .sub (σ1 2) (σ1 1)) fun b =>
 ob (vInt .leq b (.int .i64 12)) fun c =>
 cnd c
 (HT prg 127 [(σ1 0), (σ1 1), (σ1 2)].toArray H1 fun d H5 =>
 Q1 .ret (up (up (up (up (up (up (up (up (up (up σ1 19 (σ1 2)) 20 (σ1 1)) 21 b) 10 b) 22 b) 23 c) 24 (σ1 0)) 25 (σ1 1)) 26 (σ1 2)) 27 d) H5)
 (ob (vInt .eql (σ1 3) (.int .i64 0)) fun e =>
 cnd e
 (HT prg 128 [(σ1 0), (σ1 1), (σ1 2)].toArray H1 fun f H8 =>
 Q1 .ret (up (up (up (up (up (up (up (up (up (up (up (up σ1 19 (σ1 2)) 20 (σ1 1)) 21 b) 10 b) 22 b) 23 c) 28 (σ1 3)) 29 e) 30 (σ1 0)) 31 (σ1 1)) 32 (σ1 2)) 33 f) H8)
 (jn (fun σ9 H9 =>
 HT prg 130 [(σ9 0), (σ9 1), (σ9 2)].toArray H9 fun g H11 =>
 ob (vExt g 0) fun i =>
 ob (vExt g 1) fun j =>
 jn (fun σ14 H14 =>
 jn (fun σ15 H15 =>
 ob (vInt .gtr (σ15 1) (.int .i64 0)) fun k =>
 gop k true (fun K17 => K17 (σ15 0) H15) H15 fun l H19 =>
 gop k true (fun K20 => K20 (σ15 1) H19) H19 fun m H22 =>
 gop k true (fun K23 => ob (vInt .sub m (.int .i64 1)) fun u => K23 u H22) H22 fun n H25 =>
 gop k true (fun K26 => ob (vIx 1 l n) fun u => K26 u H25) H25 fun p H28 =>
 gop k true (fun K29 => ob (vLoad p H28) fun u => K29 u H28) H28 fun q H31 =>
 gop k true (fun K32 => K32 (σ15 0) H31) H31 fun r H34 =>
 gop k true (fun K35 => K35 (σ15 11) H34) H34 fun s H37 =>
 gop k true (fun K38 => ob (vIx 1 r s) fun u => K38 u H37) H37 fun t H40 =>
 gop k true (fun K41 => ob (vLoad t H40) fun u => K41 u H40) H40 fun w H43 =>
 gop k true (fun K44 => HT prg 133 [q, w].toArray H43 fun x H46 =>
 Le H43 H46 ∧ K44 x H46) H43 fun y H48 =>
 gop k true (fun K49 => ob (vUn .not y) fun u => K49 u H48) H48 fun z H51 =>
 ob (vPick k z (.bool false)) fun b0 =>
 cnd b0
 (HT prg 134 [(σ15 0), (σ15 1), (σ15 2), (σ15 11)].toArray H51 fun c0 H54 =>
 Q1 .normal (up (up (up (up (up (up (up (up (up (up (up (up (up (up (up (up (up (up (up (up (up (up (up σ15 73 (σ15 1)) 74 k) 75 k) 76 l) 77 m) 78 n) 79 p) 80 q) 81 r) 82 s) 83 t) 84 w) 85 y) 86 z) 87 b0) 88 (σ15 0)) 89 (σ15 1)) 90 (σ15 2)) 91 (σ15 11)) 92 c0) 13 c0) 93 c0) 1 c0) H54)
 (HT prg 135 [(σ15 0), (σ15 1), (σ15 2), (σ15 11)].toArray H51 fun d0 H56 =>
 ob (vExt d0 0) fun e0 =>
 ob (vExt d0 1) fun f0 =>
 ob (vInt .sub e0 (σ15 1)) fun g0 =>
 ob (vInt .sub (σ15 2) e0) fun i0 =>
 ob (vInt .quo (σ15 10) (.int .i64 8)) fun j0 =>
 ob (vInt .lss g0 i0) fun k0 =>
 cnd k0
 (ob (vInt .geq g0 j0) fun l0 =>
 HT prg 107 [(σ15 0), (σ15 1), e0, (σ15 3)].toArray H56 fun m0 H65 =>
 ob (vInt .add e0 (.int .i64 1)) fun n0 =>
 Q1 .normal (up (up (up (up (up (up (up (up (up (up (up (up (up (up (up (up (up (up (up (up (up (up (up (up (up (up (up (up (up (up (up (up (up (up (up (up (up (up (up (up (up (up (up (up (up (up (up (up (up (up (up (up (up σ15 73 (σ15 1)) 74 k) 75 k) 76 l) 77 m) 78 n) 79 p) 80 q) 81 r) 82 s) 83 t) 84 w) 85 y) 86 z) 87 b0) 95 (σ15 0)) 96 (σ15 1)) 97 (σ15 2)) 98 (σ15 11)) 99 d0) 94 d0) 100 e0) 101 f0) 14 e0) 15 f0) 102 f0) 9 f0) 103 e0) 104 (σ15 1)) 105 g0) 106 (σ15 2)) 107 e0) 108 i0) 16 g0) 17 i0) 109 (σ15 10)) 110 j0) 18 j0) 111 g0) 112 i0) 113 k0) 114 g0) 115 j0) 116 l0) 8 l0) 117 (σ15 0)) 118 (σ15 1)) 119 e0) 120 (σ15 3)) 121 m0) 122 e0) 123 n0) 1 n0) H65)
 (ob (vInt .geq i0 j0) fun p0 =>
 ob (vInt .add e0 (.int .i64 1)) fun q0 =>
 HT prg 107 [(σ15 0), q0, (σ15 2), (σ15 3)].toArray H56 fun r0 H70 =>
 Q1 .normal (up (up (up (up (up (up (up (up (up (up (up (up (up (up (up (up (up (up (up (up (up (up (up (up (up (up (up (up (up (up (up (up (up (up (up (up (up (up (up (up (up (up (up (up (up (up (up (up (up (up (up (up (up σ15 73 (σ15 1)) 74 k) 75 k) 76 l) 77 m) 78 n) 79 p) 80 q) 81 r) 82 s) 83 t) 84 w) 85 y) 86 z) 87 b0) 95 (σ15 0)) 96 (σ15 1)) 97 (σ15 2)) 98 (σ15 11)) 99 d0) 94 d0) 100 e0) 101 f0) 14 e0) 15 f0) 102 f0) 9 f0) 103 e0) 104 (σ15 1)) 105 g0) 106 (σ15 2)) 107 e0) 108 i0) 16 g0) 17 i0) 109 (σ15 10)) 110 j0) 18 j0) 111 g0) 112 i0) 113 k0) 124 i0) 125 j0) 126 p0) 8 p0) 127 (σ15 0)) 128 e0) 129 q0) 130 (σ15 2)) 131 (σ15 3)) 132 r0) 133 e0) 2 e0) H70))) fun J15 =>
 gop (σ14 8) true (fun K71 => K71 (σ14 9) H14) H14 fun s0 H73 =>
 ob (vPick (σ14 8) s0 (.bool false)) fun t0 =>
 gop t0 true (fun K75 => K75 (σ14 12) H73) H73 fun w0 H77 =>
 gop t0 true (fun K78 => ob (vInt .eql w0 (.int .i64 1)) fun u => K78 u H77) H77 fun x0 H80 =>
 ob (vPick t0 x0 (.bool false)) fun y0 =>
 cnd y0
 (HT prg 132 [(σ14 0), (σ14 1), (σ14 2)].toArray H80 fun z0 H83 =>
 cnd z0
 (Q1 .ret (up (up (up (up (up (up (up (up (up (up (up (up σ14 61 (σ14 8)) 62 (σ14 8)) 63 s0) 64 t0) 65 t0) 66 w0) 67 x0) 68 y0) 69 (σ14 0)) 70 (σ14 1)) 71 (σ14 2)) 72 z0) H83)
 (J15 (up (up (up (up (up (up (up (up (up (up (up (up σ14 61 (σ14 8)) 62 (σ14 8)) 63 s0) 64 t0) 65 t0) 66 w0) 67 x0) 68 y0) 69 (σ14 0)) 70 (σ14 1)) 71 (σ14 2)) 72 z0) H83))
 (J15 (up (up (up (up (up (up (up (up σ14 61 (σ14 8)) 62 (σ14 8)) 63 s0) 64 t0) 65 t0) 66 w0) 67 x0) 68 y0) H80)) fun J14 =>
 ob (vInt .eql j (.int .i64 2)) fun b1 =>
 cnd b1
 (HT prg 131 [(σ9 0), (σ9 1), (σ9 2)].toArray H11 fun c1 H86 =>
 ob (vInt .sub (σ9 2) (.int .i64 1)) fun d1 =>
 ob (vInt .sub i (σ9 1)) fun e1 =>
 ob (vInt .sub d1 e1) fun f1 =>
 J14 (up (up (up (up (up (up (up (up (up (up (up (up (up (up (up (up (up (up (up (up (up (up (up σ9 43 (σ9 0)) 44 (σ9 1)) 45 (σ9 2)) 46 g) 42 g) 47 i) 48 j) 11 i) 12 j) 49 j) 50 b1) 51 (σ9 0)) 52 (σ9 1)) 53 (σ9 2)) 54 c1) 55 (σ9 2)) 56 d1) 57 i) 58 (σ9 1)) 59 e1) 60 f1) 11 f1) 12 (.int .i64 1)) H86)
 (J14 (up (up (up (up (up (up (up (up (up (up (up σ9 43 (σ9 0)) 44 (σ9 1)) 45 (σ9 2)) 46 g) 42 g) 47 i) 48 j) 11 i) 12 j) 49 j) 50 b1) H11)) fun J9 =>
 ob (vUn .not (σ1 8)) fun g1 =>
 cnd g1
 (HT prg 129 [(σ1 0), (σ1 1), (σ1 2)].toArray H1 fun i1 H92 =>
 ob (vInt .sub (σ1 3) (.int .i64 1)) fun j1 =>
 J9 (up (up (up (up (up (up (up (up (up (up (up (up (up (up (up (up (up σ1 19 (σ1 2)) 20 (σ1 1)) 21 b) 10 b) 22 b) 23 c) 28 (σ1 3)) 29 e) 34 (σ1 8)) 35 g1) 36 (σ1 0)) 37 (σ1 1)) 38 (σ1 2)) 39 i1) 40 (σ1 3)) 41 j1) 3 j1) H92)
 (J9 (up (up (up (up (up (up (up (up (up (up σ1 19 (σ1 2)) 20 (σ1 1)) 21 b) 10 b) 22 b) 23 c) 28 (σ1 3)) 29 e) 34 (σ1 8)) 35 g1) H1)))) (blkQ 0 (retQ prg [] K)) (up (up (S0 [a0, a1, a2, a3]) 8 (.bool true)) 9 (.bool true)) H
def O.q107 : Nat → Nat × List Nat := fun i => bif Nat.beq i 17 then (0, [0, 1, 2, 3, 4, 5, 6, 7, 8, 9, 10, 11, 12, 13, 14]) else (0, [])
theorem R.q107 (h : F.q107 a0 a1 a2 a3 H K) : HT prg 107 [a0, a1, a2, a3].toArray H K :=
 HT_of_eq O.q107 mixed Tryz.func107 (by kernel_rfl) (by kernel_rfl) h
def F.q69 (a0 : Value) (H : Hp) (K : Value → Hp → Prop) : Prop :=
 ob (vLenSl a0) fun b =>
 ob (vCI .u64 b) fun c =>
 HT prg 108 [c].toArray H fun d H4 =>
 HT prg 107 [a0, (.int .i64 0), b, d].toArray H4 fun e H6 =>
 K (.tuple #[]) H6
theorem R.q69 (h : F.q69 a0 H K) : HT prg 69 [a0].toArray H K :=
 HT_of_eq O0 mixed Tryz.func69 (by kernel_rfl) (by kernel_rfl) h
end Go.Proofs.YtnijdhlmimemcaaGreatDoor
/- Functions' texts over a partial heap. -/
namespace Go.Proofs.YtnijdhlmimemcaaGreatDoor
open HL
variable {a0 a1 a2 a3 a4 : Value} {H : Hp} {K : Value → Hp → Prop}
set_option linter.unusedVariables false
set_option maxRecDepth 100000
set_option maxHeartbeats 4000000
def F.q27 (a0 : Value) (H : Hp) (K : Value → Hp → Prop) : Prop :=
 nw (a0 : Value).cells 36 H fun b H2 =>
 ob (vLoadN 3 b H2) fun c =>
 HT prg 67 [c].toArray H2 fun d H5 =>
 ob (vExt d 0) fun e =>
 ob (vExt d 1) fun f =>
 ob (vExt d 2) fun g =>
 ob (vUn .not g) fun i =>
 cnd i
 (K (.tuple #[(.slice none 0 0), (.slice none 0 0), (.bool false)]) H5)
 (bS 1 0 #[(.string ⟨#[]⟩)] 9 [] H5 fun j H11 =>
 jn (fun σ12 H12 =>
 HT prg 69 [(σ12 8)].toArray H12 fun k H14 =>
 bS 1 0 #[(.string ⟨#[]⟩)] 9 [] H14 fun l H16 =>
 bS 1 0 #[(.int .i64 0)] 2 [] H16 fun m H18 =>
 jn (fun σ19 H19 =>
 ob (vLenSl (σ19 11)) fun n =>
 ob (vInt .gtr n (.int .i64 64)) fun p =>
 cnd p
 (K (.tuple #[(.slice none 0 0), (.slice none 0 0), (.bool false)]) H19)
 (K (.tuple #[(σ19 11), (σ19 12), (.bool true)]) H19)) fun J19 =>
 ob (vLenSl (σ12 8)) fun q =>
 lpE (fun Q23 σ23 H23 =>
 ob (vInt .lss (σ23 42) (σ23 41)) fun r =>
 cnd r
 (ob (vIx 1 (σ23 40) (σ23 42)) fun s =>
 ob (vLoad s H23) fun t =>
 ob (vLenSl (σ23 11)) fun w =>
 ob (vInt .eql w (.int .i64 0)) fun x =>
 gop x false (fun K29 => K29 (σ23 11) H23) H23 fun y H31 =>
 gop x false (fun K32 => K32 (σ23 11) H31) H31 fun z H34 =>
 gop x false (fun K35 => ob (vLenSl z) fun u => K35 u H34) H34 fun b0 H37 =>
 gop x false (fun K38 => ob (vInt .sub b0 (.int .i64 1)) fun u => K38 u H37) H37 fun c0 H40 =>
 gop x false (fun K41 => ob (vIx 1 y c0) fun u => K41 u H40) H40 fun d0 H43 =>
 gop x false (fun K44 => ob (vLoad d0 H43) fun u => K44 u H43) H43 fun e0 H46 =>
 gop x false (fun K47 => K47 t H46) H46 fun f0 H49 =>
 gop x false (fun K50 => ob (vStr .neq e0 f0) fun u => K50 u H49) H49 fun g0 H52 =>
 ob (vPick x (.bool true) g0) fun i0 =>
 cnd i0
 (bS 1 1 #[(.string ⟨#[]⟩)] 9 [(0, t)] H52 fun j0 H55 =>
 apd 1 16 #[(.string ⟨#[]⟩)] 9 (σ23 11) j0 H55 fun k0 H57 =>
 bS 1 1 #[(.int .i64 0)] 2 [(0, (.int .i64 0))] H57 fun l0 H59 =>
 apd 1 8 #[(.int .i64 0)] 2 (σ23 12) l0 H59 fun m0 H61 =>
 ob (vLenSl m0) fun n0 =>
 ob (vInt .sub n0 (.int .i64 1)) fun p0 =>
 ob (vIx 1 m0 p0) fun q0 =>
 ob (vLoad q0 H61) fun r0 =>
 ob (vInt .add r0 (.int .i64 1)) fun s0 =>
 ob (vIx 1 m0 p0) fun t0 =>
 st 1 t0 s0 H61 fun H68 =>
 ob (vInt .add (σ23 42) (.int .i64 1)) fun w0 =>
 Q23 .normal (up (up (up (up (up (up (up (up (up (up (up (up (up (up (up (up (up (up (up (up (up (up (up (up (up (up (up (up (up (up (up (up (up (up (up (up σ23 43 r) 44 s) 45 t) 14 t) 46 (σ23 11)) 47 w) 48 x) 49 x) 50 y) 51 z) 52 b0) 53 c0) 54 d0) 55 e0) 56 f0) 57 g0) 58 i0) 59 (σ23 11)) 60 t) 61 j0) 62 k0) 63 (σ23 12)) 64 l0) 65 m0) 11 k0) 12 m0) 66 m0) 67 m0) 68 n0) 69 p0) 70 q0) 71 r0) 72 s0) 73 t0) 74 w0) 42 w0) H68)
 (ob (vLenSl (σ23 12)) fun x0 =>
 ob (vInt .sub x0 (.int .i64 1)) fun y0 =>
 ob (vIx 1 (σ23 12) y0) fun z0 =>
 ob (vLoad z0 H52) fun b1 =>
 ob (vInt .add b1 (.int .i64 1)) fun c1 =>
 ob (vIx 1 (σ23 12) y0) fun d1 =>
 st 1 d1 c1 H52 fun H76 =>
 ob (vInt .add (σ23 42) (.int .i64 1)) fun e1 =>
 Q23 .normal (up (up (up (up (up (up (up (up (up (up (up (up (up (up (up (up (up (up (up (up (up (up (up (up (up (up (up σ23 43 r) 44 s) 45 t) 14 t) 46 (σ23 11)) 47 w) 48 x) 49 x) 50 y) 51 z) 52 b0) 53 c0) 54 d0) 55 e0) 56 f0) 57 g0) 58 i0) 66 (σ23 12)) 67 (σ23 12)) 68 x0) 69 y0) 70 z0) 71 b1) 72 c1) 73 d1) 74 e1) 42 e1) H76))
 (Q23 (.exit 2) (up σ23 43 r) H23)) (blkQ 2 (thenQ J19 (retQ prg [(.tmp 2), (.tmp 3), (.tmp 4)] K))) (up (up (up (up (up (up (up (up (up σ12 36 (σ12 8)) 37 k) 38 l) 39 m) 11 l) 12 m) 40 (σ12 8)) 41 q) 42 (.int .i64 0)) H18) fun J12 =>
 ob (vLenSl e) fun f1 =>
 lpE (fun Q79 σ79 H79 =>
 ob (vInt .lss (σ79 26) (σ79 25)) fun g1 =>
 cnd g1
 (ob (vIx 3 (σ79 24) (σ79 26)) fun i1 =>
 ob (vLoadN 3 i1 H79) fun j1 =>
 nw #[(.int .i64 0), (.int .i64 0), (.slice none 0 0)] 36 H79 fun k1 H84 =>
 st 3 k1 j1 H84 fun H85 =>
 ob (vLoadN 3 k1 H85) fun l1 =>
 HT prg 68 [l1].toArray H85 fun m1 H88 =>
 bS 1 1 #[(.string ⟨#[]⟩)] 9 [(0, m1)] H88 fun n1 H90 =>
 apd 1 16 #[(.string ⟨#[]⟩)] 9 (σ79 8) n1 H90 fun p1 H92 =>
 ob (vInt .add (σ79 26) (.int .i64 1)) fun q1 =>
 Q79 .normal (up (up (up (up (up (up (up (up (up (up (up (up σ79 27 g1) 28 i1) 29 j1) 10 k1) 30 (σ79 8)) 31 l1) 32 m1) 33 n1) 34 p1) 8 p1) 35 q1) 26 q1) H92)
 (Q79 (.exit 0) (up σ79 27 g1) H79)) (blkQ 0 (thenQ J12 (retQ prg [(.tmp 2), (.tmp 3), (.tmp 4)] K))) (up (up (up (up (up (up (up (up (up (up (up (up (up (up (up (up (up (up (up (up (S0 [a0]) 1 b) 2 (.slice none 0 0)) 3 (.slice none 0 0)) 4 (.bool false)) 16 c) 17 d) 15 d) 18 e) 19 f) 20 g) 5 e) 6 f) 7 g) 21 g) 22 i) 23 j) 8 j) 24 e) 25 f1) 26 (.int .i64 0)) H11)
theorem R.q27 (h : F.q27 a0 H K) : HT prg 27 [a0].toArray H K :=
 HT_of_eq O0 mixed Tryz.func27 (by kernel_rfl) (by kernel_rfl) h
def F.q38 (a0 a1 a2 : Value) (H : Hp) (K : Value → Hp → Prop) : Prop :=
 ob (vInt .geq a0 a1) fun b =>
 gop b true (fun K2 => K2 a0 H) H fun c H4 =>
 gop b true (fun K5 => K5 a2 H4) H4 fun d H7 =>
 gop b true (fun K8 => ob (vInt .leq c d) fun u => K8 u H7) H7 fun e H10 =>
 ob (vPick b e (.bool false)) fun f =>
 K f H10
theorem R.q38 (h : F.q38 a0 a1 a2 H K) : HT prg 38 [a0, a1, a2].toArray H K :=
 HT_of_eq O0 mixed Tryz.func38 (by kernel_rfl) (by kernel_rfl) h
def F.q39 (a0 a1 : Value) (H : Hp) (K : Value → Hp → Prop) : Prop :=
 nw #[(.int .i64 0), (.int .i64 0), (.slice none 0 0)] 36 H fun b H2 =>
 ob (vInt .mul a0 a1) fun c =>
 mkS 1 8 #[(.int .i64 0)] 2 c c H2 fun d H5 =>
 ob (vBuild [(0, 1), (1, 1), (2, 1)] (.agg #[(.int .i64 0), (.int .i64 0), (.slice none 0 0)]) [(0, a0), (1, a1), (2, d)]) fun e =>
 st 3 b e H5 fun H7 =>
 ob (vLoadN 3 b H7) fun u8 => K u8 H7
theorem R.q39 (h : F.q39 a0 a1 H K) : HT prg 39 [a0, a1].toArray H K :=
 HT_of_eq O0 mixed Tryz.func39 (by kernel_rfl) (by kernel_rfl) h
def F.q46 (a0 : Value) (H : Hp) (K : Value → Hp → Prop) : Prop :=
 nw #[(.int .i64 0), (.int .i64 0), (.slice none 0 0)] 36 H fun b H2 =>
 ob (vNilC a0) fun c =>
 ob (vFa 0 c) fun d =>
 ob (vLoad d H2) fun e =>
 ob (vNilC a0) fun f =>
 ob (vFa 1 f) fun g =>
 ob (vLoad g H2) fun i =>
 ob (vNilC a0) fun j =>
 ob (vFa 2 j) fun k =>
 ob (vLoad k H2) fun l =>
 bS 1 0 #[(.int .i64 0)] 2 [] H2 fun m H13 =>
 apd 1 8 #[(.int .i64 0)] 2 m l H13 fun n H15 =>
 Le H13 H15 ∧ (ob (vBuild [(0, 1), (1, 1), (2, 1)] (.agg #[(.int .i64 0), (.int .i64 0), (.slice none 0 0)]) [(0, e), (1, i), (2, n)]) fun p =>
 st 3 b p H15 fun H17 =>
 ob (vLoadN 3 b H17) fun u18 => K u18 H17)
def O.q46 : Nat → Nat × List Nat := fun i => bif Nat.beq i 1 then (1, [0, 1, 2, 3, 4, 5, 6, 7, 9, 10, 11, 12, 8, 13, 14, 15]) else (0, [])
theorem R.q46 (h : F.q46 a0 H K) : HT prg 46 [a0].toArray H K :=
 HT_of_eq O.q46 mixed Tryz.func46 (by kernel_rfl) (by kernel_rfl) h
def F.q117 (a0 a1 a2 : Value) (H : Hp) (K : Value → Hp → Prop) : Prop :=
 ob (vNilC a0) fun b =>
 ob (vFa 0 b) fun c =>
 ob (vLoad c H) fun d =>
 ob (vInt .rem a1 d) fun e =>
 ob (vNilC a0) fun f =>
 ob (vFa 0 f) fun g =>
 ob (vLoad g H) fun i =>
 ob (vInt .add e i) fun j =>
 ob (vNilC a0) fun k =>
 ob (vFa 0 k) fun l =>
 ob (vLoad l H) fun m =>
 ob (vInt .rem j m) fun n =>
 ob (vNilC a0) fun p =>
 ob (vFa 1 p) fun q =>
 ob (vLoad q H) fun r =>
 ob (vInt .rem a2 r) fun s =>
 ob (vNilC a0) fun t =>
 ob (vFa 1 t) fun w =>
 ob (vLoad w H) fun x =>
 ob (vInt .add s x) fun y =>
 ob (vNilC a0) fun z =>
 ob (vFa 1 z) fun b0 =>
 ob (vLoad b0 H) fun c0 =>
 ob (vInt .rem y c0) fun d0 =>
 ob (vNilC a0) fun e0 =>
 ob (vFa 1 e0) fun f0 =>
 ob (vLoad f0 H) fun g0 =>
 ob (vInt .mul n g0) fun i0 =>
 ob (vInt .add i0 d0) fun j0 =>
 K j0 H
def O.q117 : Nat → Nat × List Nat := fun i => bif Nat.beq i 1 then (0, [0, 1, 2, 3, 4, 5, 6, 7, 8, 9, 10, 11, 12, 13, 14, 15, 16]) else bif Nat.beq i 2 then (0, [0, 1, 2, 3, 4, 5, 6, 7, 8, 9, 10, 11, 12, 13, 14, 15, 16]) else (0, [])
theorem R.q117 (h : F.q117 a0 a1 a2 H K) : HT prg 117 [a0, a1, a2].toArray H K :=
 HT_of_eq O.q117 mixed Tryz.func117 (by kernel_rfl) (by kernel_rfl) h
def F.q82 (a0 a1 a2 a3 : Value) (H : Hp) (K : Value → Hp → Prop) : Prop :=
 jn (fun σ1 H1 =>
 K (σ1 9) H1) fun J1 =>
 ob (vInt .sub a1 (.int .i64 1)) fun b =>
 lpE (fun Q3 σ3 H3 =>
 ob (vInt .add (σ3 1) (.int .i64 1)) fun c =>
 ob (vInt .leq (σ3 10) c) fun d =>
 cnd d
 (jn (fun σ6 H6 =>
 ob (vInt .add (σ6 10) (.int .i64 1)) fun e =>
 Q3 .normal (up (up (up σ6 18 (σ6 10)) 19 e) 10 e) H6) fun J6 =>
 ob (vInt .sub (σ3 2) (.int .i64 1)) fun f =>
 lpE (fun Q9 σ9 H9 =>
 ob (vInt .add (σ9 2) (.int .i64 1)) fun g =>
 ob (vInt .leq (σ9 11) g) fun i =>
 cnd i
 (ob (vInt .eql (σ9 10) (σ9 1)) fun j =>
 gop j true (fun K13 => K13 (σ9 11) H9) H9 fun k H15 =>
 gop j true (fun K16 => K16 (σ9 2) H15) H15 fun l H18 =>
 gop j true (fun K19 => ob (vInt .eql k l) fun u => K19 u H18) H18 fun m H21 =>
 ob (vPick j m (.bool false)) fun n =>
 cnd n
 (ob (vInt .add (σ9 11) (.int .i64 1)) fun p =>
 Q9 .normal (up (up (up (up (up (up (up (up (up (up (up (up (up (up (up σ9 22 (σ9 11)) 23 (σ9 2)) 24 g) 25 i) 28 (σ9 10)) 29 (σ9 1)) 30 j) 31 j) 32 k) 33 l) 34 m) 35 n) 26 (σ9 11)) 27 p) 11 p) H21)
 (gop (σ9 3) false (fun K24 => K24 (σ9 10) H21) H21 fun q H26 =>
 gop (σ9 3) false (fun K27 => K27 (σ9 0) H26) H26 fun r H29 =>
 gop (σ9 3) false (fun K30 => ob (vNilC r) fun u => K30 u H29) H29 fun s H32 =>
 gop (σ9 3) false (fun K33 => ob (vFa 0 s) fun u => K33 u H32) H32 fun t H35 =>
 gop (σ9 3) false (fun K36 => ob (vLoad t H35) fun u => K36 u H35) H35 fun w H38 =>
 gop (σ9 3) false (fun K39 => ob (vInt .sub w (.int .i64 1)) fun u => K39 u H38) H38 fun x H41 =>
 gop (σ9 3) false (fun K42 => HT prg 38 [q, (.int .i64 0), x].toArray H41 K42) H41 fun y H44 =>
 gop (σ9 3) false (fun K45 => K45 y H44) H44 fun z H47 =>
 gop z true (fun K48 => K48 (σ9 11) H47) H47 fun b0 H50 =>
 gop z true (fun K51 => K51 (σ9 0) H50) H50 fun c0 H53 =>
 gop z true (fun K54 => ob (vNilC c0) fun u => K54 u H53) H53 fun d0 H56 =>
 gop z true (fun K57 => ob (vFa 1 d0) fun u => K57 u H56) H56 fun e0 H59 =>
 gop z true (fun K60 => ob (vLoad e0 H59) fun u => K60 u H59) H59 fun f0 H62 =>
 gop z true (fun K63 => ob (vInt .sub f0 (.int .i64 1)) fun u => K63 u H62) H62 fun g0 H65 =>
 gop z true (fun K66 => HT prg 38 [b0, (.int .i64 0), g0].toArray H65 K66) H65 fun i0 H68 =>
 gop (σ9 3) false (fun K69 => ob (vPick z i0 (.bool false)) fun u => K69 u H68) H68 fun j0 H71 =>
 ob (vPick (σ9 3) (.bool true) j0) fun k0 =>
 cnd k0
 (ob (vNilC (σ9 0)) fun l0 =>
 ob (vFa 2 l0) fun m0 =>
 ob (vLoad m0 H71) fun n0 =>
 HT prg 117 [(σ9 0), (σ9 10), (σ9 11)].toArray H71 fun p0 H77 =>
 Le H71 H77 ∧ (ob (vIx 1 n0 p0) fun q0 =>
 ob (vLoad q0 H77) fun r0 =>
 ob (vInt .add (σ9 9) r0) fun s0 =>
 ob (vInt .add (σ9 11) (.int .i64 1)) fun t0 =>
 Q9 .normal (up (up (up (up (up (up (up (up (up (up (up (up (up (up (up (up (up (up (up (up (up (up (up (up (up (up (up (up (up (up (up (up (up (up (up (up (up (up (up (up (up (up (up (up (up (up (up σ9 22 (σ9 11)) 23 (σ9 2)) 24 g) 25 i) 28 (σ9 10)) 29 (σ9 1)) 30 j) 31 j) 32 k) 33 l) 34 m) 35 n) 36 (σ9 3)) 37 (σ9 3)) 38 q) 39 r) 40 s) 41 t) 42 w) 43 x) 44 y) 45 z) 46 b0) 47 c0) 48 d0) 49 e0) 50 f0) 51 g0) 52 i0) 53 j0) 54 k0) 55 (σ9 9)) 56 (σ9 0)) 57 l0) 58 m0) 59 n0) 60 (σ9 0)) 61 (σ9 10)) 62 (σ9 11)) 63 p0) 64 q0) 65 r0) 66 s0) 9 s0) 26 (σ9 11)) 27 t0) 11 t0) H77))
 (ob (vInt .add (σ9 11) (.int .i64 1)) fun w0 =>
 Q9 .normal (up (up (up (up (up (up (up (up (up (up (up (up (up (up (up (up (up (up (up (up (up (up (up (up (up (up (up (up (up (up (up (up (up (up σ9 22 (σ9 11)) 23 (σ9 2)) 24 g) 25 i) 28 (σ9 10)) 29 (σ9 1)) 30 j) 31 j) 32 k) 33 l) 34 m) 35 n) 36 (σ9 3)) 37 (σ9 3)) 38 q) 39 r) 40 s) 41 t) 42 w) 43 x) 44 y) 45 z) 46 b0) 47 c0) 48 d0) 49 e0) 50 f0) 51 g0) 52 i0) 53 j0) 54 k0) 26 (σ9 11)) 27 w0) 11 w0) H71)))
 (Q9 (.exit 2) (up (up (up (up σ9 22 (σ9 11)) 23 (σ9 2)) 24 g) 25 i) H9)) (blkQ 2 (blkQ 1 (thenQ J6 Q3))) (up (up (up (up (up (up (up σ3 14 (σ3 10)) 15 (σ3 1)) 16 c) 17 d) 20 (σ3 2)) 21 f) 11 f) H3)
 (Q3 (.exit 0) (up (up (up (up σ3 14 (σ3 10)) 15 (σ3 1)) 16 c) 17 d) H3)) (blkQ 0 (thenQ J1 (retQ prg [(.tmp 8)] K))) (up (up (up (up (up (S0 [a0, a1, a2, a3]) 8 (.int .i64 0)) 9 (.int .i64 0)) 12 a1) 13 b) 10 b) H
def O.q82 : Nat → Nat × List Nat := fun i => bif Nat.beq i 10 then (0, [0, 1, 2, 3, 4, 5, 6, 7, 8, 9, 10, 11, 12]) else (0, [])
theorem R.q82 (h : F.q82 a0 a1 a2 a3 H K) : HT prg 82 [a0, a1, a2, a3].toArray H K :=
 HT_of_eq O.q82 mixed Tryz.func82 (by kernel_rfl) (by kernel_rfl) h
def F.q83 (a0 a1 : Value) (H : Hp) (K : Value → Hp → Prop) : Prop :=
 jn (fun σ1 H1 =>
 K (.bool false) H1) fun J1 =>
 lpE (fun Q2 σ2 H2 =>
 ob (vLenSl (σ2 0)) fun b =>
 ob (vInt .lss (σ2 5) b) fun c =>
 cnd c
 (ob (vIx 1 (σ2 0) (σ2 5)) fun d =>
 ob (vLoad d H2) fun e =>
 ob (vInt .eql e (σ2 1)) fun f =>
 cnd f
 (Q2 .ret (up (up (up (up (up (up (up (up (up (up (up σ2 6 (σ2 5)) 7 (σ2 0)) 8 b) 9 c) 12 (σ2 0)) 13 (σ2 5)) 14 d) 15 e) 16 (σ2 1)) 17 f) 4 (.bool true)) H2)
 (ob (vInt .add (σ2 5) (.int .i64 1)) fun g =>
 Q2 .normal (up (up (up (up (up (up (up (up (up (up (up (up (up σ2 6 (σ2 5)) 7 (σ2 0)) 8 b) 9 c) 12 (σ2 0)) 13 (σ2 5)) 14 d) 15 e) 16 (σ2 1)) 17 f) 10 (σ2 5)) 11 g) 5 g) H2))
 (Q2 (.exit 0) (up (up (up (up σ2 6 (σ2 5)) 7 (σ2 0)) 8 b) 9 c) H2)) (blkQ 0 (thenQ J1 (retQ prg [(.tmp 4)] K))) (up (up (S0 [a0, a1]) 4 (.bool false)) 5 (.int .i64 0)) H
theorem R.q83 (h : F.q83 a0 a1 H K) : HT prg 83 [a0, a1].toArray H K :=
 HT_of_eq O0 mixed Tryz.func83 (by kernel_rfl) (by kernel_rfl) h
def F.q47 (a0 a1 a2 : Value) (H : Hp) (K : Value → Hp → Prop) : Prop :=
 nw #[(.int .i64 0), (.int .i64 0), (.slice none 0 0)] 36 H fun b H2 =>
 ob (vNilC a1) fun c =>
 ob (vFa 0 c) fun d =>
 ob (vLoad d H2) fun e =>
 ob (vNilC a1) fun f =>
 ob (vFa 1 f) fun g =>
 ob (vLoad g H2) fun i =>
 HT prg 39 [e, i].toArray H2 fun j H10 =>
 Le H2 H10 ∧ (nw #[(.int .i64 0), (.int .i64 0), (.slice none 0 0)] 36 H10 fun k H12 =>
 st 3 k j H12 fun H13 =>
 jn (fun σ14 H14 =>
 ob (vLoadN 3 (σ14 7) H14) fun l =>
 st 3 (σ14 6) l H14 fun H16 =>
 ob (vLoadN 3 (σ14 6) H16) fun u17 => K u17 H16) fun J14 =>
 lpE (fun Q18 σ18 H18 =>
 ob (vNilC (σ18 1)) fun m =>
 ob (vFa 0 m) fun n =>
 ob (vLoad n H18) fun p =>
 ob (vInt .lss (σ18 8) p) fun q =>
 cnd q
 (jn (fun σ23 H23 =>
 ob (vInt .add (σ23 8) (.int .i64 1)) fun r =>
 Q18 .normal (up (up (up σ23 27 (σ23 8)) 28 r) 8 r) H23) fun J23 =>
 lpE (fun Q25 σ25 H25 =>
 ob (vNilC (σ25 1)) fun s =>
 ob (vFa 1 s) fun t =>
 ob (vLoad t H25) fun w =>
 ob (vInt .lss (σ25 9) w) fun x =>
 cnd x
 (HT prg 82 [(σ25 1), (σ25 8), (σ25 9), (σ25 2)].toArray H25 fun y H31 =>
 ob (vNilC (σ25 1)) fun z =>
 ob (vFa 1 z) fun b0 =>
 ob (vLoad b0 H31) fun c0 =>
 ob (vInt .mul (σ25 8) c0) fun d0 =>
 ob (vInt .add d0 (σ25 9)) fun e0 =>
 ob (vNilC (σ25 1)) fun f0 =>
 ob (vFa 2 f0) fun g0 =>
 ob (vLoad g0 H31) fun i0 =>
 ob (vIx 1 i0 e0) fun j0 =>
 ob (vLoad j0 H31) fun k0 =>
 ob (vInt .eql k0 (.int .i64 0)) fun l0 =>
 gop l0 true (fun K43 => K43 (σ25 0) H31) H31 fun m0 H45 =>
 gop l0 true (fun K46 => ob (vNilC m0) fun u => K46 u H45) H45 fun n0 H48 =>
 gop l0 true (fun K49 => ob (vFa 0 n0) fun u => K49 u H48) H48 fun p0 H51 =>
 gop l0 true (fun K52 => ob (vLoad p0 H51) fun u => K52 u H51) H51 fun q0 H54 =>
 gop l0 true (fun K55 => K55 y H54) H54 fun r0 H57 =>
 gop l0 true (fun K58 => HT prg 83 [q0, r0].toArray H57 K58) H57 fun s0 H60 =>
 ob (vPick l0 s0 (.bool false)) fun t0 =>
 gop t0 false (fun K62 => K62 (σ25 1) H60) H60 fun w0 H64 =>
 gop t0 false (fun K65 => ob (vNilC w0) fun u => K65 u H64) H64 fun x0 H67 =>
 gop t0 false (fun K68 => ob (vFa 2 x0) fun u => K68 u H67) H67 fun y0 H70 =>
 gop t0 false (fun K71 => ob (vLoad y0 H70) fun u => K71 u H70) H70 fun z0 H73 =>
 gop t0 false (fun K74 => K74 e0 H73) H73 fun b1 H76 =>
 gop t0 false (fun K77 => ob (vIx 1 z0 b1) fun u => K77 u H76) H76 fun c1 H79 =>
 gop t0 false (fun K80 => ob (vLoad c1 H79) fun u => K80 u H79) H79 fun d1 H82 =>
 gop t0 false (fun K83 => ob (vInt .eql d1 (.int .i64 1)) fun u => K83 u H82) H82 fun e1 H85 =>
 gop t0 false (fun K86 => K86 e1 H85) H85 fun f1 H88 =>
 gop f1 true (fun K89 => K89 (σ25 0) H88) H88 fun g1 H91 =>
 gop f1 true (fun K92 => ob (vNilC g1) fun u => K92 u H91) H91 fun i1 H94 =>
 gop f1 true (fun K95 => ob (vFa 1 i1) fun u => K95 u H94) H94 fun j1 H97 =>
 gop f1 true (fun K98 => ob (vLoad j1 H97) fun u => K98 u H97) H97 fun k1 H100 =>
 gop f1 true (fun K101 => K101 y H100) H100 fun l1 H103 =>
 gop f1 true (fun K104 => HT prg 83 [k1, l1].toArray H103 K104) H103 fun m1 H106 =>
 gop t0 false (fun K107 => ob (vPick f1 m1 (.bool false)) fun u => K107 u H106) H106 fun n1 H109 =>
 ob (vPick t0 (.bool true) n1) fun p1 =>
 cnd p1
 (ob (vFa 2 (σ25 7)) fun q1 =>
 ob (vLoad q1 H109) fun r1 =>
 ob (vIx 1 r1 e0) fun s1 =>
 st 1 s1 (.int .i64 1) H109 fun H114 =>
 ob (vInt .add (σ25 9) (.int .i64 1)) fun t1 =>
 Q25 .normal (up (up (up (up (up (up (up (up (up (up (up (up (up (up (up (up (up (up (up (up (up (up (up (up (up (up (up (up (up (up (up (up (up (up (up (up (up (up (up (up (up (up (up (up (up (up (up (up (up (up (up (up (up (up (up (up (up (up (up (up (up (up σ25 29 (σ25 9)) 30 (σ25 1)) 31 s) 32 t) 33 w) 34 x) 37 (σ25 1)) 38 (σ25 8)) 39 (σ25 9)) 40 (σ25 2)) 41 y) 10 y) 42 (σ25 8)) 43 (σ25 1)) 44 z) 45 b0) 46 c0) 47 d0) 48 (σ25 9)) 49 e0) 11 e0) 50 (σ25 1)) 51 f0) 52 g0) 53 i0) 54 e0) 55 j0) 56 k0) 57 l0) 58 l0) 59 m0) 60 n0) 61 p0) 62 q0) 63 r0) 64 s0) 65 t0) 66 t0) 67 w0) 68 x0) 69 y0) 70 z0) 71 b1) 72 c1) 73 d1) 74 e1) 75 f1) 76 g1) 77 i1) 78 j1) 79 k1) 80 l1) 81 m1) 82 n1) 83 p1) 84 q1) 85 r1) 86 e0) 87 s1) 35 (σ25 9)) 36 t1) 9 t1) H114)
 (ob (vInt .add (σ25 9) (.int .i64 1)) fun w1 =>
 Q25 .normal (up (up (up (up (up (up (up (up (up (up (up (up (up (up (up (up (up (up (up (up (up (up (up (up (up (up (up (up (up (up (up (up (up (up (up (up (up (up (up (up (up (up (up (up (up (up (up (up (up (up (up (up (up (up (up (up (up (up σ25 29 (σ25 9)) 30 (σ25 1)) 31 s) 32 t) 33 w) 34 x) 37 (σ25 1)) 38 (σ25 8)) 39 (σ25 9)) 40 (σ25 2)) 41 y) 10 y) 42 (σ25 8)) 43 (σ25 1)) 44 z) 45 b0) 46 c0) 47 d0) 48 (σ25 9)) 49 e0) 11 e0) 50 (σ25 1)) 51 f0) 52 g0) 53 i0) 54 e0) 55 j0) 56 k0) 57 l0) 58 l0) 59 m0) 60 n0) 61 p0) 62 q0) 63 r0) 64 s0) 65 t0) 66 t0) 67 w0) 68 x0) 69 y0) 70 z0) 71 b1) 72 c1) 73 d1) 74 e1) 75 f1) 76 g1) 77 i1) 78 j1) 79 k1) 80 l1) 81 m1) 82 n1) 83 p1) 35 (σ25 9)) 36 w1) 9 w1) H109))
 (Q25 (.exit 2) (up (up (up (up (up (up σ25 29 (σ25 9)) 30 (σ25 1)) 31 s) 32 t) 33 w) 34 x) H25)) (blkQ 2 (blkQ 1 (thenQ J23 Q18))) (up (up (up (up (up (up (up σ18 21 (σ18 8)) 22 (σ18 1)) 23 m) 24 n) 25 p) 26 q) 9 (.int .i64 0)) H18)
 (Q18 (.exit 0) (up (up (up (up (up (up σ18 21 (σ18 8)) 22 (σ18 1)) 23 m) 24 n) 25 p) 26 q) H18)) (blkQ 0 (thenQ J14 (retQ prg [(.cell 6 36)] K))) (up (up (up (up (up (up (up (up (up (up (up (up (S0 [a0, a1, a2]) 6 b) 12 a1) 13 c) 14 d) 15 e) 16 a1) 17 f) 18 g) 19 i) 20 j) 7 k) 8 (.int .i64 0)) H13)
def O.q47 : Nat → Nat × List Nat := fun i => bif Nat.beq i 1 then (0, [0, 1, 2, 3, 4, 5, 6, 7, 8, 9, 10]) else (0, [])
theorem R.q47 (h : F.q47 a0 a1 a2 H K) : HT prg 47 [a0, a1, a2].toArray H K :=
 HT_of_eq O.q47 mixed Tryz.func47 (by kernel_rfl) (by kernel_rfl) h
def F.q41 (a0 a1 a2 a3 : Value) (H : Hp) (K : Value → Hp → Prop) : Prop :=
 nw #[(.int .i64 0), (.int .i64 0), (.slice none 0 0)] 36 H fun b H2 =>
 HT prg 46 [a1].toArray H2 fun c H4 =>
 nw #[(.int .i64 0), (.int .i64 0), (.slice none 0 0)] 36 H4 fun d H6 =>
 st 3 d c H6 fun H7 =>
 jn (fun σ8 H8 =>
 ob (vLoadN 3 (σ8 9) H8) fun e =>
 st 3 (σ8 8) e H8 fun H10 =>
 ob (vLoadN 3 (σ8 8) H10) fun u11 => K u11 H10) fun J8 =>
 lpE (fun Q12 σ12 H12 =>
 ob (vInt .gtr (σ12 3) (.int .i64 0)) fun f =>
 cnd f
 (HT prg 47 [(σ12 0), (σ12 9), (σ12 2)].toArray H12 fun g H15 =>
 st 3 (σ12 9) g H15 fun H16 =>
 ob (vInt .sub (σ12 3) (.int .i64 1)) fun i =>
 Q12 .normal (up (up (up (up (up (up (up (up σ12 12 (σ12 3)) 13 f) 16 (σ12 0)) 17 (σ12 2)) 18 g) 14 (σ12 3)) 15 i) 3 i) H16)
 (Q12 (.exit 0) (up (up σ12 12 (σ12 3)) 13 f) H12)) (blkQ 0 (thenQ J8 (retQ prg [(.cell 8 36)] K))) (up (up (up (up (S0 [a0, a1, a2, a3]) 8 b) 10 a1) 11 c) 9 d) H7
theorem R.q41 (h : F.q41 a0 a1 a2 a3 H K) : HT prg 41 [a0, a1, a2, a3].toArray H K :=
 HT_of_eq O0 mixed Tryz.func41 (by kernel_rfl) (by kernel_rfl) h
def F.q109 (a0 : Value) (H : Hp) (K : Value → Hp → Prop) : Prop :=
 jn (fun σ1 H1 =>
 K (.bool true) H1) fun J1 =>
 lpE (fun Q2 σ2 H2 =>
 ob (vLenSl (σ2 0)) fun b =>
 ob (vInt .lss (σ2 3) b) fun c =>
 cnd c
 (ob (vIx 1 (σ2 0) (σ2 3)) fun d =>
 ob (vLoad d H2) fun e =>
 HT prg 38 [e, (.int .i64 0), (.int .i64 8)].toArray H2 fun f H8 =>
 Le H2 H8 ∧ (ob (vUn .not f) fun g =>
 gop g false (fun K10 => K10 (σ2 3) H8) H8 fun i H12 =>
 gop g false (fun K13 => ob (vInt .gtr i (.int .i64 0)) fun u => K13 u H12) H12 fun j H15 =>
 gop g false (fun K16 => K16 j H15) H15 fun k H18 =>
 gop k true (fun K19 => K19 (σ2 0) H18) H18 fun l H21 =>
 gop k true (fun K22 => K22 (σ2 3) H21) H21 fun m H24 =>
 gop k true (fun K25 => ob (vIx 1 l m) fun u => K25 u H24) H24 fun n H27 =>
 gop k true (fun K28 => ob (vLoad n H27) fun u => K28 u H27) H27 fun p H30 =>
 gop k true (fun K31 => K31 (σ2 0) H30) H30 fun q H33 =>
 gop k true (fun K34 => K34 (σ2 3) H33) H33 fun r H36 =>
 gop k true (fun K37 => ob (vInt .sub r (.int .i64 1)) fun u => K37 u H36) H36 fun s H39 =>
 gop k true (fun K40 => ob (vIx 1 q s) fun u => K40 u H39) H39 fun t H42 =>
 gop k true (fun K43 => ob (vLoad t H42) fun u => K43 u H42) H42 fun w H45 =>
 gop k true (fun K46 => ob (vInt .leq p w) fun u => K46 u H45) H45 fun x H48 =>
 gop g false (fun K49 => ob (vPick k x (.bool false)) fun u => K49 u H48) H48 fun y H51 =>
 ob (vPick g (.bool true) y) fun z =>
 cnd z
 (Q2 .ret (up (up (up (up (up (up (up (up (up (up (up (up (up (up (up (up (up (up (up (up (up (up (up (up (up (up (up σ2 4 (σ2 3)) 5 (σ2 0)) 6 b) 7 c) 10 (σ2 0)) 11 (σ2 3)) 12 d) 13 e) 14 f) 15 g) 16 g) 17 i) 18 j) 19 k) 20 l) 21 m) 22 n) 23 p) 24 q) 25 r) 26 s) 27 t) 28 w) 29 x) 30 y) 31 z) 2 (.bool false)) H51)
 (ob (vInt .add (σ2 3) (.int .i64 1)) fun b0 =>
 Q2 .normal (up (up (up (up (up (up (up (up (up (up (up (up (up (up (up (up (up (up (up (up (up (up (up (up (up (up (up (up (up σ2 4 (σ2 3)) 5 (σ2 0)) 6 b) 7 c) 10 (σ2 0)) 11 (σ2 3)) 12 d) 13 e) 14 f) 15 g) 16 g) 17 i) 18 j) 19 k) 20 l) 21 m) 22 n) 23 p) 24 q) 25 r) 26 s) 27 t) 28 w) 29 x) 30 y) 31 z) 8 (σ2 3)) 9 b0) 3 b0) H51)))
 (Q2 (.exit 0) (up (up (up (up σ2 4 (σ2 3)) 5 (σ2 0)) 6 b) 7 c) H2)) (blkQ 0 (thenQ J1 (retQ prg [(.tmp 2)] K))) (up (up (S0 [a0]) 2 (.bool false)) 3 (.int .i64 0)) H
def O.q109 : Nat → Nat × List Nat := fun i => bif Nat.beq i 4 then (0, [0, 1, 2, 3, 4, 5, 6, 7, 8, 9, 10, 11, 12, 13, 14, 15, 16, 17, 18, 19, 20, 21]) else (0, [])
theorem R.q109 (h : F.q109 a0 H K) : HT prg 109 [a0].toArray H K :=
 HT_of_eq O.q109 mixed Tryz.func109 (by kernel_rfl) (by kernel_rfl) h
def F.q70 (a0 : Value) (H : Hp) (K : Value → Hp → Prop) : Prop :=
 ob (vNilC a0) fun b =>
 ob (vFa 0 b) fun c =>
 ob (vLoad c H) fun d =>
 HT prg 109 [d].toArray H fun e H5 =>
 gop e true (fun K6 => K6 a0 H5) H5 fun f H8 =>
 gop e true (fun K9 => ob (vNilC f) fun u => K9 u H8) H8 fun g H11 =>
 gop e true (fun K12 => ob (vFa 1 g) fun u => K12 u H11) H11 fun i H14 =>
 gop e true (fun K15 => ob (vLoad i H14) fun u => K15 u H14) H14 fun j H17 =>
 gop e true (fun K18 => HT prg 109 [j].toArray H17 K18) H17 fun k H20 =>
 ob (vPick e k (.bool false)) fun l =>
 K l H20
theorem R.q70 (h : F.q70 a0 H K) : HT prg 70 [a0].toArray H K :=
 HT_of_eq O0 mixed Tryz.func70 (by kernel_rfl) (by kernel_rfl) h
def F.q92 (a0 a1 : Value) (H : Hp) (K : Value → Hp → Prop) : Prop :=
 ob (vInt .gtr a0 a1) fun b =>
 cnd b
 (K a0 H)
 (K a1 H)
theorem R.q92 (h : F.q92 a0 a1 H K) : HT prg 92 [a0, a1].toArray H K :=
 HT_of_eq O0 mixed Tryz.func92 (by kernel_rfl) (by kernel_rfl) h
def F.q138 (a0 a1 : Value) (H : Hp) (K : Value → Hp → Prop) : Prop :=
 ob (vInt .lss a0 a1) fun b =>
 cnd b
 (K a0 H)
 (K a1 H)
theorem R.q138 (h : F.q138 a0 a1 H K) : HT prg 138 [a0, a1].toArray H K :=
 HT_of_eq O0 mixed Tryz.func138 (by kernel_rfl) (by kernel_rfl) h
def F.q139 (a0 a1 a2 a3 a4 : Value) (H : Hp) (K : Value → Hp → Prop) : Prop :=
 nw #[(.int .i64 0), (.int .i64 0), (.slice none 0 0)] 36 H fun b H2 =>
 HT prg 39 [a3, a4].toArray H2 fun c H4 =>
 nw #[(.int .i64 0), (.int .i64 0), (.slice none 0 0)] 36 H4 fun d H6 =>
 st 3 d c H6 fun H7 =>
 jn (fun σ8 H8 =>
 ob (vLoadN 3 (σ8 11) H8) fun e =>
 st 3 (σ8 10) e H8 fun H10 =>
 ob (vLoadN 3 (σ8 10) H10) fun u11 => K u11 H10) fun J8 =>
 lpE (fun Q12 σ12 H12 =>
 ob (vInt .lss (σ12 12) (σ12 3)) fun f =>
 cnd f
 (jn (fun σ14 H14 =>
 ob (vInt .add (σ14 12) (.int .i64 1)) fun g =>
 Q12 .normal (up (up (up σ14 20 (σ14 12)) 21 g) 12 g) H14) fun J14 =>
 lpE (fun Q16 σ16 H16 =>
 ob (vInt .lss (σ16 13) (σ16 4)) fun i =>
 cnd i
 (ob (vFa 2 (σ16 11)) fun j =>
 ob (vLoad j H16) fun k =>
 ob (vInt .mul (σ16 12) (σ16 4)) fun l =>
 ob (vInt .add l (σ16 13)) fun m =>
 ob (vNilC (σ16 0)) fun n =>
 ob (vFa 2 n) fun p =>
 ob (vLoad p H16) fun q =>
 ob (vInt .add (σ16 1) (σ16 12)) fun r =>
 ob (vNilC (σ16 0)) fun s =>
 ob (vFa 1 s) fun t =>
 ob (vLoad t H16) fun w =>
 ob (vInt .mul r w) fun x =>
 ob (vInt .add x (σ16 2)) fun y =>
 ob (vInt .add y (σ16 13)) fun z =>
 ob (vIx 1 q z) fun b0 =>
 ob (vLoad b0 H16) fun c0 =>
 ob (vIx 1 k m) fun d0 =>
 st 1 d0 c0 H16 fun H35 =>
 ob (vInt .add (σ16 13) (.int .i64 1)) fun e0 =>
 Q16 .normal (up (up (up (up (up (up (up (up (up (up (up (up (up (up (up (up (up (up (up (up (up (up (up (up (up (up (up (up (up (up (up (up σ16 22 (σ16 13)) 23 (σ16 4)) 24 i) 27 j) 28 k) 29 (σ16 12)) 30 (σ16 4)) 31 l) 32 (σ16 13)) 33 m) 34 (σ16 0)) 35 n) 36 p) 37 q) 38 (σ16 1)) 39 (σ16 12)) 40 r) 41 (σ16 0)) 42 s) 43 t) 44 w) 45 x) 46 (σ16 2)) 47 y) 48 (σ16 13)) 49 z) 50 b0) 51 c0) 52 d0) 25 (σ16 13)) 26 e0) 13 e0) H35)
 (Q16 (.exit 2) (up (up (up σ16 22 (σ16 13)) 23 (σ16 4)) 24 i) H16)) (blkQ 2 (blkQ 1 (thenQ J14 Q12))) (up (up (up (up σ12 17 (σ12 12)) 18 (σ12 3)) 19 f) 13 (.int .i64 0)) H12)
 (Q12 (.exit 0) (up (up (up σ12 17 (σ12 12)) 18 (σ12 3)) 19 f) H12)) (blkQ 0 (thenQ J8 (retQ prg [(.cell 10 36)] K))) (up (up (up (up (up (up (S0 [a0, a1, a2, a3, a4]) 10 b) 14 a3) 15 a4) 16 c) 11 d) 12 (.int .i64 0)) H7
def O.q139 : Nat → Nat × List Nat := fun i => bif Nat.beq i 8 then (0, [0, 1, 2, 3, 4, 5, 6, 7, 8, 9, 10, 11, 12, 13, 14, 15, 16, 17, 18, 19, 20, 21, 22, 23, 24, 25, 26]) else (0, [])
theorem R.q139 (h : F.q139 a0 a1 a2 a3 a4 H K) : HT prg 139 [a0, a1, a2, a3, a4].toArray H K :=
 HT_of_eq O.q139 mixed Tryz.func139 (by kernel_rfl) (by kernel_rfl) h
def F.q110 (a0 : Value) (H : Hp) (K : Value → Hp → Prop) : Prop :=
 nw #[(.int .i64 0), (.int .i64 0), (.slice none 0 0)] 36 H fun b H2 =>
 ob (vNilC a0) fun c =>
 ob (vFa 0 c) fun d =>
 ob (vLoad d H2) fun e =>
 ob (vNilC a0) fun f =>
 ob (vFa 1 f) fun g =>
 ob (vLoad g H2) fun i =>
 jn (fun σ9 H9 =>
 ob (vInt .lss (σ9 7) (.int .i64 0)) fun j =>
 cnd j
 (ob (vBuild [(0, 1), (1, 1), (2, 1)] (.agg #[(.int .i64 0), (.int .i64 0), (.slice none 0 0)]) []) fun k =>
 st 3 (σ9 2) k H9 fun H12 =>
 ob (vLoadN 3 (σ9 2) H12) fun u13 => K (.tuple #[u13, (.int .i64 0), (.int .i64 0), (.bool false)]) H12)
 (ob (vInt .sub (σ9 7) (σ9 6)) fun l =>
 ob (vInt .add l (.int .i64 1)) fun m =>
 ob (vInt .sub (σ9 9) (σ9 8)) fun n =>
 ob (vInt .add n (.int .i64 1)) fun p =>
 HT prg 139 [(σ9 0), (σ9 6), (σ9 8), m, p].toArray H9 fun q H19 =>
 st 3 (σ9 2) q H19 fun H20 =>
 ob (vLoadN 3 (σ9 2) H20) fun u21 => K (.tuple #[u21, (σ9 6), (σ9 8), (.bool true)]) H20)) fun J9 =>
 lpE (fun Q22 σ22 H22 =>
 ob (vNilC (σ22 0)) fun r =>
 ob (vFa 0 r) fun s =>
 ob (vLoad s H22) fun t =>
 ob (vInt .lss (σ22 10) t) fun w =>
 cnd w
 (jn (fun σ27 H27 =>
 ob (vInt .add (σ27 10) (.int .i64 1)) fun x =>
 Q22 .normal (up (up (up σ27 26 (σ27 10)) 27 x) 10 x) H27) fun J27 =>
 lpE (fun Q29 σ29 H29 =>
 ob (vNilC (σ29 0)) fun y =>
 ob (vFa 1 y) fun z =>
 ob (vLoad z H29) fun b0 =>
 ob (vInt .lss (σ29 11) b0) fun c0 =>
 cnd c0
 (ob (vNilC (σ29 0)) fun d0 =>
 ob (vFa 2 d0) fun e0 =>
 ob (vLoad e0 H29) fun f0 =>
 ob (vNilC (σ29 0)) fun g0 =>
 ob (vFa 1 g0) fun i0 =>
 ob (vLoad i0 H29) fun j0 =>
 ob (vInt .mul (σ29 10) j0) fun k0 =>
 ob (vInt .add k0 (σ29 11)) fun l0 =>
 ob (vIx 1 f0 l0) fun m0 =>
 ob (vLoad m0 H29) fun n0 =>
 ob (vInt .eql n0 (.int .i64 1)) fun p0 =>
 cnd p0
 (HT prg 138 [(σ29 6), (σ29 10)].toArray H29 fun q0 H46 =>
 HT prg 92 [(σ29 7), (σ29 10)].toArray H46 fun r0 H48 =>
 HT prg 138 [(σ29 8), (σ29 11)].toArray H48 fun s0 H50 =>
 HT prg 92 [(σ29 9), (σ29 11)].toArray H50 fun t0 H52 =>
 ob (vInt .add (σ29 11) (.int .i64 1)) fun w0 =>
 Q29 .normal (up (up (up (up (up (up (up (up (up (up (up (up (up (up (up (up (up (up (up (up (up (up (up (up (up (up (up (up (up (up (up (up (up (up (up (up (up (up (up (up σ29 28 (σ29 11)) 29 (σ29 0)) 30 y) 31 z) 32 b0) 33 c0) 36 (σ29 0)) 37 d0) 38 e0) 39 f0) 40 (σ29 10)) 41 (σ29 0)) 42 g0) 43 i0) 44 j0) 45 k0) 46 (σ29 11)) 47 l0) 48 m0) 49 n0) 50 p0) 51 (σ29 6)) 52 (σ29 10)) 53 q0) 6 q0) 54 (σ29 7)) 55 (σ29 10)) 56 r0) 7 r0) 57 (σ29 8)) 58 (σ29 11)) 59 s0) 8 s0) 60 (σ29 9)) 61 (σ29 11)) 62 t0) 9 t0) 34 (σ29 11)) 35 w0) 11 w0) H52)
 (ob (vInt .add (σ29 11) (.int .i64 1)) fun x0 =>
 Q29 .normal (up (up (up (up (up (up (up (up (up (up (up (up (up (up (up (up (up (up (up (up (up (up (up (up σ29 28 (σ29 11)) 29 (σ29 0)) 30 y) 31 z) 32 b0) 33 c0) 36 (σ29 0)) 37 d0) 38 e0) 39 f0) 40 (σ29 10)) 41 (σ29 0)) 42 g0) 43 i0) 44 j0) 45 k0) 46 (σ29 11)) 47 l0) 48 m0) 49 n0) 50 p0) 34 (σ29 11)) 35 x0) 11 x0) H29))
 (Q29 (.exit 2) (up (up (up (up (up (up σ29 28 (σ29 11)) 29 (σ29 0)) 30 y) 31 z) 32 b0) 33 c0) H29)) (blkQ 2 (blkQ 1 (thenQ J27 Q22))) (up (up (up (up (up (up (up σ22 20 (σ22 10)) 21 (σ22 0)) 22 r) 23 s) 24 t) 25 w) 11 (.int .i64 0)) H22)
 (Q22 (.exit 0) (up (up (up (up (up (up σ22 20 (σ22 10)) 21 (σ22 0)) 22 r) 23 s) 24 t) 25 w) H22)) (blkQ 0 (thenQ J9 (retQ prg [(.cell 2 36), (.tmp 3), (.tmp 4), (.tmp 5)] K))) (up (up (up (up (up (up (up (up (up (up (up (up (up (up (up (up (up (S0 [a0]) 2 b) 3 (.int .i64 0)) 4 (.int .i64 0)) 5 (.bool false)) 12 a0) 13 c) 14 d) 15 e) 6 e) 7 (.int .i64 (-1))) 16 a0) 17 f) 18 g) 19 i) 8 i) 9 (.int .i64 (-1))) 10 (.int .i64 0)) H2
def O.q110 : Nat → Nat × List Nat := fun i => bif Nat.beq i 11 then (0, [0, 1, 2, 3, 4, 5, 6, 7, 8, 9, 10, 11, 12, 13, 14]) else (0, [])
theorem R.q110 (h : F.q110 a0 H K) : HT prg 110 [a0].toArray H K :=
 HT_of_eq O.q110 mixed Tryz.func110 (by kernel_rfl) (by kernel_rfl) h
def F.q71 (a0 : Value) (H : Hp) (K : Value → Hp → Prop) : Prop :=
 ob (vNilC a0) fun b =>
 ob (vFa 2 b) fun c =>
 ob (vLoad c H) fun d =>
 ob (vLenSl d) fun e =>
 mkS 1 1 #[(.bool false)] 4 e e H fun f H6 =>
 bS 3 0 #[(.int .i64 0), (.int .i64 0), (.slice none 0 0)] 36 [] H6 fun g H8 =>
 bS 1 0 #[(.int .i64 0)] 2 [] H8 fun i H10 =>
 jn (fun σ11 H11 =>
 K (.tuple #[(σ11 5), (σ11 6)]) H11) fun J11 =>
 ob (vNilC a0) fun j =>
 ob (vFa 2 j) fun k =>
 ob (vLoad k H10) fun l =>
 ob (vLenSl l) fun m =>
 lpE (fun Q16 σ16 H16 =>
 ob (vInt .lss (σ16 33) (σ16 32)) fun n =>
 cnd n
 (jn (fun σ18 H18 =>
 ob (vInt .add (σ18 33) (.int .i64 1)) fun p =>
 Q16 .normal (up (up σ18 174 p) 33 p) H18) fun J18 =>
 ob (vNilC (σ16 0)) fun q =>
 ob (vFa 2 q) fun r =>
 ob (vLoad r H16) fun s =>
 ob (vIx 1 s (σ16 33)) fun t =>
 ob (vLoad t H16) fun w =>
 ob (vInt .neq w (.int .i64 1)) fun x =>
 gop x false (fun K26 => K26 (σ16 4) H16) H16 fun y H28 =>
 gop x false (fun K29 => K29 (σ16 33) H28) H28 fun z H31 =>
 gop x false (fun K32 => ob (vIx 1 y z) fun u => K32 u H31) H31 fun b0 H34 =>
 gop x false (fun K35 => ob (vLoad b0 H34) fun u => K35 u H34) H34 fun c0 H37 =>
 ob (vPick x (.bool true) c0) fun d0 =>
 cnd d0
 (J18 (up (up (up (up (up (up (up (up (up (up (up (up (up (up (up (up (up σ16 34 n) 35 (σ16 33)) 7 (σ16 33)) 36 (σ16 0)) 37 q) 38 r) 39 s) 40 (σ16 33)) 41 t) 42 w) 43 x) 44 x) 45 y) 46 z) 47 b0) 48 c0) 49 d0) H37)
 (ob (vNilC (σ16 0)) fun e0 =>
 ob (vFa 0 e0) fun f0 =>
 ob (vLoad f0 H37) fun g0 =>
 ob (vNilC (σ16 0)) fun i0 =>
 ob (vFa 1 i0) fun j0 =>
 ob (vLoad j0 H37) fun k0 =>
 HT prg 39 [g0, k0].toArray H37 fun l0 H46 =>
 Le H37 H46 ∧ (nw #[(.int .i64 0), (.int .i64 0), (.slice none 0 0)] 36 H46 fun m0 H48 =>
 st 3 m0 l0 H48 fun H49 =>
 bS 1 1 #[(.int .i64 0)] 2 [(0, (σ16 33))] H49 fun n0 H51 =>
 ob (vIx 1 (σ16 4) (σ16 33)) fun p0 =>
 st 1 p0 (.bool true) H51 fun H53 =>
 jn (fun σ54 H54 =>
 HT prg 110 [(σ54 8)].toArray H54 fun q0 H56 =>
 ob (vExt q0 0) fun r0 =>
 ob (vExt q0 1) fun s0 =>
 ob (vExt q0 2) fun t0 =>
 ob (vExt q0 3) fun w0 =>
 nw #[(.int .i64 0), (.int .i64 0), (.slice none 0 0)] 36 H56 fun x0 H62 =>
 st 3 x0 r0 H62 fun H63 =>
 ob (vLoadN 3 x0 H63) fun y0 =>
 bS 3 1 #[(.int .i64 0), (.int .i64 0), (.slice none 0 0)] 36 [(0, y0)] H63 fun z0 H66 =>
 apd 3 40 #[(.int .i64 0), (.int .i64 0), (.slice none 0 0)] 36 (σ54 5) z0 H66 fun b1 H68 =>
 bS 1 2 #[(.int .i64 0)] 2 [(0, s0), (1, t0)] H68 fun c1 H70 =>
 apd 1 8 #[(.int .i64 0)] 2 (σ54 6) c1 H70 fun d1 H72 =>
 J18 (up (up (up (up (up (up (up (up (up (up (up (up (up (up (up (up (up (up (up (up (up σ54 160 q0) 159 q0) 161 r0) 162 s0) 163 t0) 164 w0) 16 x0) 17 s0) 18 t0) 19 w0) 165 (σ54 5)) 166 y0) 167 z0) 168 b1) 5 b1) 169 (σ54 6)) 170 s0) 171 t0) 172 c1) 173 d1) 6 d1) H72) fun J54 =>
 lpE (fun Q73 σ73 H73 =>
 ob (vLenSl (σ73 9)) fun e1 =>
 ob (vInt .lss (σ73 10) e1) fun f1 =>
 cnd f1
 (jn (fun σ76 H76 =>
 ob (vInt .add (σ76 10) (.int .i64 1)) fun g1 =>
 Q73 .normal (up (up (up σ76 68 (σ76 10)) 69 g1) 10 g1) H76) fun J76 =>
 ob (vFa 2 (σ73 8)) fun i1 =>
 ob (vLoad i1 H73) fun j1 =>
 ob (vIx 1 (σ73 9) (σ73 10)) fun k1 =>
 ob (vLoad k1 H73) fun l1 =>
 ob (vIx 1 j1 l1) fun m1 =>
 st 1 m1 (.int .i64 1) H73 fun H83 =>
 ob (vIx 1 (σ73 9) (σ73 10)) fun n1 =>
 ob (vLoad n1 H83) fun p1 =>
 ob (vNilC (σ73 0)) fun q1 =>
 ob (vFa 1 q1) fun r1 =>
 ob (vLoad r1 H83) fun s1 =>
 ob (vInt .quo p1 s1) fun t1 =>
 ob (vIx 1 (σ73 9) (σ73 10)) fun w1 =>
 ob (vLoad w1 H83) fun x1 =>
 ob (vNilC (σ73 0)) fun y1 =>
 ob (vFa 1 y1) fun z1 =>
 ob (vLoad z1 H83) fun b2 =>
 ob (vInt .rem x1 b2) fun c2 =>
 ob (vInt .sub t1 (.int .i64 1)) fun d2 =>
 lpE (fun Q97 σ97 H97 =>
 ob (vInt .add (σ97 11) (.int .i64 1)) fun e2 =>
 ob (vInt .leq (σ97 13) e2) fun f2 =>
 cnd f2
 (jn (fun σ100 H100 =>
 ob (vInt .add (σ100 13) (.int .i64 1)) fun g2 =>
 Q97 .normal (up (up (up σ100 101 (σ100 13)) 102 g2) 13 g2) H100) fun J100 =>
 ob (vInt .sub (σ97 12) (.int .i64 1)) fun i2 =>
 lpE (fun Q103 σ103 H103 =>
 ob (vInt .add (σ103 12) (.int .i64 1)) fun j2 =>
 ob (vInt .leq (σ103 14) j2) fun k2 =>
 cnd k2
 (ob (vNilC (σ103 0)) fun l2 =>
 ob (vFa 0 l2) fun m2 =>
 ob (vLoad m2 H103) fun n2 =>
 ob (vInt .sub n2 (.int .i64 1)) fun p2 =>
 HT prg 38 [(σ103 13), (.int .i64 0), p2].toArray H103 fun q2 H111 =>
 ob (vUn .not q2) fun r2 =>
 gop r2 false (fun K113 => K113 (σ103 14) H111) H111 fun s2 H115 =>
 gop r2 false (fun K116 => K116 (σ103 0) H115) H115 fun t2 H118 =>
 gop r2 false (fun K119 => ob (vNilC t2) fun u => K119 u H118) H118 fun w2 H121 =>
 gop r2 false (fun K122 => ob (vFa 1 w2) fun u => K122 u H121) H121 fun x2 H124 =>
 gop r2 false (fun K125 => ob (vLoad x2 H124) fun u => K125 u H124) H124 fun y2 H127 =>
 gop r2 false (fun K128 => ob (vInt .sub y2 (.int .i64 1)) fun u => K128 u H127) H127 fun z2 H130 =>
 gop r2 false (fun K131 => HT prg 38 [s2, (.int .i64 0), z2].toArray H130 K131) H130 fun b3 H133 =>
 gop r2 false (fun K134 => ob (vUn .not b3) fun u => K134 u H133) H133 fun c3 H136 =>
 ob (vPick r2 (.bool true) c3) fun d3 =>
 cnd d3
 (ob (vInt .add (σ103 14) (.int .i64 1)) fun e3 =>
 Q103 .normal (up (up (up (up (up (up (up (up (up (up (up (up (up (up (up (up (up (up (up (up (up (up (up (up (up σ103 105 (σ103 14)) 106 (σ103 12)) 107 j2) 108 k2) 111 (σ103 13)) 112 (σ103 0)) 113 l2) 114 m2) 115 n2) 116 p2) 117 q2) 118 r2) 119 r2) 120 s2) 121 t2) 122 w2) 123 x2) 124 y2) 125 z2) 126 b3) 127 c3) 128 d3) 109 (σ103 14)) 110 e3) 14 e3) H136)
 (ob (vNilC (σ103 0)) fun f3 =>
 ob (vFa 1 f3) fun g3 =>
 ob (vLoad g3 H136) fun i3 =>
 ob (vInt .mul (σ103 13) i3) fun j3 =>
 ob (vInt .add j3 (σ103 14)) fun k3 =>
 ob (vNilC (σ103 0)) fun l3 =>
 ob (vFa 2 l3) fun m3 =>
 ob (vLoad m3 H136) fun n3 =>
 ob (vIx 1 n3 k3) fun p3 =>
 ob (vLoad p3 H136) fun q3 =>
 ob (vInt .eql q3 (.int .i64 1)) fun r3 =>
 gop r3 true (fun K150 => K150 (σ103 4) H136) H136 fun s3 H152 =>
 gop r3 true (fun K153 => K153 k3 H152) H152 fun t3 H155 =>
 gop r3 true (fun K156 => ob (vIx 1 s3 t3) fun u => K156 u H155) H155 fun w3 H158 =>
 gop r3 true (fun K159 => ob (vLoad w3 H158) fun u => K159 u H158) H158 fun x3 H161 =>
 gop r3 true (fun K162 => ob (vUn .not x3) fun u => K162 u H161) H161 fun y3 H164 =>
 ob (vPick r3 y3 (.bool false)) fun z3 =>
 cnd z3
 (ob (vIx 1 (σ103 4) k3) fun b4 =>
 st 1 b4 (.bool true) H164 fun H167 =>
 bS 1 1 #[(.int .i64 0)] 2 [(0, k3)] H167 fun c4 H169 =>
 apd 1 8 #[(.int .i64 0)] 2 (σ103 9) c4 H169 fun d4 H171 =>
 ob (vInt .add (σ103 14) (.int .i64 1)) fun e4 =>
 Q103 .normal (up (up (up (up (up (up (up (up (up (up (up (up (up (up (up (up (up (up (up (up (up (up (up (up (up (up (up (up (up (up (up (up (up (up (up (up (up (up (up (up (up (up (up (up (up (up (up (up (up (up (up (up (up (up (up (up (up σ103 105 (σ103 14)) 106 (σ103 12)) 107 j2) 108 k2) 111 (σ103 13)) 112 (σ103 0)) 113 l2) 114 m2) 115 n2) 116 p2) 117 q2) 118 r2) 119 r2) 120 s2) 121 t2) 122 w2) 123 x2) 124 y2) 125 z2) 126 b3) 127 c3) 128 d3) 129 (σ103 13)) 130 (σ103 0)) 131 f3) 132 g3) 133 i3) 134 j3) 135 (σ103 14)) 136 k3) 15 k3) 137 (σ103 0)) 138 l3) 139 m3) 140 n3) 141 k3) 142 p3) 143 q3) 144 r3) 145 r3) 146 s3) 147 t3) 148 w3) 149 x3) 150 y3) 151 z3) 152 (σ103 4)) 153 k3) 154 b4) 155 (σ103 9)) 156 k3) 157 c4) 158 d4) 9 d4) 109 (σ103 14)) 110 e4) 14 e4) H171)
 (ob (vInt .add (σ103 14) (.int .i64 1)) fun f4 =>
 Q103 .normal (up (up (up (up (up (up (up (up (up (up (up (up (up (up (up (up (up (up (up (up (up (up (up (up (up (up (up (up (up (up (up (up (up (up (up (up (up (up (up (up (up (up (up (up (up (up (up (up (up σ103 105 (σ103 14)) 106 (σ103 12)) 107 j2) 108 k2) 111 (σ103 13)) 112 (σ103 0)) 113 l2) 114 m2) 115 n2) 116 p2) 117 q2) 118 r2) 119 r2) 120 s2) 121 t2) 122 w2) 123 x2) 124 y2) 125 z2) 126 b3) 127 c3) 128 d3) 129 (σ103 13)) 130 (σ103 0)) 131 f3) 132 g3) 133 i3) 134 j3) 135 (σ103 14)) 136 k3) 15 k3) 137 (σ103 0)) 138 l3) 139 m3) 140 n3) 141 k3) 142 p3) 143 q3) 144 r3) 145 r3) 146 s3) 147 t3) 148 w3) 149 x3) 150 y3) 151 z3) 109 (σ103 14)) 110 f4) 14 f4) H164)))
 (Q103 (.exit 6) (up (up (up (up σ103 105 (σ103 14)) 106 (σ103 12)) 107 j2) 108 k2) H103)) (blkQ 6 (blkQ 5 (thenQ J100 Q97))) (up (up (up (up (up (up (up σ97 97 (σ97 13)) 98 (σ97 11)) 99 e2) 100 f2) 103 (σ97 12)) 104 i2) 14 i2) H97)
 (Q97 (.exit 4) (up (up (up (up σ97 97 (σ97 13)) 98 (σ97 11)) 99 e2) 100 f2) H97)) (blkQ 4 (blkQ 3 (thenQ J76 Q73))) (up (up (up (up (up (up (up (up (up (up (up (up (up (up (up (up (up (up (up (up (up (up (up (up (up (up (up (up (up (up (up (up (up (up σ73 64 (σ73 10)) 65 (σ73 9)) 66 e1) 67 f1) 70 i1) 71 j1) 72 (σ73 9)) 73 (σ73 10)) 74 k1) 75 l1) 76 m1) 77 (σ73 9)) 78 (σ73 10)) 79 n1) 80 p1) 81 (σ73 0)) 82 q1) 83 r1) 84 s1) 85 t1) 11 t1) 86 (σ73 9)) 87 (σ73 10)) 88 w1) 89 x1) 90 (σ73 0)) 91 y1) 92 z1) 93 b2) 94 c2) 12 c2) 95 t1) 96 d2) 13 d2) H83)
 (Q73 (.exit 2) (up (up (up (up σ73 64 (σ73 10)) 65 (σ73 9)) 66 e1) 67 f1) H73)) (blkQ 2 (thenQ J54 (blkQ 1 (thenQ J18 Q16)))) (up (up (up (up (up (up (up (up (up (up (up (up (up (up (up (up (up (up (up (up (up (up (up (up (up (up (up (up (up (up (up (up (up (up σ16 34 n) 35 (σ16 33)) 7 (σ16 33)) 36 (σ16 0)) 37 q) 38 r) 39 s) 40 (σ16 33)) 41 t) 42 w) 43 x) 44 x) 45 y) 46 z) 47 b0) 48 c0) 49 d0) 50 (σ16 0)) 51 e0) 52 f0) 53 g0) 54 (σ16 0)) 55 i0) 56 j0) 57 k0) 58 l0) 8 m0) 59 (σ16 33)) 60 n0) 9 n0) 61 (σ16 4)) 62 (σ16 33)) 63 p0) 10 (.int .i64 0)) H53)))
 (Q16 (.exit 0) (up σ16 34 n) H16)) (blkQ 0 (thenQ J11 (retQ prg [(.tmp 2), (.tmp 3)] K))) (up (up (up (up (up (up (up (up (up (up (up (up (up (up (up (up (up (up (up (S0 [a0]) 2 (.slice none 0 0)) 3 (.slice none 0 0)) 20 a0) 21 b) 22 c) 23 d) 24 e) 25 f) 4 f) 26 g) 5 g) 27 i) 6 i) 28 a0) 29 j) 30 k) 31 l) 32 m) 33 (.int .i64 0)) H10
def O.q71 : Nat → Nat × List Nat := fun i => bif Nat.beq i 8 then (0, [0, 1, 2, 3, 4, 5, 6, 7, 8, 9, 10]) else bif Nat.beq i 14 then (0, [0, 1, 2, 3, 4, 5, 6, 7]) else bif Nat.beq i 15 then (0, [0, 1, 2, 3, 4, 5, 6, 7, 8, 9]) else bif Nat.beq i 16 then (0, [0, 1, 2, 3, 4, 5, 6, 7, 8, 9]) else (0, [])
theorem R.q71 (h : F.q71 a0 H K) : HT prg 71 [a0].toArray H K :=
 HT_of_eq O.q71 mixed Tryz.func71 (by kernel_rfl) (by kernel_rfl) h
def F.q140 (a0 : Value) (H : Hp) (K : Value → Hp → Prop) : Prop :=
 nw #[(.int .i64 0), (.int .i64 0), (.slice none 0 0)] 36 H fun b H2 =>
 ob (vNilC a0) fun c =>
 ob (vFa 1 c) fun d =>
 ob (vLoad d H2) fun e =>
 ob (vNilC a0) fun f =>
 ob (vFa 0 f) fun g =>
 ob (vLoad g H2) fun i =>
 HT prg 39 [e, i].toArray H2 fun j H10 =>
 Le H2 H10 ∧ (nw #[(.int .i64 0), (.int .i64 0), (.slice none 0 0)] 36 H10 fun k H12 =>
 st 3 k j H12 fun H13 =>
 jn (fun σ14 H14 =>
 ob (vLoadN 3 (σ14 3) H14) fun l =>
 st 3 (σ14 2) l H14 fun H16 =>
 ob (vLoadN 3 (σ14 2) H16) fun u17 => K u17 H16) fun J14 =>
 lpE (fun Q18 σ18 H18 =>
 ob (vFa 0 (σ18 3)) fun m =>
 ob (vLoad m H18) fun n =>
 ob (vInt .lss (σ18 4) n) fun p =>
 cnd p
 (jn (fun σ22 H22 =>
 ob (vInt .add (σ22 4) (.int .i64 1)) fun q =>
 Q18 .normal (up (up (up σ22 19 (σ22 4)) 20 q) 4 q) H22) fun J22 =>
 lpE (fun Q24 σ24 H24 =>
 ob (vFa 1 (σ24 3)) fun r =>
 ob (vLoad r H24) fun s =>
 ob (vInt .lss (σ24 5) s) fun t =>
 cnd t
 (ob (vFa 2 (σ24 3)) fun w =>
 ob (vLoad w H24) fun x =>
 ob (vFa 1 (σ24 3)) fun y =>
 ob (vLoad y H24) fun z =>
 ob (vInt .mul (σ24 4) z) fun b0 =>
 ob (vInt .add b0 (σ24 5)) fun c0 =>
 ob (vNilC (σ24 0)) fun d0 =>
 ob (vFa 2 d0) fun e0 =>
 ob (vLoad e0 H24) fun f0 =>
 ob (vNilC (σ24 0)) fun g0 =>
 ob (vFa 0 g0) fun i0 =>
 ob (vLoad i0 H24) fun j0 =>
 ob (vInt .sub j0 (.int .i64 1)) fun k0 =>
 ob (vInt .sub k0 (σ24 5)) fun l0 =>
 ob (vNilC (σ24 0)) fun m0 =>
 ob (vFa 1 m0) fun n0 =>
 ob (vLoad n0 H24) fun p0 =>
 ob (vInt .mul l0 p0) fun q0 =>
 ob (vInt .add q0 (σ24 4)) fun r0 =>
 ob (vIx 1 f0 r0) fun s0 =>
 ob (vLoad s0 H24) fun t0 =>
 ob (vIx 1 x c0) fun w0 =>
 st 1 w0 t0 H24 fun H50 =>
 ob (vInt .add (σ24 5) (.int .i64 1)) fun x0 =>
 Q24 .normal (up (up (up (up (up (up (up (up (up (up (up (up (up (up (up (up (up (up (up (up (up (up (up (up (up (up (up (up (up (up (up (up (up (up (up (up σ24 21 (σ24 5)) 22 r) 23 s) 24 t) 27 w) 28 x) 29 (σ24 4)) 30 y) 31 z) 32 b0) 33 (σ24 5)) 34 c0) 35 (σ24 0)) 36 d0) 37 e0) 38 f0) 39 (σ24 0)) 40 g0) 41 i0) 42 j0) 43 k0) 44 (σ24 5)) 45 l0) 46 (σ24 0)) 47 m0) 48 n0) 49 p0) 50 q0) 51 (σ24 4)) 52 r0) 53 s0) 54 t0) 55 w0) 25 (σ24 5)) 26 x0) 5 x0) H50)
 (Q24 (.exit 2) (up (up (up (up σ24 21 (σ24 5)) 22 r) 23 s) 24 t) H24)) (blkQ 2 (blkQ 1 (thenQ J22 Q18))) (up (up (up (up (up σ18 15 (σ18 4)) 16 m) 17 n) 18 p) 5 (.int .i64 0)) H18)
 (Q18 (.exit 0) (up (up (up (up σ18 15 (σ18 4)) 16 m) 17 n) 18 p) H18)) (blkQ 0 (thenQ J14 (retQ prg [(.cell 2 36)] K))) (up (up (up (up (up (up (up (up (up (up (up (up (S0 [a0]) 2 b) 6 a0) 7 c) 8 d) 9 e) 10 a0) 11 f) 12 g) 13 i) 14 j) 3 k) 4 (.int .i64 0)) H13)
def O.q140 : Nat → Nat × List Nat := fun i => bif Nat.beq i 1 then (0, [0, 1, 2, 3, 4, 5, 6, 7, 8, 9, 10]) else bif Nat.beq i 8 then (0, [0, 1, 2, 3, 4, 5, 6, 7, 8, 9, 10, 11, 12, 13, 14, 15, 16, 17, 18, 19, 20, 21, 22, 23, 24, 25, 26, 27, 28, 29]) else (0, [])
theorem R.q140 (h : F.q140 a0 H K) : HT prg 140 [a0].toArray H K :=
 HT_of_eq O.q140 mixed Tryz.func140 (by kernel_rfl) (by kernel_rfl) h
def F.q141 (a0 : Value) (H : Hp) (K : Value → Hp → Prop) : Prop :=
 nw #[(.int .i64 0), (.int .i64 0), (.slice none 0 0)] 36 H fun b H2 =>
 ob (vNilC a0) fun c =>
 ob (vFa 0 c) fun d =>
 ob (vLoad d H2) fun e =>
 ob (vNilC a0) fun f =>
 ob (vFa 1 f) fun g =>
 ob (vLoad g H2) fun i =>
 HT prg 39 [e, i].toArray H2 fun j H10 =>
 Le H2 H10 ∧ (nw #[(.int .i64 0), (.int .i64 0), (.slice none 0 0)] 36 H10 fun k H12 =>
 st 3 k j H12 fun H13 =>
 jn (fun σ14 H14 =>
 ob (vLoadN 3 (σ14 3) H14) fun l =>
 st 3 (σ14 2) l H14 fun H16 =>
 ob (vLoadN 3 (σ14 2) H16) fun u17 => K u17 H16) fun J14 =>
 lpE (fun Q18 σ18 H18 =>
 ob (vNilC (σ18 0)) fun m =>
 ob (vFa 0 m) fun n =>
 ob (vLoad n H18) fun p =>
 ob (vInt .lss (σ18 4) p) fun q =>
 cnd q
 (jn (fun σ23 H23 =>
 ob (vInt .add (σ23 4) (.int .i64 1)) fun r =>
 Q18 .normal (up (up (up σ23 21 (σ23 4)) 22 r) 4 r) H23) fun J23 =>
 lpE (fun Q25 σ25 H25 =>
 ob (vNilC (σ25 0)) fun s =>
 ob (vFa 1 s) fun t =>
 ob (vLoad t H25) fun w =>
 ob (vInt .lss (σ25 5) w) fun x =>
 cnd x
 (ob (vFa 2 (σ25 3)) fun y =>
 ob (vLoad y H25) fun z =>
 ob (vNilC (σ25 0)) fun b0 =>
 ob (vFa 1 b0) fun c0 =>
 ob (vLoad c0 H25) fun d0 =>
 ob (vInt .mul (σ25 4) d0) fun e0 =>
 ob (vInt .add e0 (σ25 5)) fun f0 =>
 ob (vNilC (σ25 0)) fun g0 =>
 ob (vFa 2 g0) fun i0 =>
 ob (vLoad i0 H25) fun j0 =>
 ob (vInt .add (σ25 4) (.int .i64 1)) fun k0 =>
 ob (vNilC (σ25 0)) fun l0 =>
 ob (vFa 1 l0) fun m0 =>
 ob (vLoad m0 H25) fun n0 =>
 ob (vInt .mul k0 n0) fun p0 =>
 ob (vInt .sub p0 (.int .i64 1)) fun q0 =>
 ob (vInt .sub q0 (σ25 5)) fun r0 =>
 ob (vIx 1 j0 r0) fun s0 =>
 ob (vLoad s0 H25) fun t0 =>
 ob (vIx 1 z f0) fun w0 =>
 st 1 w0 t0 H25 fun H50 =>
 ob (vInt .add (σ25 5) (.int .i64 1)) fun x0 =>
 Q25 .normal (up (up (up (up (up (up (up (up (up (up (up (up (up (up (up (up (up (up (up (up (up (up (up (up (up (up (up (up (up (up (up (up (up (up (up (up σ25 23 (σ25 5)) 24 (σ25 0)) 25 s) 26 t) 27 w) 28 x) 31 y) 32 z) 33 (σ25 4)) 34 (σ25 0)) 35 b0) 36 c0) 37 d0) 38 e0) 39 (σ25 5)) 40 f0) 41 (σ25 0)) 42 g0) 43 i0) 44 j0) 45 (σ25 4)) 46 k0) 47 (σ25 0)) 48 l0) 49 m0) 50 n0) 51 p0) 52 q0) 53 (σ25 5)) 54 r0) 55 s0) 56 t0) 57 w0) 29 (σ25 5)) 30 x0) 5 x0) H50)
 (Q25 (.exit 2) (up (up (up (up (up (up σ25 23 (σ25 5)) 24 (σ25 0)) 25 s) 26 t) 27 w) 28 x) H25)) (blkQ 2 (blkQ 1 (thenQ J23 Q18))) (up (up (up (up (up (up (up σ18 15 (σ18 4)) 16 (σ18 0)) 17 m) 18 n) 19 p) 20 q) 5 (.int .i64 0)) H18)
 (Q18 (.exit 0) (up (up (up (up (up (up σ18 15 (σ18 4)) 16 (σ18 0)) 17 m) 18 n) 19 p) 20 q) H18)) (blkQ 0 (thenQ J14 (retQ prg [(.cell 2 36)] K))) (up (up (up (up (up (up (up (up (up (up (up (up (S0 [a0]) 2 b) 6 a0) 7 c) 8 d) 9 e) 10 a0) 11 f) 12 g) 13 i) 14 j) 3 k) 4 (.int .i64 0)) H13)
def O.q141 : Nat → Nat × List Nat := fun i => bif Nat.beq i 1 then (0, [0, 1, 2, 3, 4, 5, 6, 7, 8, 9, 10]) else bif Nat.beq i 8 then (0, [0, 1, 2, 3, 4, 5, 6, 7, 8, 9, 10, 11, 12, 13, 14, 15, 16, 17, 18, 19, 20, 21, 22, 23, 24, 25, 26, 27]) else (0, [])
theorem R.q141 (h : F.q141 a0 H K) : HT prg 141 [a0].toArray H K :=
 HT_of_eq O.q141 mixed Tryz.func141 (by kernel_rfl) (by kernel_rfl) h
def F.q111 (a0 : Value) (H : Hp) (K : Value → Hp → Prop) : Prop :=
 bS 3 0 #[(.int .i64 0), (.int .i64 0), (.slice none 0 0)] 36 [] H fun b H2 =>
 ob (vNilC a0) fun c =>
 ob (vFa 0 c) fun d =>
 ob (vLoad d H2) fun e =>
 ob (vNilC a0) fun f =>
 ob (vFa 1 f) fun g =>
 ob (vLoad g H2) fun i =>
 HT prg 139 [a0, (.int .i64 0), (.int .i64 0), e, i].toArray H2 fun j H10 =>
 Le H2 H10 ∧ (nw #[(.int .i64 0), (.int .i64 0), (.slice none 0 0)] 36 H10 fun k H12 =>
 st 3 k j H12 fun H13 =>
 jn (fun σ14 H14 =>
 K (σ14 3) H14) fun J14 =>
 lpE (fun Q15 σ15 H15 =>
 ob (vInt .lss (σ15 5) (.int .i64 2)) fun l =>
 cnd l
 (jn (fun σ17 H17 =>
 ob (vInt .add (σ17 5) (.int .i64 1)) fun m =>
 Q15 .normal (up (up (up σ17 20 (σ17 5)) 21 m) 5 m) H17) fun J17 =>
 jn (fun σ19 H19 =>
 HT prg 141 [(σ19 0)].toArray H19 fun n H21 =>
 st 3 (σ19 4) n H21 fun H22 =>
 J17 (up (up σ19 31 (σ19 0)) 32 n) H22) fun J19 =>
 lpE (fun Q23 σ23 H23 =>
 ob (vInt .lss (σ23 6) (.int .i64 4)) fun p =>
 cnd p
 (ob (vLoadN 3 (σ23 4) H23) fun q =>
 bS 3 1 #[(.int .i64 0), (.int .i64 0), (.slice none 0 0)] 36 [(0, q)] H23 fun r H27 =>
 apd 3 40 #[(.int .i64 0), (.int .i64 0), (.slice none 0 0)] 36 (σ23 3) r H27 fun s H29 =>
 HT prg 140 [(σ23 4)].toArray H29 fun t H31 =>
 st 3 (σ23 4) t H31 fun H32 =>
 ob (vInt .add (σ23 6) (.int .i64 1)) fun w =>
 Q23 .normal (up (up (up (up (up (up (up (up (up (up (up σ23 22 (σ23 6)) 23 p) 26 (σ23 3)) 27 q) 28 r) 29 s) 3 s) 30 t) 24 (σ23 6)) 25 w) 6 w) H32)
 (Q23 (.exit 2) (up (up σ23 22 (σ23 6)) 23 p) H23)) (blkQ 2 (thenQ J19 (blkQ 1 (thenQ J17 Q15)))) (up (up (up σ15 18 (σ15 5)) 19 l) 6 (.int .i64 0)) H15)
 (Q15 (.exit 0) (up (up σ15 18 (σ15 5)) 19 l) H15)) (blkQ 0 (thenQ J14 (retQ prg [(.tmp 2)] K))) (up (up (up (up (up (up (up (up (up (up (up (up (up (up (up (S0 [a0]) 2 (.slice none 0 0)) 7 b) 3 b) 8 a0) 9 a0) 10 c) 11 d) 12 e) 13 a0) 14 f) 15 g) 16 i) 17 j) 4 k) 5 (.int .i64 0)) H13)
def O.q111 : Nat → Nat × List Nat := fun i => bif Nat.beq i 2 then (0, [0, 1, 2, 3, 4, 5, 6, 7, 8, 9, 10, 11]) else (0, [])
theorem R.q111 (h : F.q111 a0 H K) : HT prg 111 [a0].toArray H K :=
 HT_of_eq O.q111 mixed Tryz.func111 (by kernel_rfl) (by kernel_rfl) h
def F.q142 (a0 : Value) (H : Hp) (K : Value → Hp → Prop) : Prop :=
 ob (vInt .lss a0 (.int .i64 10)) fun b =>
 cnd b
 (ob (vInt .add (.int .i64 48) a0) fun c =>
 ob (vCI .u8 c) fun d =>
 bS 1 1 #[(.int .u8 0)] 5 [(0, d)] H fun e H5 =>
 ob (val prg (convert 22 9 e) H5) fun f =>
 K f H5)
 ((ob (vInt .quo a0 (.int .i64 10)) fun g =>
 ob (vInt .rem a0 (.int .i64 10)) fun i =>
 ob (vInt .add (.int .i64 48) i) fun j =>
 ob (vCI .u8 j) fun k =>
 HT prg 142 [g].toArray H fun l H12 =>
 Le H H12 ∧ (bS 1 1 #[(.int .u8 0)] 5 [(0, k)] H12 fun m H14 =>
 ob (val prg (convert 22 9 m) H14) fun n =>
 ob (vStr .add l n) fun p =>
 K p H14)) ∧ (ob (vInt .quo a0 (.int .i64 10)) fun q =>
 ob (vInt .rem a0 (.int .i64 10)) fun r =>
 ob (vInt .add (.int .i64 48) r) fun s =>
 ob (vCI .u8 s) fun t =>
 bS 1 1 #[(.int .u8 0)] 5 [(0, t)] H fun w H22 =>
 ob (val prg (convert 22 9 w) H22) fun x =>
 HT prg 142 [q].toArray H22 fun y H25 =>
 Le H22 H25 ∧ (ob (vStr .add y x) fun z =>
 K z H25)))
def O.q142 : Nat → Nat × List Nat := fun i => bif Nat.beq i 3 then (0, [1002, 1008, 0, 1, 3, 4, 5, 6, 2, 7, 8, 9, 10, 0, 1, 3, 4, 5, 6, 7, 8, 2, 9, 10]) else (0, [])
theorem R.q142 (h : F.q142 a0 H K) : HT prg 142 [a0].toArray H K :=
 HT_of_eq O.q142 mixed Tryz.func142 (by kernel_rfl) (by kernel_rfl) h
def F.q112 (a0 : Value) (H : Hp) (K : Value → Hp → Prop) : Prop :=
 ob (vNilC a0) fun b =>
 ob (vFa 1 b) fun c =>
 ob (vLoad c H) fun d =>
 ob (vNilC a0) fun e =>
 ob (vFa 0 e) fun f =>
 ob (vLoad f H) fun g =>
 HT prg 142 [d].toArray H fun i H8 =>
 Le H H8 ∧ (ob (vStr .add i (.string ⟨#[44]⟩)) fun j =>
 HT prg 142 [g].toArray H8 fun k H11 =>
 Le H8 H11 ∧ (ob (vStr .add j k) fun l =>
 ob (vStr .add l (.string ⟨#[58]⟩)) fun m =>
 jn (fun σ14 H14 =>
 ob (vStr .add (σ14 3) (.string ⟨#[33]⟩)) fun n =>
 K n H14) fun J14 =>
 lpE (fun Q16 σ16 H16 =>
 ob (vNilC (σ16 0)) fun p =>
 ob (vFa 0 p) fun q =>
 ob (vLoad q H16) fun r =>
 ob (vInt .lss (σ16 4) r) fun s =>
 cnd s
 (jn (fun σ21 H21 =>
 ob (vInt .add (σ21 4) (.int .i64 1)) fun t =>
 Q16 .normal (up (up (up σ21 28 (σ21 4)) 29 t) 4 t) H21) fun J21 =>
 jn (fun σ23 H23 =>
 ob (vNilC (σ23 0)) fun w =>
 ob (vFa 2 w) fun x =>
 ob (vLoad x H23) fun y =>
 ob (vNilC (σ23 0)) fun z =>
 ob (vFa 1 z) fun b0 =>
 ob (vLoad b0 H23) fun c0 =>
 ob (vInt .mul (σ23 4) c0) fun d0 =>
 ob (vInt .add (σ23 4) (.int .i64 1)) fun e0 =>
 ob (vNilC (σ23 0)) fun f0 =>
 ob (vFa 1 f0) fun g0 =>
 ob (vLoad g0 H23) fun i0 =>
 ob (vInt .mul e0 i0) fun j0 =>
 ob (vSl3 1 y (some d0) (some j0) none) fun k0 =>
 ob (vLenSl k0) fun l0 =>
 jn (fun σ38 H38 =>
 lpE (fun Q39 σ39 H39 =>
 ob (vInt .lss (σ39 7) (σ39 6)) fun m0 =>
 cnd m0
 (jn (fun σ41 H41 =>
 ob (vInt .gtr (σ41 8) (.int .i64 1)) fun n0 =>
 cnd n0
 (HT prg 142 [(σ41 8)].toArray H41 fun p0 H44 =>
 ob (vStr .add (σ41 3) p0) fun q0 =>
 ob (vIx 1 (σ41 5) (σ41 7)) fun r0 =>
 ob (vLoad r0 H44) fun s0 =>
 ob (vInt .eql s0 (.int .i64 1)) fun t0 =>
 cnd t0
 (ob (vStr .add q0 (.string ⟨#[111]⟩)) fun w0 =>
 ob (vInt .add (σ41 7) (σ41 8)) fun x0 =>
 Q39 .normal (up (up (up (up (up (up (up (up (up (up (up (up (up (up (up (up (up (up (up σ41 89 (σ41 8)) 90 n0) 91 (σ41 3)) 92 (σ41 8)) 93 p0) 94 q0) 3 q0) 95 (σ41 5)) 96 (σ41 7)) 97 r0) 98 s0) 99 t0) 100 q0) 101 w0) 3 w0) 104 (σ41 7)) 105 (σ41 8)) 106 x0) 7 x0) H44)
 (ob (vStr .add q0 (.string ⟨#[98]⟩)) fun y0 =>
 ob (vInt .add (σ41 7) (σ41 8)) fun z0 =>
 Q39 .normal (up (up (up (up (up (up (up (up (up (up (up (up (up (up (up (up (up (up (up σ41 89 (σ41 8)) 90 n0) 91 (σ41 3)) 92 (σ41 8)) 93 p0) 94 q0) 3 q0) 95 (σ41 5)) 96 (σ41 7)) 97 r0) 98 s0) 99 t0) 102 q0) 103 y0) 3 y0) 104 (σ41 7)) 105 (σ41 8)) 106 z0) 7 z0) H44))
 (ob (vIx 1 (σ41 5) (σ41 7)) fun b1 =>
 ob (vLoad b1 H41) fun c1 =>
 ob (vInt .eql c1 (.int .i64 1)) fun d1 =>
 cnd d1
 (ob (vStr .add (σ41 3) (.string ⟨#[111]⟩)) fun e1 =>
 ob (vInt .add (σ41 7) (σ41 8)) fun f1 =>
 Q39 .normal (up (up (up (up (up (up (up (up (up (up (up (up (up (up σ41 89 (σ41 8)) 90 n0) 95 (σ41 5)) 96 (σ41 7)) 97 b1) 98 c1) 99 d1) 100 (σ41 3)) 101 e1) 3 e1) 104 (σ41 7)) 105 (σ41 8)) 106 f1) 7 f1) H41)
 (ob (vStr .add (σ41 3) (.string ⟨#[98]⟩)) fun g1 =>
 ob (vInt .add (σ41 7) (σ41 8)) fun i1 =>
 Q39 .normal (up (up (up (up (up (up (up (up (up (up (up (up (up (up σ41 89 (σ41 8)) 90 n0) 95 (σ41 5)) 96 (σ41 7)) 97 b1) 98 c1) 99 d1) 102 (σ41 3)) 103 g1) 3 g1) 104 (σ41 7)) 105 (σ41 8)) 106 i1) 7 i1) H41))) fun J41 =>
 lpE (fun Q60 σ60 H60 =>
 ob (vInt .add (σ60 7) (σ60 8)) fun j1 =>
 ob (vInt .lss j1 (σ60 6)) fun k1 =>
 gop k1 true (fun K63 => K63 (σ60 5) H60) H60 fun l1 H65 =>
 gop k1 true (fun K66 => K66 (σ60 7) H65) H65 fun m1 H68 =>
 gop k1 true (fun K69 => K69 (σ60 8) H68) H68 fun n1 H71 =>
 gop k1 true (fun K72 => ob (vInt .add m1 n1) fun u => K72 u H71) H71 fun p1 H74 =>
 gop k1 true (fun K75 => ob (vIx 1 l1 p1) fun u => K75 u H74) H74 fun q1 H77 =>
 gop k1 true (fun K78 => ob (vLoad q1 H77) fun u => K78 u H77) H77 fun r1 H80 =>
 gop k1 true (fun K81 => K81 (σ60 5) H80) H80 fun s1 H83 =>
 gop k1 true (fun K84 => K84 (σ60 7) H83) H83 fun t1 H86 =>
 gop k1 true (fun K87 => ob (vIx 1 s1 t1) fun u => K87 u H86) H86 fun w1 H89 =>
 gop k1 true (fun K90 => ob (vLoad w1 H89) fun u => K90 u H89) H89 fun x1 H92 =>
 gop k1 true (fun K93 => ob (vInt .eql r1 x1) fun u => K93 u H92) H92 fun y1 H95 =>
 ob (vPick k1 y1 (.bool false)) fun z1 =>
 cnd z1
 (ob (vInt .add (σ60 8) (.int .i64 1)) fun b2 =>
 Q60 .normal (up (up (up (up (up (up (up (up (up (up (up (up (up (up (up (up (up (up (up (up (up σ60 69 (σ60 7)) 70 (σ60 8)) 71 j1) 72 (σ60 6)) 73 k1) 74 k1) 75 l1) 76 m1) 77 n1) 78 p1) 79 q1) 80 r1) 81 s1) 82 t1) 83 w1) 84 x1) 85 y1) 86 z1) 87 (σ60 8)) 88 b2) 8 b2) H95)
 (Q60 (.exit 6) (up (up (up (up (up (up (up (up (up (up (up (up (up (up (up (up (up (up σ60 69 (σ60 7)) 70 (σ60 8)) 71 j1) 72 (σ60 6)) 73 k1) 74 k1) 75 l1) 76 m1) 77 n1) 78 p1) 79 q1) 80 r1) 81 s1) 82 t1) 83 w1) 84 x1) 85 y1) 86 z1) H95)) (blkQ 6 (thenQ J41 (blkQ 5 Q39))) (up (up (up (up σ39 66 (σ39 7)) 67 (σ39 6)) 68 m0) 8 (.int .i64 1)) H39)
 (Q39 (.exit 4) (up (up (up σ39 66 (σ39 7)) 67 (σ39 6)) 68 m0) H39)) (blkQ 4 (blkQ 1 (thenQ J21 Q16))) (up σ38 7 (.int .i64 0)) H38) fun J38 =>
 lpE (fun Q98 σ98 H98 =>
 ob (vInt .gtr (σ98 6) (.int .i64 0)) fun c2 =>
 gop c2 true (fun K100 => K100 (σ98 5) H98) H98 fun d2 H102 =>
 gop c2 true (fun K103 => K103 (σ98 6) H102) H102 fun e2 H105 =>
 gop c2 true (fun K106 => ob (vInt .sub e2 (.int .i64 1)) fun u => K106 u H105) H105 fun f2 H108 =>
 gop c2 true (fun K109 => ob (vIx 1 d2 f2) fun u => K109 u H108) H108 fun g2 H111 =>
 gop c2 true (fun K112 => ob (vLoad g2 H111) fun u => K112 u H111) H111 fun i2 H114 =>
 gop c2 true (fun K115 => ob (vInt .eql i2 (.int .i64 0)) fun u => K115 u H114) H114 fun j2 H117 =>
 ob (vPick c2 j2 (.bool false)) fun k2 =>
 cnd k2
 (ob (vInt .sub (σ98 6) (.int .i64 1)) fun l2 =>
 Q98 .normal (up (up (up (up (up (up (up (up (up (up (up (up (up σ98 54 (σ98 6)) 55 c2) 56 c2) 57 d2) 58 e2) 59 f2) 60 g2) 61 i2) 62 j2) 63 k2) 64 (σ98 6)) 65 l2) 6 l2) H117)
 (Q98 (.exit 2) (up (up (up (up (up (up (up (up (up (up σ98 54 (σ98 6)) 55 c2) 56 c2) 57 d2) 58 e2) 59 f2) 60 g2) 61 i2) 62 j2) 63 k2) H117)) (blkQ 2 (thenQ J38 (blkQ 1 (thenQ J21 Q16)))) (up (up (up (up (up (up (up (up (up (up (up (up (up (up (up (up (up (up (up (up (up (up σ23 34 (σ23 0)) 35 w) 36 x) 37 y) 38 (σ23 4)) 39 (σ23 0)) 40 z) 41 b0) 42 c0) 43 d0) 44 (σ23 4)) 45 e0) 46 (σ23 0)) 47 f0) 48 g0) 49 i0) 50 j0) 51 k0) 5 k0) 52 k0) 53 l0) 6 l0) H23) fun J23 =>
 ob (vInt .gtr (σ16 4) (.int .i64 0)) fun m2 =>
 cnd m2
 (ob (vStr .add (σ16 3) (.string ⟨#[36]⟩)) fun n2 =>
 J23 (up (up (up (up (up (up (up (up (up (up (up σ16 22 (σ16 4)) 23 (σ16 0)) 24 p) 25 q) 26 r) 27 s) 30 (σ16 4)) 31 m2) 32 (σ16 3)) 33 n2) 3 n2) H16)
 (J23 (up (up (up (up (up (up (up (up σ16 22 (σ16 4)) 23 (σ16 0)) 24 p) 25 q) 26 r) 27 s) 30 (σ16 4)) 31 m2) H16))
 (Q16 (.exit 0) (up (up (up (up (up (up σ16 22 (σ16 4)) 23 (σ16 0)) 24 p) 25 q) 26 r) 27 s) H16)) (blkQ 0 (thenQ J14 (retQ prg [(.tmp 2)] K))) (up (up (up (up (up (up (up (up (up (up (up (up (up (up (up (up (S0 [a0]) 2 (.string ⟨#[]⟩)) 9 a0) 10 b) 11 c) 12 d) 15 a0) 16 e) 17 f) 18 g) 13 i) 14 j) 19 k) 20 l) 21 m) 3 m) 4 (.int .i64 0)) H11))
def O.q112 : Nat → Nat × List Nat := fun i => bif Nat.beq i 1 then (0, [0, 1, 2, 3, 6, 7, 8, 9, 4, 5, 10, 11, 12, 13]) else bif Nat.beq i 7 then (0, [0, 1, 2, 3, 4, 5, 6, 7, 8, 9, 10, 11, 12, 13, 14, 15, 16, 17, 18]) else bif Nat.beq i 14 then (0, [0, 1, 2, 3, 4, 5, 6, 7, 8, 9, 10, 11, 12, 13, 14, 15, 16, 17]) else (0, [])
theorem R.q112 (h : F.q112 a0 H K) : HT prg 112 [a0].toArray H K :=
 HT_of_eq O.q112 mixed Tryz.func112 (by kernel_rfl) (by kernel_rfl) h
def F.q72 (a0 : Value) (H : Hp) (K : Value → Hp → Prop) : Prop :=
 HT prg 110 [a0].toArray H fun b H2 =>
 ob (vExt b 0) fun c =>
 ob (vExt b 1) fun d =>
 ob (vExt b 2) fun e =>
 ob (vExt b 3) fun f =>
 nw #[(.int .i64 0), (.int .i64 0), (.slice none 0 0)] 36 H2 fun g H8 =>
 st 3 g c H8 fun H9 =>
 ob (vUn .not f) fun i =>
 cnd i
 (K (.string ⟨#[]⟩) H9)
 (HT prg 111 [g].toArray H9 fun j H12 =>
 jn (fun σ13 H13 =>
 K (σ13 8) H13) fun J13 =>
 ob (vLenSl j) fun k =>
 lpE (fun Q15 σ15 H15 =>
 ob (vInt .lss (σ15 23) (σ15 22)) fun l =>
 cnd l
 (ob (vIx 3 (σ15 7) (σ15 23)) fun m =>
 HT prg 112 [m].toArray H15 fun n H19 =>
 ob (vInt .eql (σ15 23) (.int .i64 0)) fun p =>
 gop p false (fun K21 => K21 n H19) H19 fun q H23 =>
 gop p false (fun K24 => K24 (σ15 8) H23) H23 fun r H26 =>
 gop p false (fun K27 => ob (vStr .lss q r) fun u => K27 u H26) H26 fun s H29 =>
 ob (vPick p (.bool true) s) fun t =>
 cnd t
 (ob (vInt .add (σ15 23) (.int .i64 1)) fun w =>
 Q15 .normal (up (up (up (up (up (up (up (up (up (up (up (up (up (up (up (up (up (up (up σ15 24 l) 25 (σ15 23)) 9 (σ15 23)) 26 (σ15 7)) 27 (σ15 23)) 28 m) 29 n) 10 n) 30 (σ15 23)) 31 p) 32 p) 33 q) 34 r) 35 s) 36 t) 37 n) 8 n) 38 w) 23 w) H29)
 (ob (vInt .add (σ15 23) (.int .i64 1)) fun x =>
 Q15 .normal (up (up (up (up (up (up (up (up (up (up (up (up (up (up (up (up (up σ15 24 l) 25 (σ15 23)) 9 (σ15 23)) 26 (σ15 7)) 27 (σ15 23)) 28 m) 29 n) 10 n) 30 (σ15 23)) 31 p) 32 p) 33 q) 34 r) 35 s) 36 t) 38 x) 23 x) H29))
 (Q15 (.exit 0) (up σ15 24 l) H15)) (blkQ 0 (thenQ J13 (retQ prg [(.tmp 2)] K))) (up (up (up (up (up (up (up (up (up (up (up (up (up (up (up (up (up (up (up (up (S0 [a0]) 2 (.string ⟨#[]⟩)) 12 a0) 13 b) 11 b) 14 c) 15 d) 16 e) 17 f) 3 g) 4 d) 5 e) 6 f) 18 f) 19 i) 20 j) 7 j) 8 (.string ⟨#[]⟩)) 21 j) 22 k) 23 (.int .i64 0)) H12)
theorem R.q72 (h : F.q72 a0 H K) : HT prg 72 [a0].toArray H K :=
 HT_of_eq O0 mixed Tryz.func72 (by kernel_rfl) (by kernel_rfl) h
def F.q29 (a0 : Value) (H : Hp) (K : Value → Hp → Prop) : Prop :=
 HT prg 71 [a0].toArray H fun b H2 =>
 ob (vExt b 0) fun c =>
 ob (vExt b 1) fun d =>
 bS 1 0 #[(.string ⟨#[]⟩)] 9 [] H2 fun e H6 =>
 bS 1 0 #[(.int .i64 0)] 2 [] H6 fun f H8 =>
 jn (fun σ9 H9 =>
 ob (vLenSl (σ9 7)) fun g =>
 ob (vInt .leq g (.int .i64 64)) fun i =>
 K (.tuple #[(σ9 7), (σ9 8), i]) H9) fun J9 =>
 ob (vLenSl c) fun j =>
 lpE (fun Q13 σ13 H13 =>
 ob (vInt .lss (σ13 23) (σ13 22)) fun k =>
 cnd k
 (jn (fun σ15 H15 =>
 ob (vInt .add (σ15 23) (.int .i64 1)) fun l =>
 Q13 .normal (up (up σ15 87 l) 23 l) H15) fun J15 =>
 ob (vIx 3 (σ13 5) (σ13 23)) fun m =>
 HT prg 72 [m].toArray H13 fun n H19 =>
 jn (fun σ20 H20 =>
 ob (vLenSl (σ20 7)) fun p =>
 ob (vInt .lss (σ20 11) p) fun q =>
 gop q true (fun K23 => K23 (σ20 7) H20) H20 fun r H25 =>
 gop q true (fun K26 => K26 (σ20 11) H25) H25 fun s H28 =>
 gop q true (fun K29 => ob (vIx 1 r s) fun u => K29 u H28) H28 fun t H31 =>
 gop q true (fun K32 => ob (vLoad t H31) fun u => K32 u H31) H31 fun w H34 =>
 gop q true (fun K35 => K35 (σ20 10) H34) H34 fun x H37 =>
 gop q true (fun K38 => ob (vStr .eql w x) fun u => K38 u H37) H37 fun y H40 =>
 ob (vPick q y (.bool false)) fun z =>
 cnd z
 (ob (vIx 1 (σ20 8) (σ20 11)) fun b0 =>
 ob (vLoad b0 H40) fun c0 =>
 ob (vInt .add c0 (.int .i64 1)) fun d0 =>
 ob (vIx 1 (σ20 8) (σ20 11)) fun e0 =>
 st 1 e0 d0 H40 fun H46 =>
 J15 (up (up (up (up (up (up (up (up (up (up (up (up (up (up (up (up (up (up σ20 44 (σ20 11)) 45 (σ20 7)) 46 p) 47 q) 48 q) 49 r) 50 s) 51 t) 52 w) 53 x) 54 y) 55 z) 56 (σ20 8)) 57 (σ20 11)) 58 b0) 59 c0) 60 d0) 61 e0) H46)
 (bS 1 0 #[(.string ⟨#[]⟩)] 9 [] H40 fun f0 H48 =>
 ob (vSl3 1 (σ20 7) none (some (σ20 11)) none) fun g0 =>
 apd 1 16 #[(.string ⟨#[]⟩)] 9 f0 g0 H48 fun i0 H51 =>
 bS 1 1 #[(.string ⟨#[]⟩)] 9 [(0, (σ20 10))] H51 fun j0 H53 =>
 apd 1 16 #[(.string ⟨#[]⟩)] 9 i0 j0 H53 fun k0 H55 =>
 ob (vSl3 1 (σ20 7) (some (σ20 11)) none none) fun l0 =>
 apd 1 16 #[(.string ⟨#[]⟩)] 9 k0 l0 H55 fun m0 H58 =>
 bS 1 0 #[(.int .i64 0)] 2 [] H58 fun n0 H60 =>
 ob (vSl3 1 (σ20 8) none (some (σ20 11)) none) fun p0 =>
 apd 1 8 #[(.int .i64 0)] 2 n0 p0 H60 fun q0 H63 =>
 bS 1 1 #[(.int .i64 0)] 2 [(0, (.int .i64 1))] H63 fun r0 H65 =>
 apd 1 8 #[(.int .i64 0)] 2 q0 r0 H65 fun s0 H67 =>
 ob (vSl3 1 (σ20 8) (some (σ20 11)) none none) fun t0 =>
 apd 1 8 #[(.int .i64 0)] 2 s0 t0 H67 fun w0 H70 =>
 J15 (up (up (up (up (up (up (up (up (up (up (up (up (up (up (up (up (up (up (up (up (up (up (up (up (up (up (up (up (up (up (up (up (up (up (up (up (up (up (up (up (up σ20 44 (σ20 11)) 45 (σ20 7)) 46 p) 47 q) 48 q) 49 r) 50 s) 51 t) 52 w) 53 x) 54 y) 55 z) 62 f0) 63 (σ20 7)) 64 (σ20 11)) 65 g0) 66 i0) 67 (σ20 10)) 68 j0) 69 k0) 12 k0) 70 k0) 71 (σ20 7)) 72 (σ20 11)) 73 l0) 74 m0) 7 m0) 75 n0) 76 (σ20 8)) 77 (σ20 11)) 78 p0) 79 q0) 80 r0) 81 s0) 13 s0) 82 s0) 83 (σ20 8)) 84 (σ20 11)) 85 t0) 86 w0) 8 w0) H70)) fun J20 =>
 lpE (fun Q71 σ71 H71 =>
 ob (vLenSl (σ71 7)) fun x0 =>
 ob (vInt .lss (σ71 11) x0) fun y0 =>
 gop y0 true (fun K74 => K74 (σ71 7) H71) H71 fun z0 H76 =>
 gop y0 true (fun K77 => K77 (σ71 11) H76) H76 fun b1 H79 =>
 gop y0 true (fun K80 => ob (vIx 1 z0 b1) fun u => K80 u H79) H79 fun c1 H82 =>
 gop y0 true (fun K83 => ob (vLoad c1 H82) fun u => K83 u H82) H82 fun d1 H85 =>
 gop y0 true (fun K86 => K86 (σ71 10) H85) H85 fun e1 H88 =>
 gop y0 true (fun K89 => ob (vStr .lss d1 e1) fun u => K89 u H88) H88 fun f1 H91 =>
 ob (vPick y0 f1 (.bool false)) fun g1 =>
 cnd g1
 (ob (vInt .add (σ71 11) (.int .i64 1)) fun i1 =>
 Q71 .normal (up (up (up (up (up (up (up (up (up (up (up (up (up (up (up σ71 30 (σ71 11)) 31 (σ71 7)) 32 x0) 33 y0) 34 y0) 35 z0) 36 b1) 37 c1) 38 d1) 39 e1) 40 f1) 41 g1) 42 (σ71 11)) 43 i1) 11 i1) H91)
 (Q71 (.exit 2) (up (up (up (up (up (up (up (up (up (up (up (up σ71 30 (σ71 11)) 31 (σ71 7)) 32 x0) 33 y0) 34 y0) 35 z0) 36 b1) 37 c1) 38 d1) 39 e1) 40 f1) 41 g1) H91)) (blkQ 2 (thenQ J20 (blkQ 1 (thenQ J15 Q13)))) (up (up (up (up (up (up (up (up (up σ13 24 k) 25 (σ13 23)) 9 (σ13 23)) 26 (σ13 5)) 27 (σ13 23)) 28 m) 29 n) 10 n) 11 (.int .i64 0)) H19)
 (Q13 (.exit 0) (up σ13 24 k) H13)) (blkQ 0 (thenQ J9 (retQ prg [(.tmp 2), (.tmp 3), (.tmp 4)] K))) (up (up (up (up (up (up (up (up (up (up (up (up (up (up (up (up (up (S0 [a0]) 2 (.slice none 0 0)) 3 (.slice none 0 0)) 4 (.bool false)) 15 a0) 16 b) 14 b) 17 c) 18 d) 5 c) 6 d) 19 e) 7 e) 20 f) 8 f) 21 c) 22 j) 23 (.int .i64 0)) H8
theorem R.q29 (h : F.q29 a0 H K) : HT prg 29 [a0].toArray H K :=
 HT_of_eq O0 mixed Tryz.func29 (by kernel_rfl) (by kernel_rfl) h
def F.q35 (a0 a1 : Value) (H : Hp) (K : Value → Hp → Prop) : Prop :=
 nw (a0 : Value).cells 36 H fun b H2 =>
 jn (fun σ3 H3 =>
 K (σ3 5) H3) fun J3 =>
 ob (vFa 2 b) fun c =>
 ob (vLoad c H2) fun d =>
 ob (vLenSl d) fun e =>
 lpE (fun Q7 σ7 H7 =>
 ob (vInt .lss (σ7 11) (σ7 10)) fun f =>
 cnd f
 (ob (vIx 1 (σ7 9) (σ7 11)) fun g =>
 ob (vLoad g H7) fun i =>
 ob (vInt .eql i (σ7 1)) fun j =>
 cnd j
 (ob (vInt .add (σ7 5) (.int .i64 1)) fun k =>
 ob (vInt .add (σ7 11) (.int .i64 1)) fun l =>
 Q7 .normal (up (up (up (up (up (up (up (up (up (up (up (up σ7 12 f) 13 g) 14 i) 7 i) 15 i) 16 (σ7 1)) 17 j) 18 (σ7 5)) 19 k) 5 k) 20 l) 11 l) H7)
 (ob (vInt .add (σ7 11) (.int .i64 1)) fun m =>
 Q7 .normal (up (up (up (up (up (up (up (up (up σ7 12 f) 13 g) 14 i) 7 i) 15 i) 16 (σ7 1)) 17 j) 20 m) 11 m) H7))
 (Q7 (.exit 0) (up σ7 12 f) H7)) (blkQ 0 (thenQ J3 (retQ prg [(.tmp 4)] K))) (up (up (up (up (up (up (up (S0 [a0, a1]) 2 b) 4 (.int .i64 0)) 5 (.int .i64 0)) 8 c) 9 d) 10 e) 11 (.int .i64 0)) H2
theorem R.q35 (h : F.q35 a0 a1 H K) : HT prg 35 [a0, a1].toArray H K :=
 HT_of_eq O0 mixed Tryz.func35 (by kernel_rfl) (by kernel_rfl) h
def F.q42 (a0 : Value) (H : Hp) (K : Value → Hp → Prop) : Prop :=
 ob (vNilC a0) fun b =>
 ob (vFa 0 b) fun c =>
 ob (vLoad c H) fun d =>
 HT prg 38 [d, (.int .i64 1), (.int .i64 24)].toArray H fun e H5 =>
 Le H H5 ∧ (ob (vUn .not e) fun f =>
 gop f false (fun K7 => K7 a0 H5) H5 fun g H9 =>
 gop f false (fun K10 => ob (vNilC g) fun u => K10 u H9) H9 fun i H12 =>
 gop f false (fun K13 => ob (vFa 1 i) fun u => K13 u H12) H12 fun j H15 =>
 gop f false (fun K16 => ob (vLoad j H15) fun u => K16 u H15) H15 fun k H18 =>
 gop f false (fun K19 => HT prg 38 [k, (.int .i64 1), (.int .i64 24)].toArray H18 fun l H21 =>
 Le H18 H21 ∧ K19 l H21) H18 fun m H23 =>
 gop f false (fun K24 => ob (vUn .not m) fun u => K24 u H23) H23 fun n H26 =>
 ob (vPick f (.bool true) n) fun p =>
 gop p false (fun K28 => K28 a0 H26) H26 fun q H30 =>
 gop p false (fun K31 => ob (vNilC q) fun u => K31 u H30) H30 fun r H33 =>
 gop p false (fun K34 => ob (vFa 2 r) fun u => K34 u H33) H33 fun s H36 =>
 gop p false (fun K37 => ob (vLoad s H36) fun u => K37 u H36) H36 fun t H39 =>
 gop p false (fun K40 => ob (vLenSl t) fun u => K40 u H39) H39 fun w H42 =>
 gop p false (fun K43 => K43 a0 H42) H42 fun x H45 =>
 gop p false (fun K46 => ob (vNilC x) fun u => K46 u H45) H45 fun y H48 =>
 gop p false (fun K49 => ob (vFa 0 y) fun u => K49 u H48) H48 fun z H51 =>
 gop p false (fun K52 => ob (vLoad z H51) fun u => K52 u H51) H51 fun b0 H54 =>
 gop p false (fun K55 => K55 a0 H54) H54 fun c0 H57 =>
 gop p false (fun K58 => ob (vNilC c0) fun u => K58 u H57) H57 fun d0 H60 =>
 gop p false (fun K61 => ob (vFa 1 d0) fun u => K61 u H60) H60 fun e0 H63 =>
 gop p false (fun K64 => ob (vLoad e0 H63) fun u => K64 u H63) H63 fun f0 H66 =>
 gop p false (fun K67 => ob (vInt .mul b0 f0) fun u => K67 u H66) H66 fun g0 H69 =>
 gop p false (fun K70 => ob (vInt .neq w g0) fun u => K70 u H69) H69 fun i0 H72 =>
 ob (vPick p (.bool true) i0) fun j0 =>
 cnd j0
 (K (.bool false) H72)
 (jn (fun σ74 H74 =>
 K (.bool true) H74) fun J74 =>
 lpE (fun Q75 σ75 H75 =>
 ob (vNilC (σ75 0)) fun k0 =>
 ob (vFa 2 k0) fun l0 =>
 ob (vLoad l0 H75) fun m0 =>
 ob (vLenSl m0) fun n0 =>
 ob (vInt .lss (σ75 3) n0) fun p0 =>
 cnd p0
 (ob (vNilC (σ75 0)) fun q0 =>
 ob (vFa 2 q0) fun r0 =>
 ob (vLoad r0 H75) fun s0 =>
 ob (vIx 1 s0 (σ75 3)) fun t0 =>
 ob (vLoad t0 H75) fun w0 =>
 HT prg 38 [w0, (.int .i64 0), (.int .i64 9)].toArray H75 fun x0 H87 =>
 ob (vUn .not x0) fun y0 =>
 cnd y0
 (Q75 .ret (up (up (up (up (up (up (up (up (up (up (up (up (up (up (up (up (up σ75 35 (σ75 3)) 36 (σ75 0)) 37 k0) 38 l0) 39 m0) 40 n0) 41 p0) 44 (σ75 0)) 45 q0) 46 r0) 47 s0) 48 (σ75 3)) 49 t0) 50 w0) 51 x0) 52 y0) 2 (.bool false)) H87)
 (ob (vInt .add (σ75 3) (.int .i64 1)) fun z0 =>
 Q75 .normal (up (up (up (up (up (up (up (up (up (up (up (up (up (up (up (up (up (up (up σ75 35 (σ75 3)) 36 (σ75 0)) 37 k0) 38 l0) 39 m0) 40 n0) 41 p0) 44 (σ75 0)) 45 q0) 46 r0) 47 s0) 48 (σ75 3)) 49 t0) 50 w0) 51 x0) 52 y0) 42 (σ75 3)) 43 z0) 3 z0) H87))
 (Q75 (.exit 0) (up (up (up (up (up (up (up σ75 35 (σ75 3)) 36 (σ75 0)) 37 k0) 38 l0) 39 m0) 40 n0) 41 p0) H75)) (blkQ 0 (thenQ J74 (retQ prg [(.tmp 2)] K))) (up (up (up (up (up (up (up (up (up (up (up (up (up (up (up (up (up (up (up (up (up (up (up (up (up (up (up (up (up (up (up (up (up (S0 [a0]) 2 (.bool false)) 4 a0) 5 b) 6 c) 7 d) 8 e) 9 f) 10 f) 11 g) 12 i) 13 j) 14 k) 15 m) 16 n) 17 p) 18 p) 19 q) 20 r) 21 s) 22 t) 23 w) 24 x) 25 y) 26 z) 27 b0) 28 c0) 29 d0) 30 e0) 31 f0) 32 g0) 33 i0) 34 j0) 3 (.int .i64 0)) H72))
def O.q42 : Nat → Nat × List Nat := fun i => bif Nat.beq i 1 then (0, [0, 1, 2, 3, 4, 5, 6, 7, 8, 9, 10, 11, 12, 13, 14, 15, 16, 17, 18, 19, 20, 21, 22, 23, 24, 25, 26, 27, 28, 29, 30]) else (0, [])
theorem R.q42 (h : F.q42 a0 H K) : HT prg 42 [a0].toArray H K :=
 HT_of_eq O.q42 mixed Tryz.func42 (by kernel_rfl) (by kernel_rfl) h
def F.q62 (a0 : Value) (H : Hp) (K : Value → Hp → Prop) : Prop :=
 HT prg 42 [a0].toArray H fun b H2 =>
 ob (vUn .not b) fun c =>
 cnd c
 (K (.bool false) H2)
 (jn (fun σ4 H4 =>
 K (.bool true) H4) fun J4 =>
 lpE (fun Q5 σ5 H5 =>
 ob (vNilC (σ5 0)) fun d =>
 ob (vFa 2 d) fun e =>
 ob (vLoad e H5) fun f =>
 ob (vLenSl f) fun g =>
 ob (vInt .lss (σ5 3) g) fun i =>
 cnd i
 (ob (vNilC (σ5 0)) fun j =>
 ob (vFa 2 j) fun k =>
 ob (vLoad k H5) fun l =>
 ob (vIx 1 l (σ5 3)) fun m =>
 ob (vLoad m H5) fun n =>
 ob (vInt .gtr n (.int .i64 1)) fun p =>
 cnd p
 (Q5 .ret (up (up (up (up (up (up (up (up (up (up (up (up (up (up (up (up σ5 7 (σ5 3)) 8 (σ5 0)) 9 d) 10 e) 11 f) 12 g) 13 i) 16 (σ5 0)) 17 j) 18 k) 19 l) 20 (σ5 3)) 21 m) 22 n) 23 p) 2 (.bool false)) H5)
 (ob (vInt .add (σ5 3) (.int .i64 1)) fun q =>
 Q5 .normal (up (up (up (up (up (up (up (up (up (up (up (up (up (up (up (up (up (up σ5 7 (σ5 3)) 8 (σ5 0)) 9 d) 10 e) 11 f) 12 g) 13 i) 16 (σ5 0)) 17 j) 18 k) 19 l) 20 (σ5 3)) 21 m) 22 n) 23 p) 14 (σ5 3)) 15 q) 3 q) H5))
 (Q5 (.exit 0) (up (up (up (up (up (up (up σ5 7 (σ5 3)) 8 (σ5 0)) 9 d) 10 e) 11 f) 12 g) 13 i) H5)) (blkQ 0 (thenQ J4 (retQ prg [(.tmp 2)] K))) (up (up (up (up (up (S0 [a0]) 2 (.bool false)) 4 a0) 5 b) 6 c) 3 (.int .i64 0)) H2)
theorem R.q62 (h : F.q62 a0 H K) : HT prg 62 [a0].toArray H K :=
 HT_of_eq O0 mixed Tryz.func62 (by kernel_rfl) (by kernel_rfl) h
def F.q40 (a0 a1 : Value) (H : Hp) (K : Value → Hp → Prop) : Prop :=
 HT prg 70 [a0].toArray H fun b H2 =>
 gop b true (fun K3 => K3 a1 H2) H2 fun c H5 =>
 gop b true (fun K6 => HT prg 62 [c].toArray H5 K6) H5 fun d H8 =>
 ob (vPick b d (.bool false)) fun e =>
 K e H8
theorem R.q40 (h : F.q40 a0 a1 H K) : HT prg 40 [a0, a1].toArray H K :=
 HT_of_eq O0 mixed Tryz.func40 (by kernel_rfl) (by kernel_rfl) h
def F.q12 (a0 a1 a2 a3 : Value) (H : Hp) (K : Value → Hp → Prop) : Prop :=
 nw (a0 : Value).cells 26 H fun b H2 =>
 nw (a1 : Value).cells 36 H2 fun c H4 =>
 nw #[(.int .i64 0), (.int .i64 0), (.slice none 0 0)] 36 H4 fun d H6 =>
 HT prg 40 [b, c].toArray H6 fun e H8 =>
 ob (vUn .not e) fun f =>
 gop f false (fun K10 => K10 a3 H8) H8 fun g H12 =>
 gop f false (fun K13 => HT prg 38 [g, (.int .i64 0), (.int .i64 512)].toArray H12 K13) H12 fun i H15 =>
 gop f false (fun K16 => ob (vUn .not i) fun u => K16 u H15) H15 fun j H18 =>
 ob (vPick f (.bool true) j) fun k =>
 cnd k
 (ob (vBuild [(0, 1), (1, 1), (2, 1)] (.agg #[(.int .i64 0), (.int .i64 0), (.slice none 0 0)]) []) fun l =>
 st 3 d l H18 fun H21 =>
 ob (vLoadN 3 d H21) fun u22 => K (.tuple #[u22, (.bool false)]) H21)
 (HT prg 41 [b, c, a2, a3].toArray H18 fun m H24 =>
 st 3 d m H24 fun H25 =>
 ob (vLoadN 3 d H25) fun u26 => K (.tuple #[u26, (.bool true)]) H25)
theorem R.q12 (h : F.q12 a0 a1 a2 a3 H K) : HT prg 12 [a0, a1, a2, a3].toArray H K :=
 HT_of_eq O0 mixed Tryz.func12 (by kernel_rfl) (by kernel_rfl) h
def F.q13 (a0 a1 : Value) (H : Hp) (K : Value → Hp → Prop) : Prop :=
 nw (a0 : Value).cells 36 H fun b H2 =>
 HT prg 42 [b].toArray H2 fun c H4 =>
 ob (vUn .not c) fun d =>
 cnd d
 (K (.tuple #[(.int .i64 0), (.bool false)]) H4)
 (jn (fun σ6 H6 =>
 K (.tuple #[(σ6 6), (.bool true)]) H6) fun J6 =>
 lpE (fun Q7 σ7 H7 =>
 ob (vFa 2 (σ7 2)) fun e =>
 ob (vLoad e H7) fun f =>
 ob (vLenSl f) fun g =>
 ob (vInt .lss (σ7 7) g) fun i =>
 cnd i
 (ob (vFa 2 (σ7 2)) fun j =>
 ob (vLoad j H7) fun k =>
 ob (vIx 1 k (σ7 7)) fun l =>
 ob (vLoad l H7) fun m =>
 ob (vInt .eql m (σ7 1)) fun n =>
 cnd n
 (ob (vInt .add (σ7 6) (.int .i64 1)) fun p =>
 ob (vInt .add (σ7 7) (.int .i64 1)) fun q =>
 Q7 .normal (up (up (up (up (up (up (up (up (up (up (up (up (up (up (up (up (up (up σ7 10 (σ7 7)) 11 e) 12 f) 13 g) 14 i) 17 j) 18 k) 19 (σ7 7)) 20 l) 21 m) 22 (σ7 1)) 23 n) 24 (σ7 6)) 25 p) 6 p) 15 (σ7 7)) 16 q) 7 q) H7)
 (ob (vInt .add (σ7 7) (.int .i64 1)) fun r =>
 Q7 .normal (up (up (up (up (up (up (up (up (up (up (up (up (up (up (up σ7 10 (σ7 7)) 11 e) 12 f) 13 g) 14 i) 17 j) 18 k) 19 (σ7 7)) 20 l) 21 m) 22 (σ7 1)) 23 n) 15 (σ7 7)) 16 r) 7 r) H7))
 (Q7 (.exit 0) (up (up (up (up (up σ7 10 (σ7 7)) 11 e) 12 f) 13 g) 14 i) H7)) (blkQ 0 (thenQ J6 (retQ prg [(.tmp 4), (.tmp 5)] K))) (up (up (up (up (up (up (up (S0 [a0, a1]) 2 b) 4 (.int .i64 0)) 5 (.bool false)) 8 c) 9 d) 6 (.int .i64 0)) 7 (.int .i64 0)) H4)
theorem R.q13 (h : F.q13 a0 a1 H K) : HT prg 13 [a0, a1].toArray H K :=
 HT_of_eq O0 mixed Tryz.func13 (by kernel_rfl) (by kernel_rfl) h
def F.q14 (a0 a1 : Value) (H : Hp) (K : Value → Hp → Prop) : Prop :=
 ob (vLenSl a0) fun b =>
 ob (vLenSl a1) fun c =>
 ob (vInt .neq b c) fun d =>
 cnd d
 (K (.bool false) H)
 (jn (fun σ4 H4 =>
 K (.bool true) H4) fun J4 =>
 ob (vLenSl a0) fun e =>
 lpE (fun Q6 σ6 H6 =>
 ob (vInt .lss (σ6 13) (σ6 12)) fun f =>
 cnd f
 (ob (vIx 1 (σ6 0) (σ6 13)) fun g =>
 ob (vLoad g H6) fun i =>
 ob (vIx 1 (σ6 1) (σ6 13)) fun j =>
 ob (vLoad j H6) fun k =>
 ob (vInt .neq i k) fun l =>
 cnd l
 (Q6 .ret (up (up (up (up (up (up (up (up (up (up (up (up (up σ6 14 f) 15 (σ6 13)) 5 (σ6 13)) 16 (σ6 0)) 17 (σ6 13)) 18 g) 19 i) 20 (σ6 1)) 21 (σ6 13)) 22 j) 23 k) 24 l) 4 (.bool false)) H6)
 (ob (vInt .add (σ6 13) (.int .i64 1)) fun m =>
 Q6 .normal (up (up (up (up (up (up (up (up (up (up (up (up (up (up σ6 14 f) 15 (σ6 13)) 5 (σ6 13)) 16 (σ6 0)) 17 (σ6 13)) 18 g) 19 i) 20 (σ6 1)) 21 (σ6 13)) 22 j) 23 k) 24 l) 25 m) 13 m) H6))
 (Q6 (.exit 0) (up σ6 14 f) H6)) (blkQ 0 (thenQ J4 (retQ prg [(.tmp 4)] K))) (up (up (up (up (up (up (up (up (up (S0 [a0, a1]) 4 (.bool false)) 6 a0) 7 b) 8 a1) 9 c) 10 d) 11 a0) 12 e) 13 (.int .i64 0)) H)
def O.q14 : Nat → Nat × List Nat := fun i => bif Nat.beq i 6 then (0, [0, 1, 2, 3, 4, 5, 6, 7, 8]) else (0, [])
theorem R.q14 (h : F.q14 a0 a1 H K) : HT prg 14 [a0, a1].toArray H K :=
 HT_of_eq O.q14 mixed Tryz.func14 (by kernel_rfl) (by kernel_rfl) h
end Go.Proofs.YtnijdhlmimemcaaGreatDoor
