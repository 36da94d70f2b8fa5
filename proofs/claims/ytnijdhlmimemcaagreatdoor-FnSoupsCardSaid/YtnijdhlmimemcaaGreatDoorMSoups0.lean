/- Several texts in one. -/
import Derived.Test.YtnijdhlmimemcaaGreatDoorHI
import Derived.Test.YtnijdhlmimemcaaGreatDoorG0
/- Slices over a partial heap: what is read, what is owned, and what stays when something else is written. -/
namespace Go.Proofs.YtnijdhlmimemcaaGreatDoor.HL
abbrev eI : Int → Value := .int .i64
abbrev eB : Bool → Value := .bool
/-- The pointer to a slice's cell, where its elements have one cell each. -/
def ptr (v : Value) (i : Int) : Value := match v with | .slice (some a) _ _ => .pointer (some (a.add (i.toNat * 1))) | _ => undef
/-- The block that a slice or a pointer may write. -/
def bk (v : Value) : Option Nat := match v with | .slice (some a) _ c => if c = 0 then none else some a.block | .pointer (some a) => some a.block | _ => none
/-- The element at an index. -/
def at_ {α : Type} (d : α) (l : List α) (i : Int) : α := l.getD i.toNat d

/-- A slice that reads so. -/
def Sl {α : Type} (enc : α → Value) (H : Hp) (v : Value) (l : List α) : Prop :=
  ∃ a c, v = .slice a l.length c ∧ l.length ≤ c ∧ ∀ i (h : i < l.length), ∃ ad, a = some ad ∧ H.cell? (ad.add i) = some (enc l[i])
/-- A slice whose block is known whole, and may be written. -/
def Own {α : Type} (enc : α → Value) (H : Hp) (v : Value) (l : List α) : Prop :=
  ∃ a c, v = .slice a l.length c ∧ l.length ≤ c ∧ (0 < c → ∃ b off cs e, a = some ⟨b, off, none⟩ ∧ H b = some (.cells cs e (0, 0)) ∧ off + c ≤ cs.size ∧ ∀ i (h : i < l.length), cs[off + i]? = some (enc l[i]))
/-- A slice whose block is not known in a heap. -/
def Nw (H : Hp) (v : Value) : Prop := ∀ b, bk v = some b → H b = none
def Apart (u v : Value) : Prop := ∀ b, bk u = some b → bk v ≠ some b
/-- All that is known stays, but for a slice's block. -/
def Off (v : Value) (H H' : Hp) : Prop := ∀ b o, H b = some o → bk v ≠ some b → H' b = some o

theorem add_none (b off i : Nat) : (⟨b, off, none⟩ : Addr).add i = ⟨b, off + i, none⟩ := by
  unfold Addr.add
  split
  · rename_i h; subst h; rfl
  · rfl
theorem Apart.symm {u v : Value} (h : Apart u v) : Apart v u := fun b hb hu => h b hu hb
theorem Nw.le {H H' : Hp} {v : Value} (h : Nw H' v) (hl : Le H H') : Nw H v := fun b hb => by
  cases ho : H b with
  | none => rfl
  | some o => have := hl b o ho; rw [h b hb] at this; exact absurd this (by simp)
theorem Off.le {H0 H H' : Hp} {v : Value} (h : Off v H H') (hl : Le H0 H) (hn : Nw H0 v) : Le H0 H' := fun b o hb =>
  h b o (hl b o hb) (fun e => by rw [hn b e] at hb; exact absurd hb (by simp))
theorem Off.of_le {H H' : Hp} {v : Value} (h : Le H H') : Off v H H' := fun b o hb _ => h b o hb
theorem Off.trans {A B C : Hp} {v : Value} (h : Off v A B) (h' : Off v B C) : Off v A C := fun b o hb hv => h' b o (h b o hb hv) hv

section
variable {α : Type} {enc : α → Value} {H H' : Hp} {u v : Value} {l : List α}
theorem Sl.le (h : Sl enc H v l) (hl : Le H H') : Sl enc H' v l := by
  obtain ⟨a, c, rfl, hc, hr⟩ := h
  exact ⟨a, c, rfl, hc, fun i hi => by obtain ⟨ad, e, hh⟩ := hr i hi; exact ⟨ad, e, hl.cell hh⟩⟩
theorem Sl.len (h : Sl enc H v l) : vLenSl v = some (.int .i64 l.length) := by
  obtain ⟨a, c, rfl, hc, hr⟩ := h; rfl
theorem Sl.ix (h : Sl enc H v l) {k : IntKind} {i : Int} (h0 : 0 ≤ i) (h1 : i < l.length) : vIx 1 v (.int k i) = some (ptr v i) := by
  obtain ⟨a, c, rfl, hc, hr⟩ := h
  obtain ⟨ad, rfl, hh⟩ := hr i.toNat (by omega)
  simp only [vIx, ptr]
  rw [if_pos ⟨h0, by simpa using h1⟩]
theorem Sl.ld (h : Sl enc H v l) (d : α) {i : Int} (h0 : 0 ≤ i) (h1 : i < l.length) : vLoad (ptr v i) H = some (enc (at_ d l i)) := by
  obtain ⟨a, c, rfl, hc, hr⟩ := h
  have hi : i.toNat < l.length := by omega
  obtain ⟨ad, rfl, hh⟩ := hr i.toNat hi
  simp only [vLoad, ptr, Nat.mul_one, hh, at_, List.getD_eq_getElem?_getD, List.getElem?_eq_getElem hi, Option.getD_some]
theorem Sl.nil (c : Nat) (a : Option Addr) : Sl enc H (.slice a 0 c) [] := ⟨a, c, rfl, by simp, fun i hi => absurd hi (by simp)⟩

theorem Own.len (h : Own enc H v l) : vLenSl v = some (.int .i64 l.length) := by
  obtain ⟨a, c, rfl, hc, hr⟩ := h; rfl
theorem Own.sl (h : Own enc H v l) : Sl enc H v l := by
  obtain ⟨a, c, rfl, hc, hr⟩ := h
  refine ⟨a, c, rfl, hc, fun i hi => ?_⟩
  obtain ⟨b, off, cs, e, rfl, hb, hs, hcs⟩ := hr (by omega)
  exact ⟨_, rfl, by simp only [Hp.cell?, add_none, hb, hcs i hi]; rfl⟩
theorem Own.off (h : Own enc H u l) (ho : Off v H H') (ha : Apart u v) : Own enc H' u l := by
  obtain ⟨a, c, rfl, hc, hr⟩ := h
  refine ⟨a, c, rfl, hc, fun h0 => ?_⟩
  obtain ⟨b, off, cs, e, rfl, hb, hs, hcs⟩ := hr h0
  refine ⟨b, off, cs, e, rfl, ho b _ hb (ha b ?_), hs, hcs⟩
  simp only [bk]
  rw [if_neg (by omega)]
theorem Own.le (h : Own enc H u l) (hl : Le H H') : Own enc H' u l := by
  obtain ⟨a, c, rfl, hc, hr⟩ := h
  refine ⟨a, c, rfl, hc, fun h0 => ?_⟩
  obtain ⟨b, off, cs, e, rfl, hb, hs, hcs⟩ := hr h0
  exact ⟨b, off, cs, e, rfl, hl b _ hb, hs, hcs⟩
theorem Own.known (h : Own enc H u l) : ∀ b, bk u = some b → ∃ o, H b = some o := by
  obtain ⟨a, c, rfl, hc, hr⟩ := h
  intro b hb
  cases a with
  | none => simp [bk] at hb
  | some ad =>
    simp only [bk] at hb
    by_cases h0 : c = 0
    · rw [if_pos h0] at hb; simp at hb
    · rw [if_neg h0] at hb
      obtain ⟨b', off, cs, e, he, hbb, _⟩ := hr (by omega)
      simp only [Option.some.injEq] at hb he
      subst he
      simp only at hb
      subst hb
      exact ⟨_, hbb⟩
theorem Own.apart (h : Own enc H u l) (hn : Nw H v) : Apart u v := fun b hb hv => by
  obtain ⟨o, ho⟩ := h.known b hb
  rw [hn b hv] at ho
  exact absurd ho (by simp)
theorem Apart.of_nw {H : Hp} {u v : Value} (hu : ∀ b, bk u = some b → ∃ o, H b = some o) (hn : Nw H v) : Apart u v := fun b hb hv => by
  obtain ⟨o, ho⟩ := hu b hb
  rw [hn b hv] at ho
  exact absurd ho (by simp)
theorem Own.nil_of (a : Option Addr) : Own enc H (.slice a 0 0) [] := ⟨a, 0, rfl, by simp, fun h0 => absurd h0 (by simp)⟩

/-- A write of one cell. -/
theorem Own.st (h : Own enc H v l) {x : α} {K : Hp → Prop} {i : Int} (h0 : 0 ≤ i) (h1 : i < l.length) (hx : oneCell (enc x) = true) (hz : (enc x).cells = #[enc x])
    (hk : ∀ H', Own enc H' v (l.set i.toNat x) → Off v H H' → K H') : st 1 (ptr v i) (enc x) H K := by
  obtain ⟨a, c, rfl, hc, hr⟩ := h
  obtain ⟨b, off, cs, e, rfl, hb, hs, hcs⟩ := hr (by omega)
  have hi : i.toNat < l.length := by omega
  simp only [HL.st, ptr, hz, List.toList_toArray, Nat.mul_one, List.size_toArray, List.length_singleton, true_and, stC]
  refine ⟨hx, ?_, ?_, ?_⟩
  · simp only [Hp.cell?, add_none, hb, hcs _ hi, Nat.add_zero]; rfl
  · simp only [Hp.frozen?, add_none, hb]; simp
  · refine hk _ ⟨_, c, by simp, by simpa using hc, fun _ => ⟨b, off, cs.setIfInBounds (off + i.toNat) (enc x), e, rfl, ?_, by simpa using hs, ?_⟩⟩ ?_
    · simp only [Hp.setCell, add_none, hb, Nat.add_zero, Hp.put_same]; rfl
    · intro j hj
      have hj' : j < l.length := by simpa using hj
      rw [Array.getElem?_setIfInBounds]
      by_cases e1 : off + i.toNat = off + j
      · have : i.toNat = j := by omega
        subst this
        rw [if_pos rfl, if_pos (by omega)]; simp
      · have : i.toNat ≠ j := by omega
        rw [if_neg e1, hcs j hj', List.getElem_set_ne this]
    · intro x' o ho hv
      simp only [bk, if_neg (by omega : ¬ c = 0)] at hv
      simp only [Hp.setCell, add_none, hb]
      rw [Hp.put_ne _ _ (by rintro rfl; exact hv rfl)]
      exact ho

theorem zrow_get (z : Value) (n i : Nat) (h : i < n) : (zrow #[z] n)[i]? = some z := by
  simp only [zrow, List.size_toArray, List.length_singleton, Nat.mod_one]
  simp [h]
theorem zrow_size (zs : Array Value) (n : Nat) : (zrow zs n).size = n := by simp [zrow]

/-- A new row. -/
theorem Own.mk_ {bytes : Nat} {z : α} {e : TypeId} {k k' : IntKind} {n c : Int} {K : Value → Hp → Prop} (h0 : 0 ≤ n) (h1 : n ≤ c) (h2 : c ≤ 281474976710656) (h3 : bytes * c ≤ 281474976710656)
    (hk : ∀ v H', Own enc H' v (List.replicate n.toNat z) → Nw H v → Le H H' → K v H') : mkS 1 bytes #[enc z] e (.int k n) (.int k' c) H K := by
  refine ⟨h0, h1, h2, h3, fun r hr => hk _ _ ⟨some ⟨r, 0, none⟩, c.toNat, by simp, by simp; omega, fun h4 => ⟨r, 0, _, e, rfl, Hp.put_same _ _ _, ?_, ?_⟩⟩ ?_ (Le.put _ hr)⟩
  · rw [Nat.mul_one, if_neg (by omega), zrow_size]; omega
  · intro i hi
    have : i < n.toNat := by simpa using hi
    rw [Nat.mul_one, if_neg (by omega), Nat.zero_add, zrow_get _ _ _ (by omega)]; simp
  · intro b hb
    simp only [bk] at hb
    split at hb
    · simp at hb
    · simp only [Option.some.injEq] at hb; subst hb; exact hr

theorem rd_cells (ad : Addr) : ∀ (n s : Nat) (l : List α), l.length = n → (∀ i (h : i < l.length), H.cell? (ad.add (s + i)) = some (enc l[i])) → rdCells H ad s n = some (l.map enc)
  | 0, s, l, hn, _ => by have : l = [] := List.length_eq_zero_iff.mp hn; subst this; rfl
  | n + 1, s, l, hn, h => by
    cases l with
    | nil => simp at hn
    | cons x r =>
      simp only [rdCells]
      have h0 := h 0 (by simp)
      simp only [Nat.add_zero, List.getElem_cons_zero] at h0
      rw [h0, rd_cells ad n (s + 1) r (by simpa using hn) (fun i hi => by
        have := h (i + 1) (by simpa using hi)
        rw [show s + 1 + i = s + (i + 1) by omega]
        simpa using this)]
      rfl
theorem Sl.firstC (h : Sl enc H v l) : firstC H 1 l.length v = some (l.map enc) := by
  obtain ⟨a, c, rfl, hc, hr⟩ := h
  cases l with
  | nil => cases a <;> rfl
  | cons x r =>
    obtain ⟨ad, rfl, _⟩ := hr 0 (by simp)
    simp only [HL.firstC, Nat.mul_one]
    exact rd_cells ad _ 0 _ rfl (fun i hi => by obtain ⟨ad', e, hh⟩ := hr i hi; cases e; simpa using hh)
theorem Sl.lenO (h : Sl enc H v l) : lenO v = some l.length := by
  obtain ⟨a, c, rfl, hc, hr⟩ := h; rfl

theorem stC_run {K : Hp → Prop} {b : Nat} {e : TypeId} : ∀ (m : List Value) (ad : Addr) (i : Nat) (cs : Array Value) (H : Hp), ad.block = b → ad.spot = none → H b = some (.cells cs e (0, 0)) → ad.off + i + m.length ≤ cs.size →
    (∀ x ∈ m, oneCell x = true) →
    (∀ H' cs', H' b = some (.cells cs' e (0, 0)) → cs'.size = cs.size → (∀ j, j < ad.off + i → cs'[j]? = cs[j]?) → (∀ j (h : j < m.length), cs'[ad.off + i + j]? = some m[j]) → (∀ x, x ≠ b → H' x = H x) → K H') → stC ad K m i H
  | [], ad, i, cs, H, hb, hsp, hH, hs, ho, hk => hk H cs hH rfl (fun _ _ => rfl) (fun j h => absurd h (by simp)) (fun _ _ => rfl)
  | x :: m, ad, i, cs, H, hb, hsp, hH, hs, ho, hk => by
    obtain ⟨abk, aoff, asp⟩ := ad
    simp only at hb hsp hs hk
    subst hb hsp
    simp only [List.length_cons] at hs
    refine ⟨ho x (by simp), ?_, ?_, ?_⟩
    · simp only [Hp.cell?, add_none, hH]
      rw [Array.getElem?_eq_getElem (by omega)]; rfl
    · simp only [Hp.frozen?, add_none, hH]; simp
    · refine stC_run (b := abk) (e := e) m _ (i + 1) (cs.setIfInBounds (aoff + i) x) _ rfl rfl ?_ (by simp; omega) (fun y hy => ho y (by simp [hy])) ?_
      · simp only [Hp.setCell, add_none, hH, Hp.put_same]; rfl
      · intro H' cs' h1 h2 h3 h4 h5
        refine hk H' cs' h1 (by simpa using h2) ?_ ?_ ?_
        · intro j hj
          rw [h3 j (by simp only; omega), Array.getElem?_setIfInBounds_ne (by omega)]
        · intro j hj
          cases j with
          | zero =>
            rw [Nat.add_zero, h3 _ (by simp only; omega), Array.getElem?_setIfInBounds_self_of_lt (by omega)]; rfl
          | succ j =>
            have := h4 j (by simpa using hj)
            simp only at this
            rw [show aoff + i + (j + 1) = aoff + (i + 1) + j by omega, this]; rfl
        · intro x' hx'
          rw [h5 x' hx']
          simp only [Hp.setCell, add_none, hH]
          rw [Hp.put_ne _ _ hx']

/-- An append. -/
theorem Own.apd {bytes : Nat} {z : Value} {e : TypeId} {w : Value} {m : List α} {K : Value → Hp → Prop} (h : Own enc H v l) (hm : Sl enc H w m) (ho : ∀ x, oneCell (enc x) = true)
    (hb : l.length + m.length < 9223372036854775808) (hc : ∀ c, l.length + m.length > c → Builtin.nextslicecap (l.length + m.length) c * bytes ≤ 281474976710656)
    (hk : ∀ v' H', Own enc H' v' (l ++ m) → Off v H H' → (∀ b, bk v' = some b → bk v = some b ∨ H b = none) → K v' H') : apd 1 bytes #[z] e v w H K := by
  have hmf := hm.firstC
  have hml := hm.lenO
  have hlf := h.sl.firstC
  obtain ⟨a, c, rfl, hlc, hr⟩ := h
  simp only [HL.apd, hml]
  by_cases hcap : l.length + m.length ≤ c
  · rw [if_pos hcap]
    simp only [hmf]
    by_cases hc0 : c = 0
    · have hl : l = [] := List.length_eq_zero_iff.mp (by omega)
      have hm' : m = [] := List.length_eq_zero_iff.mp (by omega)
      subst hl hm' hc0
      have : K (.slice a (([] : List α).length + ([] : List α).length) 0) H := hk _ H ⟨a, 0, rfl, by simp, fun h0 => absurd h0 (by simp)⟩ (fun b o hb _ => hb) (fun b hb => by cases a <;> simp [bk] at hb)
      cases a with
      | none => exact this
      | some ad => exact this
    · obtain ⟨b, off, cs, e', rfl, hbb, hs, hcs⟩ := hr (by omega)
      simp only [add_none, Nat.mul_one]
      refine stC_run (b := b) (e := e') (m.map enc) _ 0 cs H rfl rfl hbb (by simp; omega) (by simp; intro x _; exact ho x) ?_
      intro H' cs' h1 h2 h3 h4 h5
      simp only [Nat.add_zero] at h3 h4
      refine hk _ H' ⟨some ⟨b, off, none⟩, c, by simp, by simpa using hcap, fun _ => ⟨b, off, cs', e', rfl, h1, by omega, ?_⟩⟩ ?_ ?_
      · intro i hi
        by_cases hil : i < l.length
        · rw [h3 _ (by omega), hcs i hil, List.getElem_append_left hil]
        · have := h4 (i - l.length) (by simp at hi ⊢; omega)
          rw [show off + l.length + (i - l.length) = off + i by omega] at this
          rw [this, List.getElem_append_right (by omega)]; simp
      · intro x o hx hne
        simp only [bk, if_neg hc0] at hne
        rw [h5 x (by rintro rfl; exact hne rfl)]; exact hx
      · intro x hx
        left; exact hx
  · rw [if_neg hcap]
    refine ⟨hb, hc c (by omega), ?_⟩
    simp only [hlf, hmf]
    intro c' hc1 hc2 r hr'
    refine hk _ _ ⟨some ⟨r, 0, none⟩, c', by simp, by simpa using hc1, fun _ => ⟨r, 0, _, e, rfl, Hp.put_same _ _ _, ?_, ?_⟩⟩ ?_ ?_
    · have : (Builtin.zeroCells #[z] (c' - (l.length + m.length))).size = c' - (l.length + m.length) := by simp [Builtin.zeroCells]
      simp [this]; omega
    · intro i hi
      rw [Nat.zero_add, Array.getElem?_append_left (by simpa using hi)]
      rw [← Array.getElem?_toList]
      simp only [Array.toList_append, ← List.map_append, List.getElem?_map]
      rw [List.getElem?_eq_getElem hi]; rfl
    · intro x o hx _
      rw [Hp.put_ne _ _ (by rintro rfl; rw [hr'] at hx; exact absurd hx (by simp))]; exact hx
    · intro x hx
      right
      simp only [bk] at hx
      split at hx
      · simp at hx
      · simp only [Option.some.injEq] at hx; subst hx; exact hr'
end
end Go.Proofs.YtnijdhlmimemcaaGreatDoor.HL
/- Values and loops over a partial heap: the rules that a proof of a function's text uses. -/
namespace Go.Proofs.YtnijdhlmimemcaaGreatDoor.HL
theorem cnd_i {b : Bool} {A B : Prop} (h1 : b = true → A) (h2 : b = false → B) : cnd (.bool b) A B := by
  cases b
  · exact h2 rfl
  · exact h1 rfl
theorem cnd_d {p : Prop} [Decidable p] {A B : Prop} (h1 : p → A) (h2 : ¬ p → B) : cnd (.bool (decide p)) A B := by
  by_cases h : p
  · rw [decide_eq_true h]; exact h1 h
  · rw [decide_eq_false h]; exact h2 h
theorem gop_tt (F : (Value → Hp → Prop) → Prop) (H : Hp) (K : Value → Hp → Prop) : gop (.bool true) true F H K = F K := rfl
theorem gop_ft (F : (Value → Hp → Prop) → Prop) (H : Hp) (K : Value → Hp → Prop) : gop (.bool false) true F H K = K undef H := rfl
theorem vPick_t (a b : Value) : vPick (.bool true) a b = some a := rfl
theorem vPick_f (a b : Value) : vPick (.bool false) a b = some b := rfl
theorem vExt_20 (a b : Value) : vExt (.tuple #[a, b]) 0 = some a := rfl
theorem vExt_21 (a b : Value) : vExt (.tuple #[a, b]) 1 = some b := rfl
theorem vExt_30 (a b c : Value) : vExt (.tuple #[a, b, c]) 0 = some a := rfl
theorem vExt_31 (a b c : Value) : vExt (.tuple #[a, b, c]) 1 = some b := rfl
theorem vExt_32 (a b c : Value) : vExt (.tuple #[a, b, c]) 2 = some c := rfl
theorem vExt_40 (a b c d : Value) : vExt (.tuple #[a, b, c, d]) 0 = some a := rfl
theorem vExt_41 (a b c d : Value) : vExt (.tuple #[a, b, c, d]) 1 = some b := rfl
theorem vExt_42 (a b c d : Value) : vExt (.tuple #[a, b, c, d]) 2 = some c := rfl
theorem vExt_43 (a b c d : Value) : vExt (.tuple #[a, b, c, d]) 3 = some d := rfl
theorem vUn_not (b : Bool) : vUn .not (.bool b) = some (.bool !b) := rfl
theorem vInt_lss (k : IntKind) (a b : Int) : vInt .lss (.int k a) (.int k b) = some (.bool (decide (a < b))) := by simp [vInt]
theorem vInt_leq (k : IntKind) (a b : Int) : vInt .leq (.int k a) (.int k b) = some (.bool (decide (a ≤ b))) := by simp [vInt]
theorem vInt_gtr (k : IntKind) (a b : Int) : vInt .gtr (.int k a) (.int k b) = some (.bool (decide (b < a))) := by simp [vInt]
theorem vInt_geq (k : IntKind) (a b : Int) : vInt .geq (.int k a) (.int k b) = some (.bool (decide (b ≤ a))) := by simp [vInt]
theorem vInt_eql (k : IntKind) (a b : Int) : vInt .eql (.int k a) (.int k b) = some (.bool (decide (a = b))) := by
  simp only [vInt, if_true]; rfl
theorem vInt_neq (k : IntKind) (a b : Int) : vInt .neq (.int k a) (.int k b) = some (.bool (decide (a ≠ b))) := by
  simp only [vInt, if_true, bne, ne_eq, decide_not]; rfl
theorem wrap64 {x : Int} (h : -9223372036854775808 ≤ x) (h' : x < 9223372036854775808) : IntKind.i64.wrap x = x := by
  unfold IntKind.wrap; simp [IntKind.signed, IntKind.bits]; omega
theorem vInt_add {a b : Int} (h : -9223372036854775808 ≤ a + b) (h' : a + b < 9223372036854775808) : vInt .add (.int .i64 a) (.int .i64 b) = some (.int .i64 (a + b)) := by
  simp only [vInt, if_true, wrap64 h h']
theorem vInt_sub {a b : Int} (h : -9223372036854775808 ≤ a - b) (h' : a - b < 9223372036854775808) : vInt .sub (.int .i64 a) (.int .i64 b) = some (.int .i64 (a - b)) := by
  simp only [vInt, if_true, wrap64 h h']
theorem vInt_mul {a b : Int} (h : -9223372036854775808 ≤ a * b) (h' : a * b < 9223372036854775808) : vInt .mul (.int .i64 a) (.int .i64 b) = some (.int .i64 (a * b)) := by
  simp only [vInt, if_true, wrap64 h h']
theorem vInt_rem {a b : Int} (h : b ≠ 0) : vInt .rem (.int .i64 a) (.int .i64 b) = some (.int .i64 (a.tmod b)) := by
  simp only [vInt]; rw [if_pos ⟨trivial, h⟩]
theorem vInt_quo {a b : Int} (h : 0 < b) (h1 : -9223372036854775808 ≤ a) (h2 : a < 9223372036854775808) : vInt .quo (.int .i64 a) (.int .i64 b) = some (.int .i64 (a.tdiv b)) := by
  have e : IntKind.i64.wrap (a.tdiv b) = a.tdiv b := by
    have h3 := Int.natAbs_tdiv_le_natAbs a b
    by_cases h0 : 0 ≤ a
    · have := Int.tdiv_nonneg h0 (Int.le_of_lt h)
      exact wrap64 (by omega) (by omega)
    · have h4 := Int.tdiv_nonneg (a := -a) (by omega) (Int.le_of_lt h)
      rw [Int.neg_tdiv] at h4
      exact wrap64 (by omega) (by omega)
  simp only [vInt]; rw [if_pos ⟨trivial, by omega⟩, e]
theorem vCI_64 (k : IntKind) {a : Int} (h : -9223372036854775808 ≤ a) (h' : a < 9223372036854775808) : vCI .i64 (.int k a) = some (.int .i64 a) := by
  simp only [vCI, wrap64 h h']

/-- What is reckoned at once: the rules of straight code. -/
theorem EV : (∀ (a : Value) (K : Value → Prop), ob (some a) K = K a) ∧ (∀ F H K, gop (.bool true) true F H K = F K) ∧ (∀ F H K, gop (.bool false) true F H K = K undef H) ∧
    (∀ F H K, gop (.bool true) false F H K = K undef H) ∧ (∀ F H K, gop (.bool false) false F H K = F K) ∧ (∀ a b, vPick (.bool true) a b = some a) ∧ (∀ a b, vPick (.bool false) a b = some b) ∧
    (∀ b, vUn .not (.bool b) = some (.bool !b)) ∧ ((!true) = false) ∧ ((!false) = true) ∧ (∀ A B, cnd (.bool true) A B = A) ∧ (∀ A B, cnd (.bool false) A B = B) ∧
    (∀ a b, vBool .eql (.bool a) (.bool b) = some (.bool (a == b))) ∧ (∀ a b, vBool .neq (.bool a) (.bool b) = some (.bool (!(a == b)))) ∧ (∀ b : Bool, (b == b) = true) ∧
    (∀ k a b, vInt .neq (.int k a) (.int k b) = some (.bool (decide (a ≠ b)))) ∧ (∀ k a b, vInt .lss (.int k a) (.int k b) = some (.bool (decide (a < b)))) ∧ (∀ k a b, vInt .gtr (.int k a) (.int k b) = some (.bool (decide (b < a)))) ∧
    (∀ k a b, vInt .leq (.int k a) (.int k b) = some (.bool (decide (a ≤ b)))) ∧ (∀ k a b, vInt .geq (.int k a) (.int k b) = some (.bool (decide (b ≤ a)))) ∧ (∀ k a b, vInt .eql (.int k a) (.int k b) = some (.bool (decide (a = b)))) ∧
    (∀ a : Int, decide (a ≠ a) = false) ∧ (∀ a : Int, decide (a = a) = true) ∧ (decide False = false) ∧ (decide True = true) ∧
    (∀ a b, vExt (.tuple #[a, b]) 0 = some a) ∧ (∀ a b, vExt (.tuple #[a, b]) 1 = some b) ∧ (∀ a b c, vExt (.tuple #[a, b, c]) 0 = some a) ∧ (∀ a b c, vExt (.tuple #[a, b, c]) 1 = some b) ∧ (∀ a b c, vExt (.tuple #[a, b, c]) 2 = some c) ∧
    (∀ a b c d, vExt (.tuple #[a, b, c, d]) 0 = some a) ∧ (∀ a b c d, vExt (.tuple #[a, b, c, d]) 1 = some b) ∧ (∀ a b c d, vExt (.tuple #[a, b, c, d]) 2 = some c) ∧ (∀ a b c d, vExt (.tuple #[a, b, c, d]) 3 = some d) :=
  ⟨fun _ _ => rfl, fun _ _ _ => rfl, fun _ _ _ => rfl, fun _ _ _ => rfl, fun _ _ _ => rfl, fun _ _ => rfl, fun _ _ => rfl, fun _ => rfl, rfl, rfl, fun _ _ => rfl, fun _ _ => rfl,
    fun _ _ => rfl, fun _ _ => rfl, fun b => by simp, fun _ _ _ => vInt_neq _ _ _, fun _ _ _ => vInt_lss _ _ _, fun _ _ _ => vInt_gtr _ _ _, fun _ _ _ => vInt_leq _ _ _, fun _ _ _ => vInt_geq _ _ _, fun _ _ _ => vInt_eql _ _ _,
    fun a => by simp, fun a => by simp, by simp, by simp, fun _ _ => rfl, fun _ _ => rfl, fun _ _ _ => rfl, fun _ _ _ => rfl, fun _ _ _ => rfl, fun _ _ _ _ => rfl, fun _ _ _ _ => rfl, fun _ _ _ _ => rfl, fun _ _ _ _ => rfl⟩

theorem ob_i {α : Type} {x : Option α} {a : α} {K : α → Prop} (h : x = some a) (hk : K a) : ob x K := by rw [h]; exact hk
theorem cnd_t1 {A B : Prop} (h : A) : cnd (.bool true) A B := h
theorem cnd_f1 {A B : Prop} (h : B) : cnd (.bool false) A B := h
theorem gop_rt {F : (Value → Hp → Prop) → Prop} {H : Hp} {K : Value → Hp → Prop} (h : F K) : gop (.bool true) true F H K := h
theorem gop_rf {F : (Value → Hp → Prop) → Prop} {H : Hp} {K : Value → Hp → Prop} (h : F K) : gop (.bool false) false F H K := h
theorem gop_st {F : (Value → Hp → Prop) → Prop} {H : Hp} {K : Value → Hp → Prop} (h : K undef H) : gop (.bool true) false F H K := h
theorem gop_sf {F : (Value → Hp → Prop) → Prop} {H : Hp} {K : Value → Hp → Prop} (h : K undef H) : gop (.bool false) true F H K := h
theorem Own.one {α : Type} {enc : α → Value} {H : Hp} {v : Value} {l : List α} (h : Own enc H v l) : oneCell v = true := by
  obtain ⟨a, c, rfl, _⟩ := h; rfl
theorem Own.cells {α : Type} {enc : α → Value} {H : Hp} {v : Value} {l : List α} (h : Own enc H v l) : v.cells = #[v] := by
  obtain ⟨a, c, rfl, _⟩ := h; rfl
theorem Sl.one {α : Type} {enc : α → Value} {H : Hp} {v : Value} {l : List α} (h : Sl enc H v l) : oneCell v = true := by
  obtain ⟨a, c, rfl, _⟩ := h; rfl
theorem Sl.cells {α : Type} {enc : α → Value} {H : Hp} {v : Value} {l : List α} (h : Sl enc H v l) : v.cells = #[v] := by
  obtain ⟨a, c, rfl, _⟩ := h; rfl

/-- A loop's next round. -/
theorem nxt {I : Nat → S → Hp → Prop} {Q : Exit → S → Hp → Prop} {σ : S} {H : Hp} {n : Nat} (m : Nat) (hm : m < n) (h : I m σ H) : thenQ (fun σ' H' => ∃ m, m < n ∧ I m σ' H') Q .normal σ H := ⟨m, hm, h⟩
theorem retK {K : Value → Hp → Prop} {v v' : Value} {H : Hp} (e : v = v') (h : K v' H) : K v H := e ▸ h

/-- Several ways that meet: what holds where they meet. -/
theorem jn_i {K : S → Hp → Prop} {F : (S → Hp → Prop) → Prop} (P : S → Hp → Prop) (h : ∀ σ H, P σ H → K σ H) (hf : ∀ J : S → Hp → Prop, (∀ σ H, P σ H → J σ H) → F J) : jn K F := hf K h

theorem kF {p : Prop} [Decidable p] {K : Value → Hp → Prop} {H : Hp} (hk : K (.bool (decide p)) H) (h : ¬ p) : K (.bool false) H := by rw [decide_eq_false h] at hk; exact hk
theorem kT {p : Prop} [Decidable p] {K : Value → Hp → Prop} {H : Hp} (hk : K (.bool (decide p)) H) (h : p) : K (.bool true) H := by rw [decide_eq_true h] at hk; exact hk
theorem kQ {p q : Prop} [Decidable p] [Decidable q] {K : Value → Hp → Prop} {H : Hp} (hk : K (.bool (decide p)) H) (h : p ↔ q) : K (.bool (decide q)) H := by rw [decide_eq_decide.mpr h] at hk; exact hk

/-! ### copies -/
theorem growBy_le (n : Nat) : ∀ (r c : Nat), Builtin.growBy n r c ≤ max c (n + (n + 768) / 4)
  | 0, c => by simp only [Builtin.growBy]; omega
  | r + 1, c => by
    simp only [Builtin.growBy]
    split
    · omega
    · have := growBy_le n r (c + (c + 768) / 4)
      omega
theorem nsc_le {n c : Nat} (h : n > c) : Builtin.nextslicecap n c ≤ 2 * n + 1024 := by
  unfold Builtin.nextslicecap
  split
  · omega
  · split
    · omega
    · have := growBy_le n 4 c; omega
theorem bS_nil {α : Type} {enc : α → Value} {z : Value} {sz : Nat} {e : TypeId} {H : Hp} {K : Value → Hp → Prop} (hk : ∀ v H', Own enc H' v [] → Nw H v → bk v = none → Le H H' → K v H') : bS sz 0 #[z] e [] H K := by
  refine ⟨by simp, ?_⟩
  rw [if_pos (by simp)]
  show match some (#[] : Array Value) with
    | some cells => ∀ r, H r = none → K (.slice (some ⟨r, 0, none⟩) 0 0) (H.put r (.cells cells e))
    | none => False
  intro r hr
  refine hk _ _ ⟨some ⟨r, 0, none⟩, 0, rfl, by simp, fun h0 => absurd h0 (by simp)⟩ ?_ rfl (Le.put _ hr)
  intro b hb
  simp [bk] at hb
/-- An append to an empty slice of its own: a copy. -/
theorem apd_nil {α : Type} {enc : α → Value} {z : Value} {b : Nat} {e : TypeId} {a v1 : Value} {l : List α} {H : Hp} {K : Value → Hp → Prop} (o1 : Own enc H v1 []) (k1 : bk v1 = none) (ha : Sl enc H a l) (ho : ∀ x, oneCell (enc x) = true) (hb : b ≤ 64) (hl : l.length ≤ 68719476736)
    (hk : ∀ v H', Own enc H' v l → Nw H v → Le H H' → K v H') : apd 1 b #[z] e v1 a H K := by
  refine o1.apd ha ho (by simp; omega) (fun c hc => ?_) (fun v2 H2 o2 off2 hbk => ?_)
  · have := nsc_le hc
    simp only [List.length_nil, Nat.zero_add] at this ⊢
    exact Nat.le_trans (Nat.mul_le_mul this hb) (by omega)
  · rw [List.nil_append] at o2
    refine hk v2 H2 o2 (fun x hx => ?_) (fun x o hx => off2 x o hx (by rw [k1]; simp))
    rcases hbk x hx with h | h
    · rw [k1] at h; simp at h
    · exact h
theorem Own.isSl {α : Type} {enc : α → Value} {H : Hp} {v : Value} {l : List α} (h : Own enc H v l) : ∃ a n c, v = .slice a n c := by
  obtain ⟨a, c, h, _⟩ := h; exact ⟨_, _, _, h⟩
theorem Sl.isSl {α : Type} {enc : α → Value} {H : Hp} {v : Value} {l : List α} (h : Sl enc H v l) : ∃ a n c, v = .slice a n c := by
  obtain ⟨a, c, h, _⟩ := h; exact ⟨_, _, _, h⟩
/-- A copy of a slice: an append to an empty one. -/
theorem clone_i {α : Type} {enc : α → Value} {z z' : Value} {sz b : Nat} {e e' : TypeId} {a : Value} {l : List α} {H : Hp} {K : Value → Value → Hp → Prop} (ha : Sl enc H a l) (ho : ∀ x, oneCell (enc x) = true) (hb : b ≤ 64) (hl : l.length ≤ 68719476736)
    (hk : ∀ v1 v H', Own enc H' v l → Nw H v → Le H H' → K v1 v H') : bS sz 0 #[z] e [] H (fun v1 H1 => apd 1 b #[z'] e' v1 a H1 (K v1)) := by
  refine bS_nil (enc := enc) (fun v1 H1 o1 n1 k1 le1 => ?_)
  refine o1.apd (ha.le le1) ho (by simp; omega) (fun c hc => ?_) (fun v2 H2 o2 off2 hbk => ?_)
  · have := nsc_le hc
    simp only [List.length_nil, Nat.zero_add] at this ⊢
    exact Nat.le_trans (Nat.mul_le_mul this hb) (by omega)
  · rw [List.nil_append] at o2
    have hle : Le H1 H2 := fun x o hx => off2 x o hx (by rw [k1]; simp)
    refine hk v1 v2 H2 o2 (fun x hx => ?_) (le1.trans hle)
    rcases hbk x hx with h | h
    · rw [k1] at h; simp at h
    · cases ho : H x with
      | none => rfl
      | some o => rw [le1 x o ho] at h; simp at h

/-! ### lists by index -/
theorem at_eq {α : Type} (d : α) (l : List α) {i : Nat} (h : i < l.length) : at_ d l (i : Int) = l[i] := by
  unfold at_; rw [Int.toNat_natCast, List.getD_eq_getElem?_getD, List.getElem?_eq_getElem h]; rfl
theorem take_at {α : Type} (d : α) (l : List α) {i : Nat} (h : i < l.length) : l.take (i + 1) = l.take i ++ [at_ d l (i : Int)] := by
  rw [at_eq d l h, List.take_append_getElem h]
theorem at_mem {α : Type} (d : α) (l : List α) {i : Int} (h0 : 0 ≤ i) (h : i < l.length) : at_ d l i ∈ l := by
  have hn : i.toNat < l.length := by omega
  unfold at_; rw [List.getD_eq_getElem?_getD, List.getElem?_eq_getElem hn]; exact List.getElem_mem hn
end Go.Proofs.YtnijdhlmimemcaaGreatDoor.HL
/- Functions' texts over a partial heap. -/
namespace Go.Proofs.YtnijdhlmimemcaaGreatDoor
open HL
set_option linter.unusedVariables false
set_option maxRecDepth 100000
set_option maxHeartbeats 4000000
/-! loop.example/g01381/laws.b10Long: function 5 -/
def F.laws_b10Long (a0 a1 : Value) (H : Hp) (K : Value → Hp → Prop) : Prop :=
  ob (vLenSl a0) fun v6x1 =>
  ob (vInt .gtr v6x1 (.int .i64 1048576)) fun v7x2 =>
  gop v7x2 false (fun K3 => K3 a1 H) H fun v9x4 H5 =>
  gop v7x2 false (fun K6 => ob (vLenSl v9x4) fun u => K6 u H5) H5 fun v10x7 H8 =>
  gop v7x2 false (fun K9 => ob (vInt .gtr v10x7 (.int .i64 1048576)) fun u => K9 u H8) H8 fun v11x10 H11 =>
  ob (vPick v7x2 (.bool true) v11x10) fun v12x12 =>
  K v12x12 H11
def O.laws_b10Long : Nat → Nat × List Nat := fun i => (0, [])
theorem R.laws_b10Long {a0 a1 : Value} {H : Hp} {K : Value → Hp → Prop} (h : F.laws_b10Long a0 a1 H K) : HT prg I.laws_b10Long [a0, a1].toArray H K :=
  HT_of_fev O.laws_b10Long mixed Tryz.func5 (by kernel_rfl) (Eq.mpr (by kernel_rfl : fev prg O.laws_b10Long Tryz.f5 [a0, a1] H K = F.laws_b10Long a0 a1 H K) h)

/-! loop.example/g01381/spec.l00From: function 23 -/
def F.spec_l00From (a0 : Value) (H : Hp) (K : Value → Hp → Prop) : Prop :=
  ob (vBuild [(0, 1), (1, 1), (2, 1)] (.agg #[(.slice none 0 0), (.int .i64 0), (.int .u64 0)]) [(0, a0)]) fun v4x1 =>
  nw (v4x1 : Value).cells 95 H fun v5x2 H3 =>
  K v5x2 H3
def O.spec_l00From : Nat → Nat × List Nat := fun i => (0, [])
theorem R.spec_l00From {a0 : Value} {H : Hp} {K : Value → Hp → Prop} (h : F.spec_l00From a0 H K) : HT prg I.spec_l00From [a0].toArray H K :=
  HT_of_fev O.spec_l00From mixed Tryz.func23 (by kernel_rfl) (Eq.mpr (by kernel_rfl : fev prg O.spec_l00From Tryz.f23 [a0] H K = F.spec_l00From a0 H K) h)

/-! (*loop.example/g01381/spec.l00Src).next: function 95 -/
def F.pspec_l00Src_next (a0 : Value) (H : Hp) (K : Value → Hp → Prop) : Prop :=
  jn (fun σ1 H1 =>
    ob (vNilC (σ1 0)) fun v26x2 =>
    ob (vFa 1 v26x2) fun v27x3 =>
    ob (vLoad v27x3 H1) fun v28x4 =>
    ob (vInt .add v28x4 (.int .i64 1)) fun v29x5 =>
    ob (vNilC (σ1 0)) fun v30x6 =>
    ob (vFa 1 v30x6) fun v31x7 =>
    st 1 v31x7 v29x5 H1 fun H8 =>
    ob (vNilC (σ1 0)) fun v34x9 =>
    ob (vFa 2 v34x9) fun v35x10 =>
    ob (vLoad v35x10 H8) fun v36x11 =>
    ob (vInt .mul v36x11 (.int .u64 6364136223846793005)) fun v37x12 =>
    ob (vCI .u64 (σ1 3)) fun v39x13 =>
    ob (vInt .add v37x12 v39x13) fun v40x14 =>
    ob (vInt .add v40x14 (.int .u64 1442695040888963407)) fun v41x15 =>
    ob (vNilC (σ1 0)) fun v42x16 =>
    ob (vFa 2 v42x16) fun v43x17 =>
    st 1 v43x17 v41x15 H8 fun H18 =>
    ob (vNilC (σ1 0)) fun v45x19 =>
    ob (vFa 1 v45x19) fun v46x20 =>
    ob (vLoad v46x20 H18) fun v47x21 =>
    ob (vNilC (σ1 0)) fun v49x22 =>
    ob (vFa 0 v49x22) fun v50x23 =>
    ob (vLoad v50x23 H18) fun v51x24 =>
    ob (vLenSl v51x24) fun v52x25 =>
    ob (vInt .leq v47x21 v52x25) fun v53x26 =>
    cnd v53x26
      (K (σ1 3) H18)
      (ob (vNilC (σ1 0)) fun v56x27 =>
    ob (vFa 2 v56x27) fun v57x28 =>
    ob (vLoad v57x28 H18) fun v58x29 =>
    ob (vInt .shr v58x29 (.int .u64 40)) fun v59x30 =>
    ob (vInt .and v59x30 (.int .u64 255)) fun v60x31 =>
    ob (vCI .i64 v60x31) fun v61x32 =>
    K v61x32 H18)) fun J1 =>
  ob (vNilC a0) fun v5x33 =>
  ob (vFa 1 v5x33) fun v6x34 =>
  ob (vLoad v6x34 H) fun v7x35 =>
  ob (vNilC a0) fun v9x36 =>
  ob (vFa 0 v9x36) fun v10x37 =>
  ob (vLoad v10x37 H) fun v11x38 =>
  ob (vLenSl v11x38) fun v12x39 =>
  ob (vInt .lss v7x35 v12x39) fun v13x40 =>
  cnd v13x40
    (ob (vNilC a0) fun v15x41 =>
    ob (vFa 0 v15x41) fun v16x42 =>
    ob (vLoad v16x42 H) fun v17x43 =>
    ob (vNilC a0) fun v19x44 =>
    ob (vFa 1 v19x44) fun v20x45 =>
    ob (vLoad v20x45 H) fun v21x46 =>
    ob (vIx 1 v17x43 v21x46) fun v22x47 =>
    ob (vLoad v22x47 H) fun v23x48 =>
    ob (vCI .i64 v23x48) fun v24x49 =>
    J1 (up (up (up (up (up (up (up (up (up (up (up (up (up (up (up (up (up (up (up (up (up (up (up (up (S0 [a0]) 2 (.int .i64 0)) 3 (.int .i64 0)) 4 a0) 5 v5x33) 6 v6x34) 7 v7x35) 8 a0) 9 v9x36) 10 v10x37) 11 v11x38) 12 v12x39) 13 v13x40) 14 a0) 15 v15x41) 16 v16x42) 17 v17x43) 18 a0) 19 v19x44) 20 v20x45) 21 v21x46) 22 v22x47) 23 v23x48) 24 v24x49) 3 v24x49) H)
    (J1 (up (up (up (up (up (up (up (up (up (up (up (up (S0 [a0]) 2 (.int .i64 0)) 3 (.int .i64 0)) 4 a0) 5 v5x33) 6 v6x34) 7 v7x35) 8 a0) 9 v9x36) 10 v10x37) 11 v11x38) 12 v12x39) 13 v13x40) H)
def O.pspec_l00Src_next : Nat → Nat × List Nat := fun i => bif Nat.beq i 6 then (0, [0, 1, 2, 3, 4, 5, 6, 7, 8, 9]) else bif Nat.beq i 2 then (0, [0, 1, 2, 3, 4, 5, 6, 7, 8, 9]) else bif Nat.beq i 3 then (0, [0, 1, 2, 3, 4, 5, 6, 7, 8, 9, 10, 11]) else (0, [])
theorem R.pspec_l00Src_next {a0 : Value} {H : Hp} {K : Value → Hp → Prop} (h : F.pspec_l00Src_next a0 H K) : HT prg I.pspec_l00Src_next [a0].toArray H K :=
  HT_of_fev O.pspec_l00Src_next mixed Tryz.func95 (by kernel_rfl) (Eq.mpr (by kernel_rfl : fev prg O.pspec_l00Src_next Tryz.f95 [a0] H K = F.pspec_l00Src_next a0 H K) h)

/-! (*loop.example/g01381/spec.l00Src).pick: function 65 -/
def F.pspec_l00Src_pick (a0 a1 : Value) (H : Hp) (K : Value → Hp → Prop) : Prop :=
  ob (vInt .leq a1 (.int .i64 1)) fun v7x1 =>
  cnd v7x1
    (K (.int .i64 0) H)
    (HT prg I.pspec_l00Src_next [a0].toArray H fun v9x2 H3 =>
  ob (vInt .gtr a1 (.int .i64 200)) fun v11x4 =>
  cnd v11x4
    (ob (vInt .mul v9x2 (.int .i64 256)) fun v13x5 =>
    HT prg I.pspec_l00Src_next [a0].toArray H3 fun v15x6 H7 =>
    ob (vInt .add v13x5 v15x6) fun v16x8 =>
    ob (vInt .rem v16x8 a1) fun v19x9 =>
  K v19x9 H7)
    (ob (vInt .rem v9x2 a1) fun v19x10 =>
  K v19x10 H3))
def O.pspec_l00Src_pick : Nat → Nat × List Nat := fun i => (0, [])
theorem R.pspec_l00Src_pick {a0 a1 : Value} {H : Hp} {K : Value → Hp → Prop} (h : F.pspec_l00Src_pick a0 a1 H K) : HT prg I.pspec_l00Src_pick [a0, a1].toArray H K :=
  HT_of_fev O.pspec_l00Src_pick mixed Tryz.func65 (by kernel_rfl) (Eq.mpr (by kernel_rfl : fev prg O.pspec_l00Src_pick Tryz.f65 [a0, a1] H K = F.pspec_l00Src_pick a0 a1 H K) h)

/-! (*loop.example/g01381/spec.l00Src).one: function 24 -/
def F.pspec_l00Src_one (a0 a1 : Value) (H : Hp) (K : Value → Hp → Prop) : Prop :=
  HT prg I.pspec_l00Src_pick [a0, a1].toArray H fun v7x1 H2 =>
  ob (vInt .eql v7x1 (.int .i64 0)) fun v8x3 =>
  K v8x3 H2
def O.pspec_l00Src_one : Nat → Nat × List Nat := fun i => (0, [])
theorem R.pspec_l00Src_one {a0 a1 : Value} {H : Hp} {K : Value → Hp → Prop} (h : F.pspec_l00Src_one a0 a1 H K) : HT prg I.pspec_l00Src_one [a0, a1].toArray H K :=
  HT_of_fev O.pspec_l00Src_one mixed Tryz.func24 (by kernel_rfl) (Eq.mpr (by kernel_rfl : fev prg O.pspec_l00Src_one Tryz.f24 [a0, a1] H K = F.pspec_l00Src_one a0 a1 H K) h)

/-! loop.example/g01381/spec.l04DrawLifeOk: function 25 -/
def F.spec_l04DrawLifeOk (a0 : Value) (H : Hp) (K : Value → Hp → Prop) : Prop :=
  nw #[(.slice none 0 0), (.slice none 0 0)] 26 H fun v2x1 H2 =>
  bS 1 1 #[(.int .i64 0)] 2 [(0, (.int .i64 3))] H2 fun v5x3 H4 =>
  bS 1 2 #[(.int .i64 0)] 2 [(0, (.int .i64 2)), (1, (.int .i64 3))] H4 fun v6x5 H6 =>
  ob (vBuild [(0, 1), (1, 1)] (.agg #[(.slice none 0 0), (.slice none 0 0)]) [(0, v5x3), (1, v6x5)]) fun v7x7 =>
  nw #[(.slice none 0 0), (.slice none 0 0)] 26 H6 fun v3x8 H9 =>
  st 2 v3x8 v7x7 H9 fun H10 =>
  jn (fun σ11 H11 =>
    ob (vLoadN 2 (σ11 3) H11) fun v33x12 =>
    st 2 (σ11 2) v33x12 H11 fun H13 =>
    ob (vLoadN 2 (σ11 2) H13) fun u14 => K u14 H13) fun J11 =>
  HT prg I.pspec_l00Src_one [a0, (.int .i64 2)].toArray H10 fun v9x15 H16 =>
  cnd v9x15
    (bS 1 0 #[(.int .i64 0)] 2 [] H16 fun v10x17 H18 =>
    bS 1 0 #[(.int .i64 0)] 2 [] H18 fun v11x19 H20 =>
    ob (vBuild [(0, 1), (1, 1)] (.agg #[(.slice none 0 0), (.slice none 0 0)]) [(0, v10x17), (1, v11x19)]) fun v12x21 =>
    st 2 v3x8 v12x21 H20 fun H22 =>
    lpE (fun Q23 σ23 H23 =>
      ob (vInt .lss (σ23 4) (.int .i64 9)) fun v14x24 =>
      cnd v14x24
        (HT prg I.pspec_l00Src_one [(σ23 0), (.int .i64 3)].toArray H23 fun v18x25 H26 =>
      cnd v18x25
        (ob (vFa 0 (σ23 3)) fun v19x27 =>
        ob (vLoad v19x27 H26) fun v20x28 =>
        bS 1 1 #[(.int .i64 0)] 2 [(0, (σ23 4))] H26 fun v22x29 H30 =>
        apd 1 8 #[(.int .i64 0)] 2 v20x28 v22x29 H30 fun v23x31 H32 =>
        ob (vFa 0 (σ23 3)) fun v24x33 =>
        st 1 v24x33 v23x31 H32 fun H34 =>
        HT prg I.pspec_l00Src_one [(σ23 0), (.int .i64 3)].toArray H34 fun v26x35 H36 =>
      cnd v26x35
        (ob (vFa 1 (σ23 3)) fun v27x37 =>
        ob (vLoad v27x37 H36) fun v28x38 =>
        bS 1 1 #[(.int .i64 0)] 2 [(0, (σ23 4))] H36 fun v30x39 H40 =>
        apd 1 8 #[(.int .i64 0)] 2 v28x38 v30x39 H40 fun v31x41 H42 =>
        ob (vFa 1 (σ23 3)) fun v32x43 =>
        st 1 v32x43 v31x41 H42 fun H44 =>
        ob (vInt .add (σ23 4) (.int .i64 1)) fun v16x45 =>
      Q23 .normal (up (up (up (up (up (up (up (up (up (up (up (up (up (up (up (up (up (up (up (up (up σ23 13 (σ23 4)) 14 v14x24) 17 (σ23 0)) 18 v18x25) 19 v19x27) 20 v20x28) 21 (σ23 4)) 22 v22x29) 23 v23x31) 24 v24x33) 25 (σ23 0)) 26 v26x35) 27 v27x37) 28 v28x38) 29 (σ23 4)) 30 v30x39) 31 v31x41) 32 v32x43) 15 (σ23 4)) 16 v16x45) 4 v16x45) H44)
        (ob (vInt .add (σ23 4) (.int .i64 1)) fun v16x46 =>
      Q23 .normal (up (up (up (up (up (up (up (up (up (up (up (up (up (up (up σ23 13 (σ23 4)) 14 v14x24) 17 (σ23 0)) 18 v18x25) 19 v19x27) 20 v20x28) 21 (σ23 4)) 22 v22x29) 23 v23x31) 24 v24x33) 25 (σ23 0)) 26 v26x35) 15 (σ23 4)) 16 v16x46) 4 v16x46) H36))
        (HT prg I.pspec_l00Src_one [(σ23 0), (.int .i64 3)].toArray H26 fun v26x47 H48 =>
      cnd v26x47
        (ob (vFa 1 (σ23 3)) fun v27x49 =>
        ob (vLoad v27x49 H48) fun v28x50 =>
        bS 1 1 #[(.int .i64 0)] 2 [(0, (σ23 4))] H48 fun v30x51 H52 =>
        apd 1 8 #[(.int .i64 0)] 2 v28x50 v30x51 H52 fun v31x53 H54 =>
        ob (vFa 1 (σ23 3)) fun v32x55 =>
        st 1 v32x55 v31x53 H54 fun H56 =>
        ob (vInt .add (σ23 4) (.int .i64 1)) fun v16x57 =>
      Q23 .normal (up (up (up (up (up (up (up (up (up (up (up (up (up (up (up σ23 13 (σ23 4)) 14 v14x24) 17 (σ23 0)) 18 v18x25) 25 (σ23 0)) 26 v26x47) 27 v27x49) 28 v28x50) 29 (σ23 4)) 30 v30x51) 31 v31x53) 32 v32x55) 15 (σ23 4)) 16 v16x57) 4 v16x57) H56)
        (ob (vInt .add (σ23 4) (.int .i64 1)) fun v16x58 =>
      Q23 .normal (up (up (up (up (up (up (up (up (up σ23 13 (σ23 4)) 14 v14x24) 17 (σ23 0)) 18 v18x25) 25 (σ23 0)) 26 v26x47) 15 (σ23 4)) 16 v16x58) 4 v16x58) H48)))
        (Q23 (.exit 0) (up (up σ23 13 (σ23 4)) 14 v14x24) H23)) (blkQ 0 (thenQ J11 (retQ prg [(.cell 2 26)] K))) (up (up (up (up (up (up (up (up (up (up (up (S0 [a0]) 2 v2x1) 5 v5x3) 6 v6x5) 7 v7x7) 3 v3x8) 8 a0) 9 v9x15) 10 v10x17) 11 v11x19) 12 v12x21) 4 (.int .i64 1)) H22)
    (J11 (up (up (up (up (up (up (up (S0 [a0]) 2 v2x1) 5 v5x3) 6 v6x5) 7 v7x7) 3 v3x8) 8 a0) 9 v9x15) H16)
def O.spec_l04DrawLifeOk : Nat → Nat × List Nat := fun i => (0, [])
theorem R.spec_l04DrawLifeOk {a0 : Value} {H : Hp} {K : Value → Hp → Prop} (h : F.spec_l04DrawLifeOk a0 H K) : HT prg I.spec_l04DrawLifeOk [a0].toArray H K :=
  HT_of_fev O.spec_l04DrawLifeOk mixed Tryz.func25 (by kernel_rfl) (Eq.mpr (by kernel_rfl : fev prg O.spec_l04DrawLifeOk Tryz.f25 [a0] H K = F.spec_l04DrawLifeOk a0 H K) h)

/-! loop.example/g01381/spec.B10Life: function 6 -/
def F.spec_B10Life (a0 : Value) (H : Hp) (K : Value → Hp → Prop) : Prop :=
  nw #[(.slice none 0 0), (.slice none 0 0)] 26 H fun v2x1 H2 =>
  HT prg I.spec_l00From [a0].toArray H2 fun v5x3 H4 =>
  HT prg I.pspec_l00Src_one [v5x3, (.int .i64 2)].toArray H4 fun v7x5 H6 =>
  cnd v7x5
    (bS 1 1 #[(.int .i64 0)] 2 [(0, (.int .i64 3))] H6 fun v8x7 H8 =>
    bS 1 2 #[(.int .i64 0)] 2 [(0, (.int .i64 2)), (1, (.int .i64 3))] H8 fun v9x9 H10 =>
    ob (vBuild [(0, 1), (1, 1)] (.agg #[(.slice none 0 0), (.slice none 0 0)]) [(0, v8x7), (1, v9x9)]) fun v10x11 =>
    st 2 v2x1 v10x11 H10 fun H12 =>
    ob (vLoadN 2 v2x1 H12) fun u13 => K u13 H12)
    (HT prg I.spec_l04DrawLifeOk [v5x3].toArray H6 fun v12x14 H15 =>
  st 2 v2x1 v12x14 H15 fun H16 =>
  ob (vLoadN 2 v2x1 H16) fun u17 => K u17 H16)
def O.spec_B10Life : Nat → Nat × List Nat := fun i => (0, [])
theorem R.spec_B10Life {a0 : Value} {H : Hp} {K : Value → Hp → Prop} (h : F.spec_B10Life a0 H K) : HT prg I.spec_B10Life [a0].toArray H K :=
  HT_of_fev O.spec_B10Life mixed Tryz.func6 (by kernel_rfl) (Eq.mpr (by kernel_rfl : fev prg O.spec_B10Life Tryz.f6 [a0] H K = F.spec_B10Life a0 H K) h)

/-! loop.example/g01381/laws.b10At: function 7 -/
def F.laws_b10At (a0 a1 a2 : Value) (H : Hp) (K : Value → Hp → Prop) : Prop :=
  ob (vInt .leq a2 (.int .i64 1)) fun v8x1 =>
  cnd v8x1
    (K (.int .i64 0) H)
    (ob (vLenSl a0) fun v11x2 =>
  ob (vInt .lss a1 v11x2) fun v12x3 =>
  cnd v12x3
    (ob (vIx 1 a0 a1) fun v15x4 =>
    ob (vLoad v15x4 H) fun v16x5 =>
    ob (vCI .i64 v16x5) fun v17x6 =>
    ob (vInt .rem v17x6 a2) fun v19x7 =>
    K v19x7 H)
    (ob (vInt .mul a1 (.int .i64 37)) fun v21x8 =>
  ob (vInt .add v21x8 (.int .i64 11)) fun v22x9 =>
  ob (vInt .rem v22x9 a2) fun v24x10 =>
  K v24x10 H))
def O.laws_b10At : Nat → Nat × List Nat := fun i => (0, [])
theorem R.laws_b10At {a0 a1 a2 : Value} {H : Hp} {K : Value → Hp → Prop} (h : F.laws_b10At a0 a1 a2 H K) : HT prg I.laws_b10At [a0, a1, a2].toArray H K :=
  HT_of_fev O.laws_b10At mixed Tryz.func7 (by kernel_rfl) (Eq.mpr (by kernel_rfl : fev prg O.laws_b10At Tryz.f7 [a0, a1, a2] H K = F.laws_b10At a0 a1 a2 H K) h)

/-! loop.example/g01381/impl.within: function 33 -/
def F.impl_within (a0 a1 a2 : Value) (H : Hp) (K : Value → Hp → Prop) : Prop :=
  ob (vInt .geq a0 a1) fun v9x1 =>
  gop v9x1 true (fun K2 => K2 a0 H) H fun v11x3 H4 =>
  gop v9x1 true (fun K5 => K5 a2 H4) H4 fun v12x6 H7 =>
  gop v9x1 true (fun K8 => ob (vInt .leq v11x3 v12x6) fun u => K8 u H7) H7 fun v13x9 H10 =>
  ob (vPick v9x1 v13x9 (.bool false)) fun v14x11 =>
  K v14x11 H10
def O.impl_within : Nat → Nat × List Nat := fun i => (0, [])
theorem R.impl_within {a0 a1 a2 : Value} {H : Hp} {K : Value → Hp → Prop} (h : F.impl_within a0 a1 a2 H K) : HT prg I.impl_within [a0, a1, a2].toArray H K :=
  HT_of_fev O.impl_within mixed Tryz.func33 (by kernel_rfl) (Eq.mpr (by kernel_rfl : fev prg O.impl_within Tryz.f33 [a0, a1, a2] H K = F.impl_within a0 a1 a2 H K) h)

/-! loop.example/g01381/impl.areWithin: function 113 -/
def F.impl_areWithin (a0 a1 a2 : Value) (H : Hp) (K : Value → Hp → Prop) : Prop :=
  jn (fun σ1 H1 =>
    K (.bool true) H1) fun J1 =>
  ob (vLenSl a0) fun v10x2 =>
  lpE (fun Q3 σ3 H3 =>
    ob (vInt .lss (σ3 11) (σ3 10)) fun v12x4 =>
    cnd v12x4
      (ob (vIx 1 (σ3 9) (σ3 11)) fun v13x5 =>
    ob (vLoad v13x5 H3) fun v14x6 =>
    HT prg I.impl_within [v14x6, (σ3 1), (σ3 2)].toArray H3 fun v18x7 H8 =>
    ob (vUn .not v18x7) fun v19x9 =>
    cnd v19x9
      (Q3 .ret (up (up (up (up (up (up (up (up (up (up σ3 12 v12x4) 13 v13x5) 14 v14x6) 8 v14x6) 15 v14x6) 16 (σ3 1)) 17 (σ3 2)) 18 v18x7) 19 v19x9) 6 (.bool false)) H8)
      (ob (vInt .add (σ3 11) (.int .i64 1)) fun v20x10 =>
    Q3 .normal (up (up (up (up (up (up (up (up (up (up (up σ3 12 v12x4) 13 v13x5) 14 v14x6) 8 v14x6) 15 v14x6) 16 (σ3 1)) 17 (σ3 2)) 18 v18x7) 19 v19x9) 20 v20x10) 11 v20x10) H8))
      (Q3 (.exit 0) (up σ3 12 v12x4) H3)) (blkQ 0 (thenQ J1 (retQ prg [(.tmp 6)] K))) (up (up (up (up (S0 [a0, a1, a2]) 6 (.bool false)) 9 a0) 10 v10x2) 11 (.int .i64 0)) H
def O.impl_areWithin : Nat → Nat × List Nat := fun i => (0, [])
theorem R.impl_areWithin {a0 a1 a2 : Value} {H : Hp} {K : Value → Hp → Prop} (h : F.impl_areWithin a0 a1 a2 H K) : HT prg I.impl_areWithin [a0, a1, a2].toArray H K :=
  HT_of_fev O.impl_areWithin mixed Tryz.func113 (by kernel_rfl) (Eq.mpr (by kernel_rfl : fev prg O.impl_areWithin Tryz.f113 [a0, a1, a2] H K = F.impl_areWithin a0 a1 a2 H K) h)

/-! loop.example/g01381/impl.areCounts: function 73 -/
def F.impl_areCounts (a0 : Value) (H : Hp) (K : Value → Hp → Prop) : Prop :=
  jn (fun σ1 H1 =>
    HT prg I.impl_areWithin [(σ1 0), (.int .i64 0), (.int .i64 8)].toArray H1 fun v21x2 H3 =>
    K v21x2 H3) fun J1 =>
  lpE (fun Q4 σ4 H4 =>
    ob (vLenSl (σ4 0)) fun v6x5 =>
    ob (vInt .lss (σ4 3) v6x5) fun v7x6 =>
    cnd v7x6
      (ob (vIx 1 (σ4 0) (σ4 3)) fun v12x7 =>
    ob (vLoad v12x7 H4) fun v13x8 =>
    ob (vInt .sub (σ4 3) (.int .i64 1)) fun v16x9 =>
    ob (vIx 1 (σ4 0) v16x9) fun v17x10 =>
    ob (vLoad v17x10 H4) fun v18x11 =>
    ob (vInt .leq v13x8 v18x11) fun v19x12 =>
    cnd v19x12
      (Q4 .ret (up (up (up (up (up (up (up (up (up (up (up (up (up (up (up σ4 4 (σ4 3)) 5 (σ4 0)) 6 v6x5) 7 v7x6) 10 (σ4 0)) 11 (σ4 3)) 12 v12x7) 13 v13x8) 14 (σ4 0)) 15 (σ4 3)) 16 v16x9) 17 v17x10) 18 v18x11) 19 v19x12) 2 (.bool false)) H4)
      (ob (vInt .add (σ4 3) (.int .i64 1)) fun v9x13 =>
    Q4 .normal (up (up (up (up (up (up (up (up (up (up (up (up (up (up (up (up (up σ4 4 (σ4 3)) 5 (σ4 0)) 6 v6x5) 7 v7x6) 10 (σ4 0)) 11 (σ4 3)) 12 v12x7) 13 v13x8) 14 (σ4 0)) 15 (σ4 3)) 16 v16x9) 17 v17x10) 18 v18x11) 19 v19x12) 8 (σ4 3)) 9 v9x13) 3 v9x13) H4))
      (Q4 (.exit 0) (up (up (up (up σ4 4 (σ4 3)) 5 (σ4 0)) 6 v6x5) 7 v7x6) H4)) (blkQ 0 (thenQ J1 (retQ prg [(.tmp 2)] K))) (up (up (S0 [a0]) 2 (.bool false)) 3 (.int .i64 1)) H
def O.impl_areCounts : Nat → Nat × List Nat := fun i => bif Nat.beq i 4 then (0, [0, 1, 2, 3, 4, 5, 6, 7, 8, 9]) else (0, [])
theorem R.impl_areCounts {a0 : Value} {H : Hp} {K : Value → Hp → Prop} (h : F.impl_areCounts a0 H K) : HT prg I.impl_areCounts [a0].toArray H K :=
  HT_of_fev O.impl_areCounts mixed Tryz.func73 (by kernel_rfl) (Eq.mpr (by kernel_rfl : fev prg O.impl_areCounts Tryz.f73 [a0] H K = F.impl_areCounts a0 H K) h)

/-! loop.example/g01381/impl.ValidLife: function 30 -/
def F.impl_ValidLife (a0 : Value) (H : Hp) (K : Value → Hp → Prop) : Prop :=
  nw (a0 : Value).cells 26 H fun v1x1 H2 =>
  ob (vFa 0 v1x1) fun v3x3 =>
  ob (vLoad v3x3 H2) fun v4x4 =>
  HT prg I.impl_areCounts [v4x4].toArray H2 fun v5x5 H6 =>
  gop v5x5 true (fun K7 => ob (vFa 1 v1x1) fun u => K7 u H6) H6 fun v7x8 H9 =>
  gop v5x5 true (fun K10 => ob (vLoad v7x8 H9) fun u => K10 u H9) H9 fun v8x11 H12 =>
  gop v5x5 true (fun K13 => HT prg I.impl_areCounts [v8x11].toArray H12 K13) H12 fun v9x14 H15 =>
  ob (vPick v5x5 v9x14 (.bool false)) fun v10x16 =>
  K v10x16 H15
def O.impl_ValidLife : Nat → Nat × List Nat := fun i => (0, [])
theorem R.impl_ValidLife {a0 : Value} {H : Hp} {K : Value → Hp → Prop} (h : F.impl_ValidLife a0 H K) : HT prg I.impl_ValidLife [a0].toArray H K :=
  HT_of_fev O.impl_ValidLife mixed Tryz.func30 (by kernel_rfl) (Eq.mpr (by kernel_rfl : fev prg O.impl_ValidLife Tryz.f30 [a0] H K = F.impl_ValidLife a0 H K) h)

/-! loop.example/g01381/impl.madeField: function 53 -/
def F.impl_madeField (a0 a1 a2 : Value) (H : Hp) (K : Value → Hp → Prop) : Prop :=
  nw #[(.int .i64 0), (.int .i64 0), (.slice none 0 0)] 36 H fun v6x1 H2 =>
  ob (vBuild [(0, 1), (1, 1), (2, 1)] (.agg #[(.int .i64 0), (.int .i64 0), (.slice none 0 0)]) [(0, a0), (1, a1)]) fun v12x3 =>
  nw #[(.int .i64 0), (.int .i64 0), (.slice none 0 0)] 36 H2 fun v7x4 H5 =>
  st 3 v7x4 v12x3 H5 fun H6 =>
  jn (fun σ7 H7 =>
    ob (vLoadN 3 (σ7 7) H7) fun v32x8 =>
    st 3 (σ7 6) v32x8 H7 fun H9 =>
    ob (vLoadN 3 (σ7 6) H9) fun u10 => K u10 H9) fun J7 =>
  lpE (fun Q11 σ11 H11 =>
    ob (vInt .lss (σ11 14) (σ11 13)) fun v15x12 =>
    cnd v15x12
      (jn (fun σ13 H13 =>
      ob (vInt .add (σ13 14) (.int .i64 1)) fun v31x14 =>
      Q11 .normal (up (up σ13 31 v31x14) 14 v31x14) H13) fun J13 =>
    lpE (fun Q15 σ15 H15 =>
      ob (vInt .lss (σ15 18) (σ15 17)) fun v19x16 =>
      cnd v19x16
        (ob (vFa 2 (σ15 7)) fun v21x17 =>
      ob (vLoad v21x17 H15) fun v22x18 =>
      callV prg (σ15 2) [(σ15 8), (σ15 18)] H15 fun v26x19 H20 =>
      Le H15 H20 ∧ (bS 1 1 #[(.int .i64 0)] 2 [(0, v26x19)] H20 fun v27x21 H22 =>
      apd 1 8 #[(.int .i64 0)] 2 v22x18 v27x21 H22 fun v28x23 H24 =>
      ob (vFa 2 (σ15 7)) fun v29x25 =>
      st 1 v29x25 v28x23 H24 fun H26 =>
      ob (vInt .add (σ15 18) (.int .i64 1)) fun v30x27 =>
      Q15 .normal (up (up (up (up (up (up (up (up (up (up (up (up (up (up σ15 19 v19x16) 20 (σ15 18)) 9 (σ15 18)) 21 v21x17) 22 v22x18) 23 (σ15 2)) 24 (σ15 8)) 25 (σ15 18)) 26 v26x19) 27 v27x21) 28 v28x23) 29 v29x25) 30 v30x27) 18 v30x27) H26))
        (Q15 (.exit 2) (up σ15 19 v19x16) H15)) (blkQ 2 (blkQ 1 (thenQ J13 Q11))) (up (up (up (up (up σ11 15 v15x12) 16 (σ11 14)) 8 (σ11 14)) 17 (σ11 1)) 18 (.int .i64 0)) H11)
      (Q11 (.exit 0) (up σ11 15 v15x12) H11)) (blkQ 0 (thenQ J7 (retQ prg [(.cell 6 36)] K))) (up (up (up (up (up (up (up (S0 [a0, a1, a2]) 6 v6x1) 10 a0) 11 a1) 12 v12x3) 7 v7x4) 13 a0) 14 (.int .i64 0)) H6
def O.impl_madeField : Nat → Nat × List Nat := fun i => bif Nat.beq i 8 then (0, [0, 1, 2, 3, 4, 5, 6, 7, 8, 9]) else (0, [])
theorem R.impl_madeField {a0 a1 a2 : Value} {H : Hp} {K : Value → Hp → Prop} (h : F.impl_madeField a0 a1 a2 H K) : HT prg I.impl_madeField [a0, a1, a2].toArray H K :=
  HT_of_fev O.impl_madeField mixed Tryz.func53 (by kernel_rfl) (Eq.mpr (by kernel_rfl : fev prg O.impl_madeField Tryz.f53 [a0, a1, a2] H K = F.impl_madeField a0 a1 a2 H K) h)

/-! loop.example/g01381/impl.madeField: function 53 -/
def F.impl_madeFieldX (a0 a1 a2 : Value) (H : Hp) (K : Value → Hp → Prop) : Prop :=
  nw #[(.int .i64 0), (.int .i64 0), (.slice none 0 0)] 36 H fun v6x1 H2 =>
  ob (vBuild [(0, 1), (1, 1), (2, 1)] (.agg #[(.int .i64 0), (.int .i64 0), (.slice none 0 0)]) [(0, a0), (1, a1)]) fun v12x3 =>
  nw #[(.int .i64 0), (.int .i64 0), (.slice none 0 0)] 36 H2 fun v7x4 H5 =>
  st 3 v7x4 v12x3 H5 fun H6 =>
  jn (fun σ7 H7 =>
    ob (vLoadN 3 (σ7 7) H7) fun v32x8 =>
    st 3 (σ7 6) v32x8 H7 fun H9 =>
    ob (vLoadN 3 (σ7 6) H9) fun u10 => K u10 H9) fun J7 =>
  lpE (fun Q11 σ11 H11 =>
    ob (vInt .lss (σ11 14) (σ11 13)) fun v15x12 =>
    cnd v15x12
      (jn (fun σ13 H13 =>
      ob (vInt .add (σ13 14) (.int .i64 1)) fun v31x14 =>
      Q11 .normal (up (up σ13 31 v31x14) 14 v31x14) H13) fun J13 =>
    lpE (fun Q15 σ15 H15 =>
      ob (vInt .lss (σ15 18) (σ15 17)) fun v19x16 =>
      cnd v19x16
        ((ob (vFa 2 (σ15 7)) fun v21x17 =>
      ob (vLoad v21x17 H15) fun v22x18 =>
      callV prg (σ15 2) [(σ15 8), (σ15 18)] H15 fun v26x19 H20 =>
      bS 1 1 #[(.int .i64 0)] 2 [(0, v26x19)] H20 fun v27x21 H22 =>
      apd 1 8 #[(.int .i64 0)] 2 v22x18 v27x21 H22 fun v28x23 H24 =>
      ob (vFa 2 (σ15 7)) fun v29x25 =>
      st 1 v29x25 v28x23 H24 fun H26 =>
      ob (vInt .add (σ15 18) (.int .i64 1)) fun v30x27 =>
      Q15 .normal (up (up (up (up (up (up (up (up (up (up (up (up (up (up σ15 19 v19x16) 20 (σ15 18)) 9 (σ15 18)) 21 v21x17) 22 v22x18) 23 (σ15 2)) 24 (σ15 8)) 25 (σ15 18)) 26 v26x19) 27 v27x21) 28 v28x23) 29 v29x25) 30 v30x27) 18 v30x27) H26) ∧ (ob (vFa 2 (σ15 7)) fun v21x28 =>
      callV prg (σ15 2) [(σ15 8), (σ15 18)] H15 fun v26x29 H30 =>
      ob (vLoad v21x28 H30) fun v22x31 =>
      bS 1 1 #[(.int .i64 0)] 2 [(0, v26x29)] H30 fun v27x32 H33 =>
      apd 1 8 #[(.int .i64 0)] 2 v22x31 v27x32 H33 fun v28x34 H35 =>
      ob (vFa 2 (σ15 7)) fun v29x36 =>
      st 1 v29x36 v28x34 H35 fun H37 =>
      ob (vInt .add (σ15 18) (.int .i64 1)) fun v30x38 =>
      Q15 .normal (up (up (up (up (up (up (up (up (up (up (up (up (up (up σ15 19 v19x16) 20 (σ15 18)) 9 (σ15 18)) 21 v21x28) 23 (σ15 2)) 24 (σ15 8)) 25 (σ15 18)) 26 v26x29) 22 v22x31) 27 v27x32) 28 v28x34) 29 v29x36) 30 v30x38) 18 v30x38) H37))
        (Q15 (.exit 2) (up σ15 19 v19x16) H15)) (blkQ 2 (blkQ 1 (thenQ J13 Q11))) (up (up (up (up (up σ11 15 v15x12) 16 (σ11 14)) 8 (σ11 14)) 17 (σ11 1)) 18 (.int .i64 0)) H11)
      (Q11 (.exit 0) (up σ11 15 v15x12) H11)) (blkQ 0 (thenQ J7 (retQ prg [(.cell 6 36)] K))) (up (up (up (up (up (up (up (S0 [a0, a1, a2]) 6 v6x1) 10 a0) 11 a1) 12 v12x3) 7 v7x4) 13 a0) 14 (.int .i64 0)) H6
def O.impl_madeFieldX : Nat → Nat × List Nat := fun i => bif Nat.beq i 8 then (2, [1001, 1005, 0, 1, 2, 3, 4, 5, 6, 7, 8, 9, 0, 2, 3, 4, 5, 1, 6, 7, 8, 9]) else (0, [])
theorem R.impl_madeFieldX {a0 a1 a2 : Value} {H : Hp} {K : Value → Hp → Prop} (h : F.impl_madeFieldX a0 a1 a2 H K) : HT prg I.impl_madeField [a0, a1, a2].toArray H K :=
  HT_of_fev O.impl_madeFieldX mixed Tryz.func53 (by kernel_rfl) (Eq.mpr (by kernel_rfl : fev prg O.impl_madeFieldX Tryz.f53 [a0, a1, a2] H K = F.impl_madeFieldX a0 a1 a2 H K) h)

/-! loop.example/g01381/impl.bit: function 99 -/
def F.impl_bit (a0 : Value) (H : Hp) (K : Value → Hp → Prop) : Prop :=
  cnd a0
    (K (.int .i64 1) H)
    (K (.int .i64 0) H)
def O.impl_bit : Nat → Nat × List Nat := fun i => (0, [])
theorem R.impl_bit {a0 : Value} {H : Hp} {K : Value → Hp → Prop} (h : F.impl_bit a0 H K) : HT prg I.impl_bit [a0].toArray H K :=
  HT_of_fev O.impl_bit mixed Tryz.func99 (by kernel_rfl) (Eq.mpr (by kernel_rfl : fev prg O.impl_bit Tryz.f99 [a0] H K = F.impl_bit a0 H K) h)

/-! slices.Index[[]int64,int64]: function 144 -/
def F.slices_Index_int64Zint64 (a0 a1 : Value) (H : Hp) (K : Value → Hp → Prop) : Prop :=
  jn (fun σ1 H1 =>
    K (.int .i64 (-1)) H1) fun J1 =>
  ob (vLenSl a0) fun v7x2 =>
  lpE (fun Q3 σ3 H3 =>
    ob (vInt .lss (σ3 8) (σ3 7)) fun v9x4 =>
    cnd v9x4
      (ob (vIx 1 (σ3 0) (σ3 8)) fun v14x5 =>
    ob (vLoad v14x5 H3) fun v15x6 =>
    ob (vInt .eql (σ3 1) v15x6) fun v16x7 =>
    cnd v16x7
      (Q3 .ret (up (up (up (up (up (up (up (up (up (up (up σ3 9 v9x4) 10 (σ3 8)) 5 (σ3 8)) 11 (σ3 1)) 12 (σ3 0)) 13 (σ3 8)) 14 v14x5) 15 v15x6) 16 v16x7) 17 (σ3 8)) 4 (σ3 8)) H3)
      (ob (vInt .add (σ3 8) (.int .i64 1)) fun v18x8 =>
    Q3 .normal (up (up (up (up (up (up (up (up (up (up (up σ3 9 v9x4) 10 (σ3 8)) 5 (σ3 8)) 11 (σ3 1)) 12 (σ3 0)) 13 (σ3 8)) 14 v14x5) 15 v15x6) 16 v16x7) 18 v18x8) 8 v18x8) H3))
      (Q3 (.exit 0) (up σ3 9 v9x4) H3)) (blkQ 0 (thenQ J1 (retQ prg [(.tmp 4)] K))) (up (up (up (up (S0 [a0, a1]) 4 (.int .i64 0)) 6 a0) 7 v7x2) 8 (.int .i64 0)) H
def O.slices_Index_int64Zint64 : Nat → Nat × List Nat := fun i => (0, [])
theorem R.slices_Index_int64Zint64 {a0 a1 : Value} {H : Hp} {K : Value → Hp → Prop} (h : F.slices_Index_int64Zint64 a0 a1 H K) : HT prg I.slices_Index_int64Zint64 [a0, a1].toArray H K :=
  HT_of_fev O.slices_Index_int64Zint64 mixed Tryz.func144 (by kernel_rfl) (Eq.mpr (by kernel_rfl : fev prg O.slices_Index_int64Zint64 Tryz.f144 [a0, a1] H K = F.slices_Index_int64Zint64 a0 a1 H K) h)

/-! slices.Contains[[]int64,int64]: function 116 -/
def F.slices_Contains_int64Zint64 (a0 a1 : Value) (H : Hp) (K : Value → Hp → Prop) : Prop :=
  HT prg I.slices_Index_int64Zint64 [a0, a1].toArray H fun v7x1 H2 =>
  ob (vInt .geq v7x1 (.int .i64 0)) fun v8x3 =>
  K v8x3 H2
def O.slices_Contains_int64Zint64 : Nat → Nat × List Nat := fun i => (0, [])
theorem R.slices_Contains_int64Zint64 {a0 a1 : Value} {H : Hp} {K : Value → Hp → Prop} (h : F.slices_Contains_int64Zint64 a0 a1 H K) : HT prg I.slices_Contains_int64Zint64 [a0, a1].toArray H K :=
  HT_of_fev O.slices_Contains_int64Zint64 mixed Tryz.func116 (by kernel_rfl) (Eq.mpr (by kernel_rfl : fev prg O.slices_Contains_int64Zint64 Tryz.f116 [a0, a1] H K = F.slices_Contains_int64Zint64 a0 a1 H K) h)

/-! (loop.example/g01381/impl.Life).becomes: function 79 -/
def F.impl_Life_becomes (a0 a1 a2 : Value) (H : Hp) (K : Value → Hp → Prop) : Prop :=
  nw (a0 : Value).cells 26 H fun v3x1 H2 =>
  ob (vInt .eql a1 (.int .i64 0)) fun v8x3 =>
  cnd v8x3
    (ob (vFa 0 v3x1) fun v9x4 =>
    ob (vLoad v9x4 H2) fun v10x5 =>
    HT prg I.slices_Contains_int64Zint64 [v10x5, a2].toArray H2 fun v12x6 H7 =>
    HT prg I.impl_bit [v12x6].toArray H7 fun v13x8 H9 =>
    K v13x8 H9)
    (ob (vFa 1 v3x1) fun v14x10 =>
  ob (vLoad v14x10 H2) fun v15x11 =>
  HT prg I.slices_Contains_int64Zint64 [v15x11, a2].toArray H2 fun v17x12 H13 =>
  HT prg I.impl_bit [v17x12].toArray H13 fun v18x14 H15 =>
  K v18x14 H15)
def O.impl_Life_becomes : Nat → Nat × List Nat := fun i => (0, [])
theorem R.impl_Life_becomes {a0 a1 a2 : Value} {H : Hp} {K : Value → Hp → Prop} (h : F.impl_Life_becomes a0 a1 a2 H K) : HT prg I.impl_Life_becomes [a0, a1, a2].toArray H K :=
  HT_of_fev O.impl_Life_becomes mixed Tryz.func79 (by kernel_rfl) (Eq.mpr (by kernel_rfl : fev prg O.impl_Life_becomes Tryz.f79 [a0, a1, a2] H K = F.impl_Life_becomes a0 a1 a2 H K) h)

/-! (loop.example/g01381/impl.Field).at: function 80 -/
def F.impl_Field_at (a0 a1 a2 : Value) (H : Hp) (K : Value → Hp → Prop) : Prop :=
  nw (a0 : Value).cells 36 H fun v3x1 H2 =>
  ob (vFa 2 v3x1) fun v7x3 =>
  ob (vLoad v7x3 H2) fun v8x4 =>
  ob (vFa 1 v3x1) fun v10x5 =>
  ob (vLoad v10x5 H2) fun v11x6 =>
  ob (vInt .mul a1 v11x6) fun v12x7 =>
  ob (vInt .add v12x7 a2) fun v14x8 =>
  ob (vIx 1 v8x4 v14x8) fun v15x9 =>
  ob (vLoad v15x9 H2) fun v16x10 =>
  K v16x10 H2
def O.impl_Field_at : Nat → Nat × List Nat := fun i => (0, [])
theorem R.impl_Field_at {a0 a1 a2 : Value} {H : Hp} {K : Value → Hp → Prop} (h : F.impl_Field_at a0 a1 a2 H K) : HT prg I.impl_Field_at [a0, a1, a2].toArray H K :=
  HT_of_fev O.impl_Field_at mixed Tryz.func80 (by kernel_rfl) (Eq.mpr (by kernel_rfl : fev prg O.impl_Field_at Tryz.f80 [a0, a1, a2] H K = F.impl_Field_at a0 a1 a2 H K) h)

/-! loop.example/g01381/impl.floorMod: function 85 -/
def F.impl_floorMod (a0 a1 : Value) (H : Hp) (K : Value → Hp → Prop) : Prop :=
  ob (vInt .rem a0 a1) fun v7x1 =>
  ob (vInt .add v7x1 a1) fun v9x2 =>
  ob (vInt .rem v9x2 a1) fun v11x3 =>
  K v11x3 H
def O.impl_floorMod : Nat → Nat × List Nat := fun i => (0, [])
theorem R.impl_floorMod {a0 a1 : Value} {H : Hp} {K : Value → Hp → Prop} (h : F.impl_floorMod a0 a1 H K) : HT prg I.impl_floorMod [a0, a1].toArray H K :=
  HT_of_fev O.impl_floorMod mixed Tryz.func85 (by kernel_rfl) (Eq.mpr (by kernel_rfl : fev prg O.impl_floorMod Tryz.f85 [a0, a1] H K = F.impl_floorMod a0 a1 H K) h)

/-! (loop.example/g01381/impl.Field).has: function 86 -/
def F.impl_Field_has (a0 a1 a2 : Value) (H : Hp) (K : Value → Hp → Prop) : Prop :=
  nw (a0 : Value).cells 36 H fun v3x1 H2 =>
  ob (vFa 0 v3x1) fun v8x3 =>
  ob (vLoad v8x3 H2) fun v9x4 =>
  ob (vInt .sub v9x4 (.int .i64 1)) fun v10x5 =>
  HT prg I.impl_within [a1, (.int .i64 0), v10x5].toArray H2 fun v11x6 H7 =>
  gop v11x6 true (fun K8 => K8 a2 H7) H7 fun v13x9 H10 =>
  gop v11x6 true (fun K11 => ob (vFa 1 v3x1) fun u => K11 u H10) H10 fun v14x12 H13 =>
  gop v11x6 true (fun K14 => ob (vLoad v14x12 H13) fun u => K14 u H13) H13 fun v15x15 H16 =>
  gop v11x6 true (fun K17 => ob (vInt .sub v15x15 (.int .i64 1)) fun u => K17 u H16) H16 fun v16x18 H19 =>
  gop v11x6 true (fun K20 => HT prg I.impl_within [v13x9, (.int .i64 0), v16x18].toArray H19 K20) H19 fun v17x21 H22 =>
  ob (vPick v11x6 v17x21 (.bool false)) fun v18x23 =>
  K v18x23 H22
def O.impl_Field_has : Nat → Nat × List Nat := fun i => (0, [])
theorem R.impl_Field_has {a0 a1 a2 : Value} {H : Hp} {K : Value → Hp → Prop} (h : F.impl_Field_has a0 a1 a2 H K) : HT prg I.impl_Field_has [a0, a1, a2].toArray H K :=
  HT_of_fev O.impl_Field_has mixed Tryz.func86 (by kernel_rfl) (Eq.mpr (by kernel_rfl : fev prg O.impl_Field_has Tryz.f86 [a0, a1, a2] H K = F.impl_Field_has a0 a1 a2 H K) h)

/-! (loop.example/g01381/impl.Field).look: function 55 -/
def F.impl_Field_look (a0 a1 a2 a3 : Value) (H : Hp) (K : Value → Hp → Prop) : Prop :=
  nw (a0 : Value).cells 36 H fun v4x1 H2 =>
  cnd a3
    (ob (vLoadN 3 v4x1 H2) fun v10x3 =>
    ob (vFa 0 v4x1) fun v12x4 =>
    ob (vLoad v12x4 H2) fun v13x5 =>
    ob (vFa 1 v4x1) fun v16x6 =>
    ob (vLoad v16x6 H2) fun v17x7 =>
    HT prg I.impl_floorMod [a1, v13x5].toArray H2 fun v14x8 H9 =>
    Le H2 H9 ∧ (HT prg I.impl_floorMod [a2, v17x7].toArray H9 fun v18x10 H11 =>
    Le H9 H11 ∧ (HT prg I.impl_Field_at [v10x3, v14x8, v18x10].toArray H11 fun v19x12 H13 =>
    Le H11 H13 ∧ (K v19x12 H13))))
    (ob (vLoadN 3 v4x1 H2) fun v20x14 =>
  HT prg I.impl_Field_has [v20x14, a1, a2].toArray H2 fun v23x15 H16 =>
  ob (vUn .not v23x15) fun v24x17 =>
  cnd v24x17
    (K (.int .i64 0) H16)
    (ob (vLoadN 3 v4x1 H16) fun v25x18 =>
  HT prg I.impl_Field_at [v25x18, a1, a2].toArray H16 fun v28x19 H20 =>
  K v28x19 H20))
def O.impl_Field_look : Nat → Nat × List Nat := fun i => bif Nat.beq i 2 then (0, [0, 1, 2, 3, 5, 6, 7, 4, 8, 9, 10]) else (0, [])
theorem R.impl_Field_look {a0 a1 a2 a3 : Value} {H : Hp} {K : Value → Hp → Prop} (h : F.impl_Field_look a0 a1 a2 a3 H K) : HT prg I.impl_Field_look [a0, a1, a2, a3].toArray H K :=
  HT_of_fev O.impl_Field_look mixed Tryz.func55 (by kernel_rfl) (Eq.mpr (by kernel_rfl : fev prg O.impl_Field_look Tryz.f55 [a0, a1, a2, a3] H K = F.impl_Field_look a0 a1 a2 a3 H K) h)

/-! (loop.example/g01381/impl.Field).around: function 81 -/
def F.impl_Field_around (a0 a1 a2 a3 : Value) (H : Hp) (K : Value → Hp → Prop) : Prop :=
  nw (a0 : Value).cells 36 H fun v4x1 H2 =>
  ob (vLoadN 3 v4x1 H2) fun v12x3 =>
  HT prg I.impl_Field_at [v12x3, a1, a2].toArray H2 fun v15x4 H5 =>
  ob (vUn .neg v15x4) fun v16x6 =>
  jn (fun σ7 H7 =>
    K (σ7 9) H7) fun J7 =>
  ob (vInt .sub a1 (.int .i64 1)) fun v18x8 =>
  lpE (fun Q9 σ9 H9 =>
    ob (vInt .add (σ9 1) (.int .i64 1)) fun v21x10 =>
    ob (vInt .leq (σ9 10) v21x10) fun v22x11 =>
    cnd v22x11
      (jn (fun σ12 H12 =>
      ob (vInt .add (σ12 10) (.int .i64 1)) fun v24x13 =>
      Q9 .normal (up (up (up σ12 23 (σ12 10)) 24 v24x13) 10 v24x13) H12) fun J12 =>
    ob (vInt .sub (σ9 2) (.int .i64 1)) fun v26x14 =>
    lpE (fun Q15 σ15 H15 =>
      ob (vInt .add (σ15 2) (.int .i64 1)) fun v29x16 =>
      ob (vInt .leq (σ15 11) v29x16) fun v30x17 =>
      cnd v30x17
        (ob (vLoadN 3 (σ15 4) H15) fun v34x18 =>
      HT prg I.impl_Field_look [v34x18, (σ15 10), (σ15 11), (σ15 3)].toArray H15 fun v38x19 H20 =>
      ob (vInt .add (σ15 9) v38x19) fun v39x21 =>
      ob (vInt .add (σ15 11) (.int .i64 1)) fun v32x22 =>
      Q15 .normal (up (up (up (up (up (up (up (up (up (up (up (up (up (up (up σ15 27 (σ15 11)) 28 (σ15 2)) 29 v29x16) 30 v30x17) 33 (σ15 9)) 34 v34x18) 35 (σ15 10)) 36 (σ15 11)) 37 (σ15 3)) 38 v38x19) 39 v39x21) 9 v39x21) 31 (σ15 11)) 32 v32x22) 11 v32x22) H20)
        (Q15 (.exit 2) (up (up (up (up σ15 27 (σ15 11)) 28 (σ15 2)) 29 v29x16) 30 v30x17) H15)) (blkQ 2 (blkQ 1 (thenQ J12 Q9))) (up (up (up (up (up (up (up σ9 19 (σ9 10)) 20 (σ9 1)) 21 v21x10) 22 v22x11) 25 (σ9 2)) 26 v26x14) 11 v26x14) H9)
      (Q9 (.exit 0) (up (up (up (up σ9 19 (σ9 10)) 20 (σ9 1)) 21 v21x10) 22 v22x11) H9)) (blkQ 0 (thenQ J7 (retQ prg [(.tmp 8)] K))) (up (up (up (up (up (up (up (up (up (up (up (S0 [a0, a1, a2, a3]) 4 v4x1) 8 (.int .i64 0)) 12 v12x3) 13 a1) 14 a2) 15 v15x4) 16 v16x6) 9 v16x6) 17 a1) 18 v18x8) 10 v18x8) H5
def O.impl_Field_around : Nat → Nat × List Nat := fun i => (0, [])
theorem R.impl_Field_around {a0 a1 a2 a3 : Value} {H : Hp} {K : Value → Hp → Prop} (h : F.impl_Field_around a0 a1 a2 a3 H K) : HT prg I.impl_Field_around [a0, a1, a2, a3].toArray H K :=
  HT_of_fev O.impl_Field_around mixed Tryz.func81 (by kernel_rfl) (Eq.mpr (by kernel_rfl : fev prg O.impl_Field_around Tryz.f81 [a0, a1, a2, a3] H K = F.impl_Field_around a0 a1 a2 a3 H K) h)

/-! (loop.example/g01381/impl.Life).step$1: function 78 -/
def F.impl_Life_step_1 (a0 a1 a2 a3 a4 : Value) (H : Hp) (K : Value → Hp → Prop) : Prop :=
  ob (vLoadN 2 a2 H) fun v8x1 =>
  ob (vLoadN 3 a3 H) fun v9x2 =>
  ob (vLoadN 3 a3 H) fun v13x3 =>
  ob (vLoad a4 H) fun v16x4 =>
  HT prg I.impl_Field_at [v9x2, a0, a1].toArray H fun v12x5 H6 =>
  Le H H6 ∧ (HT prg I.impl_Field_around [v13x3, a0, a1, v16x4].toArray H6 fun v17x7 H8 =>
  Le H6 H8 ∧ (HT prg I.impl_Life_becomes [v8x1, v12x5, v17x7].toArray H8 fun v18x9 H10 =>
  Le H8 H10 ∧ (K v18x9 H10)))
def O.impl_Life_step_1 : Nat → Nat × List Nat := fun i => bif Nat.beq i 1 then (0, [0, 1, 2, 3, 5, 6, 7, 8, 4, 9, 10, 11]) else (0, [])
theorem R.impl_Life_step_1 {a0 a1 a2 a3 a4 : Value} {H : Hp} {K : Value → Hp → Prop} (h : F.impl_Life_step_1 a0 a1 a2 a3 a4 H K) : HT prg I.impl_Life_step_1 [a0, a1, a2, a3, a4].toArray H K :=
  HT_of_fev O.impl_Life_step_1 mixed Tryz.func78 (by kernel_rfl) (Eq.mpr (by kernel_rfl : fev prg O.impl_Life_step_1 Tryz.f78 [a0, a1, a2, a3, a4] H K = F.impl_Life_step_1 a0 a1 a2 a3 a4 H K) h)

/-! (loop.example/g01381/impl.Life).step: function 45 -/
def F.impl_Life_step (a0 a1 a2 : Value) (H : Hp) (K : Value → Hp → Prop) : Prop :=
  nw (a0 : Value).cells 26 H fun v3x1 H2 =>
  nw (a1 : Value).cells 36 H2 fun v4x3 H4 =>
  nw (a2 : Value).cells 4 H4 fun v5x5 H6 =>
  nw #[(.int .i64 0), (.int .i64 0), (.slice none 0 0)] 36 H6 fun v6x7 H8 =>
  ob (vFa 0 v4x3) fun v7x9 =>
  ob (vLoad v7x9 H8) fun v8x10 =>
  ob (vFa 1 v4x3) fun v9x11 =>
  ob (vLoad v9x11 H8) fun v10x12 =>
  HT prg I.impl_madeField [v8x10, v10x12, (.func (.func I.impl_Life_step_1) #[] #[v3x1, v4x3, v5x5])].toArray H8 fun v12x13 H14 =>
  st 3 v6x7 v12x13 H14 fun H15 =>
  ob (vLoadN 3 v6x7 H15) fun u16 => K u16 H15
def O.impl_Life_step : Nat → Nat × List Nat := fun i => (0, [])
theorem R.impl_Life_step {a0 a1 a2 : Value} {H : Hp} {K : Value → Hp → Prop} (h : F.impl_Life_step a0 a1 a2 H K) : HT prg I.impl_Life_step [a0, a1, a2].toArray H K :=
  HT_of_fev O.impl_Life_step mixed Tryz.func45 (by kernel_rfl) (Eq.mpr (by kernel_rfl : fev prg O.impl_Life_step Tryz.f45 [a0, a1, a2] H K = F.impl_Life_step a0 a1 a2 H K) h)

/-! slices.Clone[[]int64,int64]: function 119 -/
def F.slices_Clone_int64Zint64 (a0 : Value) (H : Hp) (K : Value → Hp → Prop) : Prop :=
  ob (vSlEq .eql a0 (.slice none 0 0)) fun v4x1 =>
  cnd v4x1
    (K (.slice none 0 0) H)
    (bS 1 0 #[(.int .i64 0)] 2 [] H fun v5x2 H3 =>
  apd 1 8 #[(.int .i64 0)] 2 v5x2 a0 H3 fun v7x4 H5 =>
  K v7x4 H5)
def O.slices_Clone_int64Zint64 : Nat → Nat × List Nat := fun i => (0, [])
theorem R.slices_Clone_int64Zint64 {a0 : Value} {H : Hp} {K : Value → Hp → Prop} (h : F.slices_Clone_int64Zint64 a0 H K) : HT prg I.slices_Clone_int64Zint64 [a0].toArray H K :=
  HT_of_fev O.slices_Clone_int64Zint64 mixed Tryz.func119 (by kernel_rfl) (Eq.mpr (by kernel_rfl : fev prg O.slices_Clone_int64Zint64 Tryz.f119 [a0] H K = F.slices_Clone_int64Zint64 a0 H K) h)

/-! loop.example/g01381/impl.copyField: function 91 -/
def F.impl_copyField (a0 : Value) (H : Hp) (K : Value → Hp → Prop) : Prop :=
  nw (a0 : Value).cells 36 H fun v1x1 H2 =>
  nw #[(.int .i64 0), (.int .i64 0), (.slice none 0 0)] 36 H2 fun v2x3 H4 =>
  ob (vFa 2 v1x1) fun v3x5 =>
  ob (vLoad v3x5 H4) fun v4x6 =>
  HT prg I.slices_Clone_int64Zint64 [v4x6].toArray H4 fun v5x7 H8 =>
  ob (vFa 2 v1x1) fun v6x9 =>
  st 1 v6x9 v5x7 H8 fun H10 =>
  ob (vLoadN 3 v1x1 H10) fun v7x11 =>
  st 3 v2x3 v7x11 H10 fun H12 =>
  ob (vLoadN 3 v2x3 H12) fun u13 => K u13 H12
def O.impl_copyField : Nat → Nat × List Nat := fun i => (0, [])
theorem R.impl_copyField {a0 : Value} {H : Hp} {K : Value → Hp → Prop} (h : F.impl_copyField a0 H K) : HT prg I.impl_copyField [a0].toArray H K :=
  HT_of_fev O.impl_copyField mixed Tryz.func91 (by kernel_rfl) (Eq.mpr (by kernel_rfl : fev prg O.impl_copyField Tryz.f91 [a0] H K = F.impl_copyField a0 H K) h)

/-! (loop.example/g01381/impl.Life).run: function 61 -/
def F.impl_Life_run (a0 a1 a2 a3 : Value) (H : Hp) (K : Value → Hp → Prop) : Prop :=
  nw (a0 : Value).cells 26 H fun v4x1 H2 =>
  nw (a1 : Value).cells 36 H2 fun v5x3 H4 =>
  nw #[(.int .i64 0), (.int .i64 0), (.slice none 0 0)] 36 H4 fun v8x5 H6 =>
  ob (vLoadN 3 v5x3 H6) fun v9x7 =>
  HT prg I.impl_copyField [v9x7].toArray H6 fun v10x8 H9 =>
  st 3 v5x3 v10x8 H9 fun H10 =>
  jn (fun σ11 H11 =>
    ob (vLoadN 3 (σ11 5) H11) fun v19x12 =>
    st 3 (σ11 8) v19x12 H11 fun H13 =>
    ob (vLoadN 3 (σ11 8) H13) fun u14 => K u14 H13) fun J11 =>
  lpE (fun Q15 σ15 H15 =>
    ob (vInt .lss (σ15 12) (σ15 11)) fun v13x16 =>
    cnd v13x16
      (ob (vLoadN 2 (σ15 4) H15) fun v14x17 =>
    ob (vLoadN 3 (σ15 5) H15) fun v15x18 =>
    HT prg I.impl_Life_step [v14x17, v15x18, (σ15 2)].toArray H15 fun v17x19 H20 =>
    st 3 (σ15 5) v17x19 H20 fun H21 =>
    ob (vInt .add (σ15 12) (.int .i64 1)) fun v18x22 =>
    Q15 .normal (up (up (up (up (up (up (up σ15 13 v13x16) 14 v14x17) 15 v15x18) 16 (σ15 2)) 17 v17x19) 18 v18x22) 12 v18x22) H21)
      (Q15 (.exit 0) (up σ15 13 v13x16) H15)) (blkQ 0 (thenQ J11 (retQ prg [(.cell 8 36)] K))) (up (up (up (up (up (up (up (S0 [a0, a1, a2, a3]) 4 v4x1) 5 v5x3) 8 v8x5) 9 v9x7) 10 v10x8) 11 a3) 12 (.int .i64 0)) H10
def O.impl_Life_run : Nat → Nat × List Nat := fun i => (0, [])
theorem R.impl_Life_run {a0 a1 a2 a3 : Value} {H : Hp} {K : Value → Hp → Prop} (h : F.impl_Life_run a0 a1 a2 a3 H K) : HT prg I.impl_Life_run [a0, a1, a2, a3].toArray H K :=
  HT_of_fev O.impl_Life_run mixed Tryz.func61 (by kernel_rfl) (Eq.mpr (by kernel_rfl : fev prg O.impl_Life_run Tryz.f61 [a0, a1, a2, a3] H K = F.impl_Life_run a0 a1 a2 a3 H K) h)

/-! loop.example/g01381/impl.isSide: function 31 -/
def F.impl_isSide (a0 : Value) (H : Hp) (K : Value → Hp → Prop) : Prop :=
  HT prg I.impl_within [a0, (.int .i64 1), (.int .i64 24)].toArray H fun v4x1 H2 =>
  K v4x1 H2
def O.impl_isSide : Nat → Nat × List Nat := fun i => (0, [])
theorem R.impl_isSide {a0 : Value} {H : Hp} {K : Value → Hp → Prop} (h : F.impl_isSide a0 H K) : HT prg I.impl_isSide [a0].toArray H K :=
  HT_of_fev O.impl_isSide mixed Tryz.func31 (by kernel_rfl) (Eq.mpr (by kernel_rfl : fev prg O.impl_isSide Tryz.f31 [a0] H K = F.impl_isSide a0 H K) h)

/-! loop.example/g01381/impl.isShare: function 32 -/
def F.impl_isShare (a0 : Value) (H : Hp) (K : Value → Hp → Prop) : Prop :=
  ob (vFcmp .geq a0 (.float .f32 0)) fun v4x1 =>
  gop v4x1 true (fun K2 => K2 a0 H) H fun v6x3 H4 =>
  gop v4x1 true (fun K5 => ob (vFcmp .leq v6x3 (.float .f32 1065353216)) fun u => K5 u H4) H4 fun v7x6 H7 =>
  ob (vPick v4x1 v7x6 (.bool false)) fun v8x8 =>
  K v8x8 H7
def O.impl_isShare : Nat → Nat × List Nat := fun i => (0, [])
theorem R.impl_isShare {a0 : Value} {H : Hp} {K : Value → Hp → Prop} (h : F.impl_isShare a0 H K) : HT prg I.impl_isShare [a0].toArray H K :=
  HT_of_fev O.impl_isShare mixed Tryz.func32 (by kernel_rfl) (Eq.mpr (by kernel_rfl : fev prg O.impl_isShare Tryz.f32 [a0] H K = F.impl_isShare a0 H K) h)

/-! loop.example/g01381/impl.isSeed: function 96 -/
def F.impl_isSeed (a0 : Value) (H : Hp) (K : Value → Hp → Prop) : Prop :=
  HT prg I.impl_within [a0, (.int .i64 0), (.int .i64 4294967295)].toArray H fun v4x1 H2 =>
  K v4x1 H2
def O.impl_isSeed : Nat → Nat × List Nat := fun i => (0, [])
theorem R.impl_isSeed {a0 : Value} {H : Hp} {K : Value → Hp → Prop} (h : F.impl_isSeed a0 H K) : HT prg I.impl_isSeed [a0].toArray H K :=
  HT_of_fev O.impl_isSeed mixed Tryz.func96 (by kernel_rfl) (Eq.mpr (by kernel_rfl : fev prg O.impl_isSeed Tryz.f96 [a0] H K = F.impl_isSeed a0 H K) h)

/-! loop.example/g01381/impl.nextSeed: function 98 -/
def F.impl_nextSeed (a0 : Value) (H : Hp) (K : Value → Hp → Prop) : Prop :=
  ob (vInt .mul (.int .i64 1664525) a0) fun v4x1 =>
  ob (vInt .add v4x1 (.int .i64 1013904223)) fun v5x2 =>
  ob (vInt .rem v5x2 (.int .i64 4294967296)) fun v6x3 =>
  K v6x3 H
def O.impl_nextSeed : Nat → Nat × List Nat := fun i => (0, [])
theorem R.impl_nextSeed {a0 : Value} {H : Hp} {K : Value → Hp → Prop} (h : F.impl_nextSeed a0 H K) : HT prg I.impl_nextSeed [a0].toArray H K :=
  HT_of_fev O.impl_nextSeed mixed Tryz.func98 (by kernel_rfl) (Eq.mpr (by kernel_rfl : fev prg O.impl_nextSeed Tryz.f98 [a0] H K = F.impl_nextSeed a0 H K) h)

/-! loop.example/g01381/impl.shareOf: function 100 -/
def F.impl_shareOf (a0 : Value) (H : Hp) (K : Value → Hp → Prop) : Prop :=
  ob (vInt .quo a0 (.int .i64 256)) fun v4x1 =>
  ob (vCF .f32 v4x1) fun v5x2 =>
  fA .quo v5x2 (.float .f32 1266679808) H fun v6x3 H4 =>
  K v6x3 H4
def O.impl_shareOf : Nat → Nat × List Nat := fun i => (0, [])
theorem R.impl_shareOf {a0 : Value} {H : Hp} {K : Value → Hp → Prop} (h : F.impl_shareOf a0 H K) : HT prg I.impl_shareOf [a0].toArray H K :=
  HT_of_fev O.impl_shareOf mixed Tryz.func100 (by kernel_rfl) (Eq.mpr (by kernel_rfl : fev prg O.impl_shareOf Tryz.f100 [a0] H K = F.impl_shareOf a0 H K) h)

/-! loop.example/g01381/impl.DrawField$1: function 97 -/
def F.impl_DrawField_1 (a0 a1 a2 a3 : Value) (H : Hp) (K : Value → Hp → Prop) : Prop :=
  ob (vLoad a2 H) fun v7x1 =>
  HT prg I.impl_nextSeed [v7x1].toArray H fun v8x2 H3 =>
  st 1 a2 v8x2 H3 fun H4 =>
  ob (vLoad a2 H4) fun v9x5 =>
  ob (vLoad a3 H4) fun v11x6 =>
  HT prg I.impl_shareOf [v9x5].toArray H4 fun v10x7 H8 =>
  Le H4 H8 ∧ (ob (vFcmp .lss v10x7 v11x6) fun v12x9 =>
  HT prg I.impl_bit [v12x9].toArray H8 fun v13x10 H11 =>
  Le H8 H11 ∧ (K v13x10 H11))
def O.impl_DrawField_1 : Nat → Nat × List Nat := fun i => bif Nat.beq i 2 then (0, [0, 2, 1, 3, 4, 5]) else (0, [])
theorem R.impl_DrawField_1 {a0 a1 a2 a3 : Value} {H : Hp} {K : Value → Hp → Prop} (h : F.impl_DrawField_1 a0 a1 a2 a3 H K) : HT prg I.impl_DrawField_1 [a0, a1, a2, a3].toArray H K :=
  HT_of_fev O.impl_DrawField_1 mixed Tryz.func97 (by kernel_rfl) (Eq.mpr (by kernel_rfl : fev prg O.impl_DrawField_1 Tryz.f97 [a0, a1, a2, a3] H K = F.impl_DrawField_1 a0 a1 a2 a3 H K) h)

/-! loop.example/g01381/impl.DrawField: function 66 -/
def F.impl_DrawField (a0 a1 a2 a3 : Value) (H : Hp) (K : Value → Hp → Prop) : Prop :=
  nw (a2 : Value).cells 29 H fun v6x1 H2 =>
  nw (a3 : Value).cells 2 H2 fun v7x3 H4 =>
  nw #[(.int .i64 0), (.int .i64 0), (.slice none 0 0)] 36 H4 fun v8x5 H6 =>
  HT prg I.impl_isSide [a0].toArray H6 fun v13x7 H8 =>
  ob (vUn .not v13x7) fun v14x9 =>
  gop v14x9 false (fun K10 => K10 a1 H8) H8 fun v16x11 H12 =>
  gop v14x9 false (fun K13 => HT prg I.impl_isSide [v16x11].toArray H12 K13) H12 fun v17x14 H15 =>
  gop v14x9 false (fun K16 => ob (vUn .not v17x14) fun u => K16 u H15) H15 fun v18x17 H18 =>
  ob (vPick v14x9 (.bool true) v18x17) fun v19x19 =>
  gop v19x19 false (fun K20 => ob (vLoad v6x1 H18) fun u => K20 u H18) H18 fun v21x21 H22 =>
  gop v19x19 false (fun K23 => HT prg I.impl_isShare [v21x21].toArray H22 K23) H22 fun v22x24 H25 =>
  gop v19x19 false (fun K26 => ob (vUn .not v22x24) fun u => K26 u H25) H25 fun v23x27 H28 =>
  ob (vPick v19x19 (.bool true) v23x27) fun v24x29 =>
  gop v24x29 false (fun K30 => ob (vLoad v7x3 H28) fun u => K30 u H28) H28 fun v26x31 H32 =>
  gop v24x29 false (fun K33 => HT prg I.impl_isSeed [v26x31].toArray H32 K33) H32 fun v27x34 H35 =>
  gop v24x29 false (fun K36 => ob (vUn .not v27x34) fun u => K36 u H35) H35 fun v28x37 H38 =>
  ob (vPick v24x29 (.bool true) v28x37) fun v29x39 =>
  cnd v29x39
    (ob (vBuild [(0, 1), (1, 1), (2, 1)] (.agg #[(.int .i64 0), (.int .i64 0), (.slice none 0 0)]) []) fun v30x40 =>
    st 3 v8x5 v30x40 H38 fun H41 =>
    ob (vLoadN 3 v8x5 H41) fun u42 => K (.tuple #[u42, (.int .i64 0), (.bool false)]) H41)
    (HT prg I.impl_madeField [a0, a1, (.func (.func I.impl_DrawField_1) #[] #[v7x3, v6x1])].toArray H38 fun v34x43 H44 =>
  nw #[(.int .i64 0), (.int .i64 0), (.slice none 0 0)] 36 H44 fun v11x45 H46 =>
  st 3 v11x45 v34x43 H46 fun H47 =>
  (ob (vLoadN 3 v11x45 H47) fun v35x48 =>
  ob (vLoad v7x3 H47) fun v36x49 =>
  st 3 v8x5 v35x48 H47 fun H50 =>
  ob (vLoadN 3 v8x5 H50) fun u51 => K (.tuple #[u51, v36x49, (.bool true)]) H50) ∧ (ob (vLoadN 3 v11x45 H47) fun v35x52 =>
  st 3 v8x5 v35x52 H47 fun H53 =>
  ob (vLoad v7x3 H53) fun v36x54 =>
  ob (vLoadN 3 v8x5 H53) fun u55 => K (.tuple #[u55, v36x54, (.bool true)]) H53))
def O.impl_DrawField : Nat → Nat × List Nat := fun i => bif Nat.beq i 4 then (0, [1001, 1002, 0, 1, 2, 3, 4, 0, 2, 1, 3, 4]) else (0, [])
theorem R.impl_DrawField {a0 a1 a2 a3 : Value} {H : Hp} {K : Value → Hp → Prop} (h : F.impl_DrawField a0 a1 a2 a3 H K) : HT prg I.impl_DrawField [a0, a1, a2, a3].toArray H K :=
  HT_of_fev O.impl_DrawField mixed Tryz.func66 (by kernel_rfl) (Eq.mpr (by kernel_rfl : fev prg O.impl_DrawField Tryz.f66 [a0, a1, a2, a3] H K = F.impl_DrawField a0 a1 a2 a3 H K) h)

/-! loop.example/g01381/impl.soup: function 26 -/
def F.impl_soup (a0 a1 a2 a3 a4 : Value) (H : Hp) (K : Value → Hp → Prop) : Prop :=
  nw (a0 : Value).cells 26 H fun v5x1 H2 =>
  nw #[(.int .i64 0), (.int .i64 0), (.slice none 0 0)] 36 H2 fun v10x3 H4 =>
  ob (vLoadN 2 v5x1 H4) fun v16x5 =>
  HT prg I.impl_ValidLife [v16x5].toArray H4 fun v17x6 H7 =>
  ob (vUn .not v17x6) fun v18x8 =>
  gop v18x8 false (fun K9 => K9 a4 H7) H7 fun v20x10 H11 =>
  gop v18x8 false (fun K12 => HT prg I.impl_within [v20x10, (.int .i64 0), (.int .i64 64)].toArray H11 K12) H11 fun v21x13 H14 =>
  gop v18x8 false (fun K15 => ob (vUn .not v21x13) fun u => K15 u H14) H14 fun v22x16 H17 =>
  ob (vPick v18x8 (.bool true) v22x16) fun v23x18 =>
  cnd v23x18
    (ob (vBuild [(0, 1), (1, 1), (2, 1)] (.agg #[(.int .i64 0), (.int .i64 0), (.slice none 0 0)]) []) fun v24x19 =>
    st 3 v10x3 v24x19 H17 fun H20 =>
    ob (vLoadN 3 v10x3 H20) fun u21 => K (.tuple #[u21, (.int .i64 0), (.bool false)]) H20)
    (HT prg I.impl_DrawField [a1, a1, a2, a3].toArray H17 fun v30x22 H23 =>
  ob (vExt v30x22 0) fun v31x24 =>
  ob (vExt v30x22 1) fun v32x25 =>
  ob (vExt v30x22 2) fun v33x26 =>
  nw #[(.int .i64 0), (.int .i64 0), (.slice none 0 0)] 36 H23 fun v13x27 H28 =>
  st 3 v13x27 v31x24 H28 fun H29 =>
  ob (vUn .not v33x26) fun v35x30 =>
  cnd v35x30
    (ob (vBuild [(0, 1), (1, 1), (2, 1)] (.agg #[(.int .i64 0), (.int .i64 0), (.slice none 0 0)]) []) fun v36x31 =>
    st 3 v10x3 v36x31 H29 fun H32 =>
    ob (vLoadN 3 v10x3 H32) fun u33 => K (.tuple #[u33, (.int .i64 0), (.bool false)]) H32)
    (ob (vLoadN 2 v5x1 H29) fun v37x34 =>
  ob (vLoadN 3 v13x27 H29) fun v38x35 =>
  HT prg I.impl_Life_run [v37x34, v38x35, (.bool true), a4].toArray H29 fun v40x36 H37 =>
  st 3 v10x3 v40x36 H37 fun H38 =>
  ob (vLoadN 3 v10x3 H38) fun u39 => K (.tuple #[u39, v32x25, (.bool true)]) H38))
def O.impl_soup : Nat → Nat × List Nat := fun i => (0, [])
theorem R.impl_soup {a0 a1 a2 a3 a4 : Value} {H : Hp} {K : Value → Hp → Prop} (h : F.impl_soup a0 a1 a2 a3 a4 H K) : HT prg I.impl_soup [a0, a1, a2, a3, a4].toArray H K :=
  HT_of_fev O.impl_soup mixed Tryz.func26 (by kernel_rfl) (Eq.mpr (by kernel_rfl : fev prg O.impl_soup Tryz.f26 [a0, a1, a2, a3, a4] H K = F.impl_soup a0 a1 a2 a3 a4 H K) h)

/-! (loop.example/g01381/impl.Field).cut$1: function 118 -/
def F.impl_Field_cut_1 (a0 a1 a2 a3 a4 : Value) (H : Hp) (K : Value → Hp → Prop) : Prop :=
  ob (vLoadN 3 a2 H) fun v8x1 =>
  ob (vLoad a3 H) fun v9x2 =>
  ob (vInt .add v9x2 a0) fun v11x3 =>
  ob (vLoad a4 H) fun v12x4 =>
  ob (vInt .add v12x4 a1) fun v14x5 =>
  HT prg I.impl_Field_at [v8x1, v11x3, v14x5].toArray H fun v15x6 H7 =>
  K v15x6 H7
def O.impl_Field_cut_1 : Nat → Nat × List Nat := fun i => (0, [])
theorem R.impl_Field_cut_1 {a0 a1 a2 a3 a4 : Value} {H : Hp} {K : Value → Hp → Prop} (h : F.impl_Field_cut_1 a0 a1 a2 a3 a4 H K) : HT prg I.impl_Field_cut_1 [a0, a1, a2, a3, a4].toArray H K :=
  HT_of_fev O.impl_Field_cut_1 mixed Tryz.func118 (by kernel_rfl) (Eq.mpr (by kernel_rfl : fev prg O.impl_Field_cut_1 Tryz.f118 [a0, a1, a2, a3, a4] H K = F.impl_Field_cut_1 a0 a1 a2 a3 a4 H K) h)

/-! (loop.example/g01381/impl.Field).cut: function 87 -/
def F.impl_Field_cut (a0 a1 a2 a3 a4 : Value) (H : Hp) (K : Value → Hp → Prop) : Prop :=
  nw (a0 : Value).cells 36 H fun v5x1 H2 =>
  nw (a1 : Value).cells 2 H2 fun v6x3 H4 =>
  nw (a2 : Value).cells 2 H4 fun v7x5 H6 =>
  nw #[(.int .i64 0), (.int .i64 0), (.slice none 0 0)] 36 H6 fun v10x7 H8 =>
  HT prg I.impl_madeField [a3, a4, (.func (.func I.impl_Field_cut_1) #[] #[v5x1, v6x3, v7x5])].toArray H8 fun v14x9 H10 =>
  st 3 v10x7 v14x9 H10 fun H11 =>
  ob (vLoadN 3 v10x7 H11) fun u12 => K u12 H11
def O.impl_Field_cut : Nat → Nat × List Nat := fun i => (0, [])
theorem R.impl_Field_cut {a0 a1 a2 a3 a4 : Value} {H : Hp} {K : Value → Hp → Prop} (h : F.impl_Field_cut a0 a1 a2 a3 a4 H K) : HT prg I.impl_Field_cut [a0, a1, a2, a3, a4].toArray H K :=
  HT_of_fev O.impl_Field_cut mixed Tryz.func87 (by kernel_rfl) (Eq.mpr (by kernel_rfl : fev prg O.impl_Field_cut Tryz.f87 [a0, a1, a2, a3, a4] H K = F.impl_Field_cut a0 a1 a2 a3 a4 H K) h)

/-! (loop.example/g01381/impl.Field).trimmed: function 56 -/
def F.impl_Field_trimmed (a0 : Value) (H : Hp) (K : Value → Hp → Prop) : Prop :=
  nw (a0 : Value).cells 36 H fun v1x1 H2 =>
  nw #[(.int .i64 0), (.int .i64 0), (.slice none 0 0)] 36 H2 fun v2x3 H4 =>
  ob (vFa 0 v1x1) fun v14x5 =>
  ob (vLoad v14x5 H4) fun v15x6 =>
  ob (vFa 1 v1x1) fun v16x7 =>
  ob (vLoad v16x7 H4) fun v17x8 =>
  jn (fun σ9 H9 =>
    ob (vInt .lss (σ9 8) (.int .i64 0)) fun v50x10 =>
    cnd v50x10
      (ob (vBuild [(0, 1), (1, 1), (2, 1)] (.agg #[(.int .i64 0), (.int .i64 0), (.slice none 0 0)]) []) fun v51x11 =>
      st 3 (σ9 2) v51x11 H9 fun H12 =>
      ob (vLoadN 3 (σ9 2) H12) fun u13 => K (.tuple #[u13, (.int .i64 0), (.int .i64 0), (.bool false)]) H12)
      (ob (vLoadN 3 (σ9 1) H9) fun v52x14 =>
    ob (vInt .sub (σ9 8) (σ9 6)) fun v57x15 =>
    ob (vInt .add v57x15 (.int .i64 1)) fun v58x16 =>
    ob (vInt .sub (σ9 9) (σ9 7)) fun v61x17 =>
    ob (vInt .add v61x17 (.int .i64 1)) fun v62x18 =>
    HT prg I.impl_Field_cut [v52x14, (σ9 6), (σ9 7), v58x16, v62x18].toArray H9 fun v63x19 H20 =>
    st 3 (σ9 2) v63x19 H20 fun H21 =>
    ob (vLoadN 3 (σ9 2) H21) fun u22 => K (.tuple #[u22, (σ9 6), (σ9 7), (.bool true)]) H21)) fun J9 =>
  ob (vFa 2 v1x1) fun v18x23 =>
  ob (vLoad v18x23 H4) fun v19x24 =>
  ob (vLenSl v19x24) fun v20x25 =>
  lpE (fun Q26 σ26 H26 =>
    ob (vInt .lss (σ26 21) (σ26 20)) fun v22x27 =>
    cnd v22x27
      (ob (vIx 1 (σ26 19) (σ26 21)) fun v24x28 =>
    ob (vLoad v24x28 H26) fun v25x29 =>
    ob (vInt .eql v25x29 (.int .i64 1)) fun v27x30 =>
    cnd v27x30
      (ob (vFa 1 (σ26 1)) fun v29x31 =>
      ob (vLoad v29x31 H26) fun v30x32 =>
      ob (vInt .quo (σ26 21) v30x32) fun v31x33 =>
      ob (vFa 1 (σ26 1)) fun v33x34 =>
      ob (vLoad v33x34 H26) fun v34x35 =>
      ob (vInt .rem (σ26 21) v34x35) fun v35x36 =>
      ob (vMx false (σ26 6) [v31x33]) fun v38x37 =>
      ob (vMx false (σ26 7) [v35x36]) fun v41x38 =>
      ob (vMx true (σ26 8) [v31x33]) fun v44x39 =>
      ob (vMx true (σ26 9) [v35x36]) fun v47x40 =>
      ob (vInt .add (σ26 21) (.int .i64 1)) fun v48x41 =>
    Q26 .normal (up (up (up (up (up (up (up (up (up (up (up (up (up (up (up (up (up (up (up (up (up (up (up (up (up (up (up (up (up (up (up (up (up (up (up (up σ26 22 v22x27) 23 (σ26 21)) 24 v24x28) 25 v25x29) 10 (σ26 21)) 11 v25x29) 26 v25x29) 27 v27x30) 28 (σ26 21)) 29 v29x31) 30 v30x32) 31 v31x33) 32 (σ26 21)) 33 v33x34) 34 v34x35) 35 v35x36) 12 v31x33) 13 v35x36) 36 (σ26 6)) 37 v31x33) 38 v38x37) 39 (σ26 7)) 40 v35x36) 41 v41x38) 42 (σ26 8)) 43 v31x33) 44 v44x39) 45 (σ26 9)) 46 v35x36) 47 v47x40) 6 v38x37) 7 v41x38) 8 v44x39) 9 v47x40) 48 v48x41) 21 v48x41) H26)
      (ob (vInt .add (σ26 21) (.int .i64 1)) fun v48x42 =>
    Q26 .normal (up (up (up (up (up (up (up (up (up (up σ26 22 v22x27) 23 (σ26 21)) 24 v24x28) 25 v25x29) 10 (σ26 21)) 11 v25x29) 26 v25x29) 27 v27x30) 48 v48x42) 21 v48x42) H26))
      (Q26 (.exit 0) (up σ26 22 v22x27) H26)) (blkQ 0 (thenQ J9 (retQ prg [(.cell 2 36), (.tmp 3), (.tmp 4), (.tmp 5)] K))) (up (up (up (up (up (up (up (up (up (up (up (up (up (up (up (up (up (S0 [a0]) 1 v1x1) 2 v2x3) 3 (.int .i64 0)) 4 (.int .i64 0)) 5 (.bool false)) 14 v14x5) 15 v15x6) 16 v16x7) 17 v17x8) 6 v15x6) 7 v17x8) 8 (.int .i64 (-1))) 9 (.int .i64 (-1))) 18 v18x23) 19 v19x24) 20 v20x25) 21 (.int .i64 0)) H4
def O.impl_Field_trimmed : Nat → Nat × List Nat := fun i => bif Nat.beq i 1 then (0, [0, 1, 2, 3, 4, 5, 6, 7]) else bif Nat.beq i 6 then (0, [0, 1, 2, 3, 4, 5, 6, 7, 8, 9]) else (0, [])
theorem R.impl_Field_trimmed {a0 : Value} {H : Hp} {K : Value → Hp → Prop} (h : F.impl_Field_trimmed a0 H K) : HT prg I.impl_Field_trimmed [a0].toArray H K :=
  HT_of_fev O.impl_Field_trimmed mixed Tryz.func56 (by kernel_rfl) (Eq.mpr (by kernel_rfl : fev prg O.impl_Field_trimmed Tryz.f56 [a0] H K = F.impl_Field_trimmed a0 H K) h)

/-! loop.example/g01381/impl.areMany: function 143 -/
def F.impl_areMany (a0 a1 a2 a3 a4 : Value) (H : Hp) (K : Value → Hp → Prop) : Prop :=
  ob (vLenSl a0) fun v12x1 =>
  HT prg I.impl_within [v12x1, a1, a2].toArray H fun v15x2 H3 =>
  gop v15x2 true (fun K4 => K4 a0 H3) H3 fun v17x5 H6 =>
  gop v15x2 true (fun K7 => K7 a3 H6) H6 fun v18x8 H9 =>
  gop v15x2 true (fun K10 => K10 a4 H9) H9 fun v19x11 H12 =>
  gop v15x2 true (fun K13 => HT prg I.impl_areWithin [v17x5, v18x8, v19x11].toArray H12 K13) H12 fun v20x14 H15 =>
  ob (vPick v15x2 v20x14 (.bool false)) fun v21x16 =>
  K v21x16 H15
def O.impl_areMany : Nat → Nat × List Nat := fun i => (0, [])
theorem R.impl_areMany {a0 a1 a2 a3 a4 : Value} {H : Hp} {K : Value → Hp → Prop} (h : F.impl_areMany a0 a1 a2 a3 a4 H K) : HT prg I.impl_areMany [a0, a1, a2, a3, a4].toArray H K :=
  HT_of_fev O.impl_areMany mixed Tryz.func143 (by kernel_rfl) (Eq.mpr (by kernel_rfl : fev prg O.impl_areMany Tryz.f143 [a0, a1, a2, a3, a4] H K = F.impl_areMany a0 a1 a2 a3 a4 H K) h)

/-! loop.example/g01381/impl.ValidField: function 115 -/
def F.impl_ValidField (a0 : Value) (H : Hp) (K : Value → Hp → Prop) : Prop :=
  nw (a0 : Value).cells 36 H fun v1x1 H2 =>
  ob (vFa 0 v1x1) fun v4x3 =>
  ob (vLoad v4x3 H2) fun v5x4 =>
  ob (vFa 1 v1x1) fun v6x5 =>
  ob (vLoad v6x5 H2) fun v7x6 =>
  ob (vInt .mul v5x4 v7x6) fun v8x7 =>
  ob (vFa 0 v1x1) fun v9x8 =>
  ob (vLoad v9x8 H2) fun v10x9 =>
  HT prg I.impl_isSide [v10x9].toArray H2 fun v11x10 H11 =>
  gop v11x10 true (fun K12 => ob (vFa 1 v1x1) fun u => K12 u H11) H11 fun v13x13 H14 =>
  gop v11x10 true (fun K15 => ob (vLoad v13x13 H14) fun u => K15 u H14) H14 fun v14x16 H17 =>
  gop v11x10 true (fun K18 => HT prg I.impl_isSide [v14x16].toArray H17 K18) H17 fun v15x19 H20 =>
  ob (vPick v11x10 v15x19 (.bool false)) fun v16x21 =>
  gop v16x21 true (fun K22 => ob (vFa 2 v1x1) fun u => K22 u H20) H20 fun v18x23 H24 =>
  gop v16x21 true (fun K25 => ob (vLoad v18x23 H24) fun u => K25 u H24) H24 fun v19x26 H27 =>
  gop v16x21 true (fun K28 => K28 v8x7 H27) H27 fun v20x29 H30 =>
  gop v16x21 true (fun K31 => K31 v8x7 H30) H30 fun v21x32 H33 =>
  gop v16x21 true (fun K34 => HT prg I.impl_areMany [v19x26, v20x29, v21x32, (.int .i64 0), (.int .i64 9)].toArray H33 K34) H33 fun v22x35 H36 =>
  ob (vPick v16x21 v22x35 (.bool false)) fun v23x37 =>
  K v23x37 H36
def O.impl_ValidField : Nat → Nat × List Nat := fun i => (0, [])
theorem R.impl_ValidField {a0 : Value} {H : Hp} {K : Value → Hp → Prop} (h : F.impl_ValidField a0 H K) : HT prg I.impl_ValidField [a0].toArray H K :=
  HT_of_fev O.impl_ValidField mixed Tryz.func115 (by kernel_rfl) (Eq.mpr (by kernel_rfl : fev prg O.impl_ValidField Tryz.f115 [a0] H K = F.impl_ValidField a0 H K) h)

/-! loop.example/g01381/impl.isPlain: function 77 -/
def F.impl_isPlain (a0 : Value) (H : Hp) (K : Value → Hp → Prop) : Prop :=
  nw (a0 : Value).cells 36 H fun v1x1 H2 =>
  ob (vLoadN 3 v1x1 H2) fun v3x3 =>
  HT prg I.impl_ValidField [v3x3].toArray H2 fun v4x4 H5 =>
  gop v4x4 true (fun K6 => ob (vFa 2 v1x1) fun u => K6 u H5) H5 fun v6x7 H8 =>
  gop v4x4 true (fun K9 => ob (vLoad v6x7 H8) fun u => K9 u H8) H8 fun v7x10 H11 =>
  gop v4x4 true (fun K12 => HT prg I.impl_areWithin [v7x10, (.int .i64 0), (.int .i64 1)].toArray H11 K12) H11 fun v8x13 H14 =>
  ob (vPick v4x4 v8x13 (.bool false)) fun v9x15 =>
  K v9x15 H14
def O.impl_isPlain : Nat → Nat × List Nat := fun i => (0, [])
theorem R.impl_isPlain {a0 : Value} {H : Hp} {K : Value → Hp → Prop} (h : F.impl_isPlain a0 H K) : HT prg I.impl_isPlain [a0].toArray H K :=
  HT_of_fev O.impl_isPlain mixed Tryz.func77 (by kernel_rfl) (Eq.mpr (by kernel_rfl : fev prg O.impl_isPlain Tryz.f77 [a0] H K = F.impl_isPlain a0 H K) h)

/-! (loop.example/g01381/impl.Field).clusters$1: function 120 -/
def F.impl_Field_clusters_1 (a0 a1 a2 a3 a4 a5 : Value) (H : Hp) (K : Value → Hp → Prop) : Prop :=
  ob (vFa 1 a2) fun v10x1 =>
  ob (vLoad v10x1 H) fun v11x2 =>
  ob (vInt .mul a0 v11x2) fun v12x3 =>
  ob (vInt .add v12x3 a1) fun v14x4 =>
  ob (vFa 2 a2) fun v15x5 =>
  ob (vLoad v15x5 H) fun v16x6 =>
  ob (vIx 1 v16x6 v14x4) fun v18x7 =>
  ob (vLoad v18x7 H) fun v19x8 =>
  ob (vInt .eql v19x8 (.int .i64 1)) fun v20x9 =>
  gop v20x9 true (fun K10 => ob (vLoad a3 H) fun u => K10 u H) H fun v22x11 H12 =>
  gop v20x9 true (fun K13 => K13 v14x4 H12) H12 fun v23x14 H15 =>
  gop v20x9 true (fun K16 => ob (vIx 1 v22x11 v23x14) fun u => K16 u H15) H15 fun v24x17 H18 =>
  gop v20x9 true (fun K19 => ob (vLoad v24x17 H18) fun u => K19 u H18) H18 fun v25x20 H21 =>
  gop v20x9 true (fun K22 => ob (vInt .eql v25x20 (.int .i64 0)) fun u => K22 u H21) H21 fun v26x23 H24 =>
  ob (vPick v20x9 v26x23 (.bool false)) fun v27x25 =>
  cnd v27x25
    (ob (vLoad a3 H24) fun v28x26 =>
    ob (vLoad a4 H24) fun v30x27 =>
    ob (vIx 1 v28x26 v14x4) fun v31x28 =>
    st 1 v31x28 v30x27 H24 fun H29 =>
    ob (vLoad a5 H29) fun v32x30 =>
    bS 1 1 #[(.int .i64 0)] 2 [(0, v14x4)] H29 fun v34x31 H32 =>
    apd 1 8 #[(.int .i64 0)] 2 v32x30 v34x31 H32 fun v35x33 H34 =>
    st 1 a5 v35x33 H34 fun H35 =>
    K (.tuple #[]) H35)
    (K (.tuple #[]) H24)
def O.impl_Field_clusters_1 : Nat → Nat × List Nat := fun i => (0, [])
theorem R.impl_Field_clusters_1 {a0 a1 a2 a3 a4 a5 : Value} {H : Hp} {K : Value → Hp → Prop} (h : F.impl_Field_clusters_1 a0 a1 a2 a3 a4 a5 H K) : HT prg I.impl_Field_clusters_1 [a0, a1, a2, a3, a4, a5].toArray H K :=
  HT_of_fev O.impl_Field_clusters_1 mixed Tryz.func120 (by kernel_rfl) (Eq.mpr (by kernel_rfl : fev prg O.impl_Field_clusters_1 Tryz.f120 [a0, a1, a2, a3, a4, a5] H K = F.impl_Field_clusters_1 a0 a1 a2 a3 a4 a5 H K) h)

/-! (loop.example/g01381/impl.Field).clusters: function 101 -/
def F.impl_Field_clustersX (a0 a1 : Value) (H : Hp) (K : Value → Hp → Prop) : Prop :=
  nw (a0 : Value).cells 36 H fun v2x1 H2 =>
  ob (vFa 2 v2x1) fun v12x3 =>
  ob (vLoad v12x3 H2) fun v13x4 =>
  ob (vLenSl v13x4) fun v14x5 =>
  mkS 1 8 #[(.int .i64 0)] 2 v14x5 v14x5 H2 fun v15x6 H7 =>
  nw #[(.slice none 0 0)] 24 H7 fun v6x8 H9 =>
  st 1 v6x8 v15x6 H9 fun H10 =>
  nw #[(.int .i64 0)] 2 H10 fun v7x11 H12 =>
  st 1 v7x11 (.int .i64 0) H12 fun H13 =>
  jn (fun σ14 H14 =>
    ob (vLoad (σ14 6) H14) fun v67x15 =>
    ob (vLoad (σ14 7) H14) fun v68x16 =>
    K (.tuple #[v67x15, v68x16]) H14) fun J14 =>
  ob (vFa 2 v2x1) fun v16x17 =>
  ob (vLoad v16x17 H13) fun v17x18 =>
  ob (vLenSl v17x18) fun v18x19 =>
  lpE (fun Q20 σ20 H20 =>
    ob (vInt .lss (σ20 19) (σ20 18)) fun v20x21 =>
    cnd v20x21
      (jn (fun σ22 H22 =>
      ob (vInt .add (σ22 19) (.int .i64 1)) fun v66x23 =>
      Q20 .normal (up (up σ22 66 v66x23) 19 v66x23) H22) fun J22 =>
    ob (vIx 1 (σ20 17) (σ20 19)) fun v22x24 =>
    ob (vLoad v22x24 H20) fun v23x25 =>
    ob (vInt .neq v23x25 (.int .i64 1)) fun v25x26 =>
    gop v25x26 false (fun K27 => ob (vLoad (σ20 6) H20) fun u => K27 u H20) H20 fun v27x28 H29 =>
    gop v25x26 false (fun K30 => K30 (σ20 19) H29) H29 fun v28x31 H32 =>
    gop v25x26 false (fun K33 => ob (vIx 1 v27x28 v28x31) fun u => K33 u H32) H32 fun v29x34 H35 =>
    gop v25x26 false (fun K36 => ob (vLoad v29x34 H35) fun u => K36 u H35) H35 fun v30x37 H38 =>
    gop v25x26 false (fun K39 => ob (vInt .neq v30x37 (.int .i64 0)) fun u => K39 u H38) H38 fun v31x40 H41 =>
    ob (vPick v25x26 (.bool true) v31x40) fun v32x42 =>
    cnd v32x42
      (J22 (up (up (up (up (up (up (up (up (up (up (up (up (up (up (up σ20 20 v20x21) 21 (σ20 19)) 22 v22x24) 23 v23x25) 8 (σ20 19)) 9 v23x25) 24 v23x25) 25 v25x26) 26 v25x26) 27 v27x28) 28 v28x31) 29 v29x34) 30 v30x37) 31 v31x40) 32 v32x42) H41)
      (ob (vLoad (σ20 7) H41) fun v33x43 =>
    ob (vInt .add v33x43 (.int .i64 1)) fun v34x44 =>
    st 1 (σ20 7) v34x44 H41 fun H45 =>
    ob (vLoad (σ20 6) H45) fun v35x46 =>
    ob (vLoad (σ20 7) H45) fun v37x47 =>
    ob (vIx 1 v35x46 (σ20 19)) fun v38x48 =>
    st 1 v38x48 v37x47 H45 fun H49 =>
    bS 1 1 #[(.int .i64 0)] 2 [(0, (σ20 19))] H49 fun v40x50 H51 =>
    nw #[(.slice none 0 0)] 24 H51 fun v10x52 H53 =>
    st 1 v10x52 v40x50 H53 fun H54 =>
    lpE (fun Q55 σ55 H55 =>
      ob (vLoad (σ55 10) H55) fun v41x56 =>
      ob (vLenSl v41x56) fun v42x57 =>
      ob (vInt .gtr v42x57 (.int .i64 0)) fun v43x58 =>
      cnd v43x58
        (ob (vLoad (σ55 10) H55) fun v44x59 =>
      ob (vLoad (σ55 10) H55) fun v45x60 =>
      ob (vLenSl v45x60) fun v46x61 =>
      ob (vInt .sub v46x61 (.int .i64 1)) fun v47x62 =>
      ob (vIx 1 v44x59 v47x62) fun v48x63 =>
      ob (vLoad v48x63 H55) fun v49x64 =>
      ob (vLoad (σ55 10) H55) fun v50x65 =>
      ob (vLoad (σ55 10) H55) fun v51x66 =>
      ob (vLenSl v51x66) fun v52x67 =>
      ob (vInt .sub v52x67 (.int .i64 1)) fun v53x68 =>
      ob (vSl3 1 v50x65 none (some v53x68) none) fun v54x69 =>
      st 1 (σ55 10) v54x69 H55 fun H70 =>
      ob (vFa 1 (σ55 2)) fun v57x71 =>
      ob (vLoad v57x71 H70) fun v58x72 =>
      ob (vInt .quo v49x64 v58x72) fun v59x73 =>
      ob (vFa 1 (σ55 2)) fun v61x74 =>
      ob (vLoad v61x74 H70) fun v62x75 =>
      ob (vInt .rem v49x64 v62x75) fun v63x76 =>
      callV prg (σ55 1) [v59x73, v63x76, (.func (.func I.impl_Field_clusters_1) #[] #[(σ55 2), (σ55 6), (σ55 7), (σ55 10)])] H70 fun v65x77 H78 =>
      Q55 .normal (up (up (up (up (up (up (up (up (up (up (up (up (up (up (up (up (up (up (up (up (up (up (up (up (up (up σ55 41 v41x56) 42 v42x57) 43 v43x58) 44 v44x59) 45 v45x60) 46 v46x61) 47 v47x62) 48 v48x63) 49 v49x64) 11 v49x64) 50 v50x65) 51 v51x66) 52 v52x67) 53 v53x68) 54 v54x69) 55 (σ55 1)) 56 v49x64) 57 v57x71) 58 v58x72) 59 v59x73) 60 v49x64) 61 v61x74) 62 v62x75) 63 v63x76) 64 (.func (.func I.impl_Field_clusters_1) #[] #[(σ55 2), (σ55 6), (σ55 7), (σ55 10)])) 65 v65x77) H78)
        (Q55 (.exit 2) (up (up (up σ55 41 v41x56) 42 v42x57) 43 v43x58) H55)) (blkQ 2 (blkQ 1 (thenQ J22 Q20))) (up (up (up (up (up (up (up (up (up (up (up (up (up (up (up (up (up (up (up (up (up (up (up (up σ20 20 v20x21) 21 (σ20 19)) 22 v22x24) 23 v23x25) 8 (σ20 19)) 9 v23x25) 24 v23x25) 25 v25x26) 26 v25x26) 27 v27x28) 28 v28x31) 29 v29x34) 30 v30x37) 31 v31x40) 32 v32x42) 33 v33x43) 34 v34x44) 35 v35x46) 36 (σ20 19)) 37 v37x47) 38 v38x48) 39 (σ20 19)) 40 v40x50) 10 v10x52) H54))
      (Q20 (.exit 0) (up σ20 20 v20x21) H20)) (blkQ 0 (thenQ J14 (retQ prg [(.tmp 4), (.tmp 5)] K))) (up (up (up (up (up (up (up (up (up (up (up (up (up (S0 [a0, a1]) 2 v2x1) 4 (.slice none 0 0)) 5 (.int .i64 0)) 12 v12x3) 13 v13x4) 14 v14x5) 15 v15x6) 6 v6x8) 7 v7x11) 16 v16x17) 17 v17x18) 18 v18x19) 19 (.int .i64 0)) H13
def O.impl_Field_clustersX : Nat → Nat × List Nat := fun i => bif Nat.beq i 15 then (2, [0, 1, 2, 3]) else bif Nat.beq i 13 then (2, [0, 1, 2, 3, 4, 5, 6, 7, 8, 9, 10]) else (0, [])
theorem R.impl_Field_clustersX {a0 a1 : Value} {H : Hp} {K : Value → Hp → Prop} (h : F.impl_Field_clustersX a0 a1 H K) : HT prg I.impl_Field_clusters [a0, a1].toArray H K :=
  HT_of_fev O.impl_Field_clustersX mixed Tryz.func101 (by kernel_rfl) (Eq.mpr (by kernel_rfl : fev prg O.impl_Field_clustersX Tryz.f101 [a0, a1] H K = F.impl_Field_clustersX a0 a1 H K) h)

/-! (loop.example/g01381/impl.Field).corners: function 102 -/
def F.impl_Field_corners (a0 a1 a2 a3 : Value) (H : Hp) (K : Value → Hp → Prop) : Prop :=
  nw (a0 : Value).cells 36 H fun v4x1 H2 =>
  ob (vInt .sub a1 (.int .i64 1)) fun v11x3 =>
  lpE (fun Q4 σ4 H4 =>
    ob (vInt .add (σ4 1) (.int .i64 1)) fun v14x5 =>
    ob (vInt .leq (σ4 8) v14x5) fun v15x6 =>
    cnd v15x6
      (jn (fun σ7 H7 =>
      ob (vInt .add (σ7 8) (.int .i64 1)) fun v17x8 =>
      Q4 .normal (up (up (up σ7 16 (σ7 8)) 17 v17x8) 8 v17x8) H7) fun J7 =>
    ob (vInt .sub (σ4 2) (.int .i64 1)) fun v19x9 =>
    lpE (fun Q10 σ10 H10 =>
      ob (vInt .add (σ10 2) (.int .i64 1)) fun v22x11 =>
      ob (vInt .leq (σ10 9) v22x11) fun v23x12 =>
      cnd v23x12
        (ob (vLoadN 3 (σ10 4) H10) fun v26x13 =>
      HT prg I.impl_Field_has [v26x13, (σ10 8), (σ10 9)].toArray H10 fun v29x14 H15 =>
      gop v29x14 true (fun K16 => K16 (σ10 8) H15) H15 fun v31x17 H18 =>
      gop v29x14 true (fun K19 => K19 (σ10 1) H18) H18 fun v32x20 H21 =>
      gop v29x14 true (fun K22 => ob (vInt .neq v31x17 v32x20) fun u => K22 u H21) H21 fun v33x23 H24 =>
      gop v29x14 true (fun K25 => K25 v33x23 H24) H24 fun v34x26 H27 =>
      gop v34x26 false (fun K28 => K28 (σ10 9) H27) H27 fun v35x29 H30 =>
      gop v34x26 false (fun K31 => K31 (σ10 2) H30) H30 fun v36x32 H33 =>
      gop v34x26 false (fun K34 => ob (vInt .neq v35x29 v36x32) fun u => K34 u H33) H33 fun v37x35 H36 =>
      gop v29x14 true (fun K37 => ob (vPick v34x26 (.bool true) v37x35) fun u => K37 u H36) H36 fun v38x38 H39 =>
      ob (vPick v29x14 v38x38 (.bool false)) fun v39x40 =>
      cnd v39x40
        (callV prg (σ10 3) [(σ10 8), (σ10 9)] H39 fun v43x41 H42 =>
        ob (vInt .add (σ10 9) (.int .i64 1)) fun v25x43 =>
      Q10 .normal (up (up (up (up (up (up (up (up (up (up (up (up (up (up (up (up (up (up (up (up (up (up (up (up (up σ10 20 (σ10 9)) 21 (σ10 2)) 22 v22x11) 23 v23x12) 26 v26x13) 27 (σ10 8)) 28 (σ10 9)) 29 v29x14) 30 v29x14) 31 v31x17) 32 v32x20) 33 v33x23) 34 v34x26) 35 v35x29) 36 v36x32) 37 v37x35) 38 v38x38) 39 v39x40) 40 (σ10 3)) 41 (σ10 8)) 42 (σ10 9)) 43 v43x41) 24 (σ10 9)) 25 v25x43) 9 v25x43) H42)
        (ob (vInt .add (σ10 9) (.int .i64 1)) fun v25x44 =>
      Q10 .normal (up (up (up (up (up (up (up (up (up (up (up (up (up (up (up (up (up (up (up (up (up σ10 20 (σ10 9)) 21 (σ10 2)) 22 v22x11) 23 v23x12) 26 v26x13) 27 (σ10 8)) 28 (σ10 9)) 29 v29x14) 30 v29x14) 31 v31x17) 32 v32x20) 33 v33x23) 34 v34x26) 35 v35x29) 36 v36x32) 37 v37x35) 38 v38x38) 39 v39x40) 24 (σ10 9)) 25 v25x44) 9 v25x44) H39))
        (Q10 (.exit 2) (up (up (up (up σ10 20 (σ10 9)) 21 (σ10 2)) 22 v22x11) 23 v23x12) H10)) (blkQ 2 (blkQ 1 (thenQ J7 Q4))) (up (up (up (up (up (up (up σ4 12 (σ4 8)) 13 (σ4 1)) 14 v14x5) 15 v15x6) 18 (σ4 2)) 19 v19x9) 9 v19x9) H4)
      (Q4 (.exit 0) (up (up (up (up σ4 12 (σ4 8)) 13 (σ4 1)) 14 v14x5) 15 v15x6) H4)) (blkQ 0 (retQ prg [] K)) (up (up (up (up (S0 [a0, a1, a2, a3]) 4 v4x1) 10 a1) 11 v11x3) 8 v11x3) H2
def O.impl_Field_corners : Nat → Nat × List Nat := fun i => (0, [])
theorem R.impl_Field_corners {a0 a1 a2 a3 : Value} {H : Hp} {K : Value → Hp → Prop} (h : F.impl_Field_corners a0 a1 a2 a3 H K) : HT prg I.impl_Field_corners [a0, a1, a2, a3].toArray H K :=
  HT_of_fev O.impl_Field_corners mixed Tryz.func102 (by kernel_rfl) (Eq.mpr (by kernel_rfl : fev prg O.impl_Field_corners Tryz.f102 [a0, a1, a2, a3] H K = F.impl_Field_corners a0 a1 a2 a3 H K) h)

/-! loop.example/g01381/impl.PartsOf$1: function 103 -/
def F.impl_PartsOf_1 (a0 a1 a2 a3 a4 : Value) (H : Hp) (K : Value → Hp → Prop) : Prop :=
  ob (vLoad a2 H) fun v8x1 =>
  ob (vFa 1 a3) fun v10x2 =>
  ob (vLoad v10x2 H) fun v11x3 =>
  ob (vInt .mul a0 v11x3) fun v12x4 =>
  ob (vInt .add v12x4 a1) fun v14x5 =>
  ob (vIx 1 v8x1 v14x5) fun v15x6 =>
  ob (vLoad v15x6 H) fun v16x7 =>
  ob (vLoad a4 H) fun v17x8 =>
  ob (vInt .add v17x8 (.int .i64 1)) fun v18x9 =>
  ob (vInt .eql v16x7 v18x9) fun v19x10 =>
  HT prg I.impl_bit [v19x10].toArray H fun v20x11 H12 =>
  Le H H12 ∧ (K v20x11 H12)
def O.impl_PartsOf_1 : Nat → Nat × List Nat := fun i => bif Nat.beq i 1 then (0, [0, 1, 2, 3, 4, 5, 6, 7, 8, 9, 10, 11, 12, 13]) else (0, [])
theorem R.impl_PartsOf_1 {a0 a1 a2 a3 a4 : Value} {H : Hp} {K : Value → Hp → Prop} (h : F.impl_PartsOf_1 a0 a1 a2 a3 a4 H K) : HT prg I.impl_PartsOf_1 [a0, a1, a2, a3, a4].toArray H K :=
  HT_of_fev O.impl_PartsOf_1 mixed Tryz.func103 (by kernel_rfl) (Eq.mpr (by kernel_rfl : fev prg O.impl_PartsOf_1 Tryz.f103 [a0, a1, a2, a3, a4] H K = F.impl_PartsOf_1 a0 a1 a2 a3 a4 H K) h)

/-! loop.example/g01381/impl.PartsOf: function 67 -/
def F.impl_PartsOf (a0 : Value) (H : Hp) (K : Value → Hp → Prop) : Prop :=
  nw (a0 : Value).cells 36 H fun v1x1 H2 =>
  ob (vLoadN 3 v1x1 H2) fun v15x3 =>
  HT prg I.impl_isPlain [v15x3].toArray H2 fun v16x4 H5 =>
  ob (vUn .not v16x4) fun v17x6 =>
  cnd v17x6
    (K (.tuple #[(.slice none 0 0), (.slice none 0 0), (.bool false)]) H5)
    (ob (vLoadN 3 v1x1 H5) fun v19x7 =>
  ob (vLoadN 3 v1x1 H5) fun v20x8 =>
  HT prg I.impl_Field_clusters [v19x7, (.func (.func I.impl_Field_corners) #[v20x8] #[])].toArray H5 fun v22x9 H10 =>
  ob (vExt v22x9 0) fun v23x11 =>
  ob (vExt v22x9 1) fun v24x12 =>
  nw #[(.slice none 0 0)] 24 H10 fun v5x13 H14 =>
  st 1 v5x13 v23x11 H14 fun H15 =>
  bS 3 0 #[(.int .i64 0), (.int .i64 0), (.slice none 0 0)] 36 [] H15 fun v25x16 H17 =>
  bS 1 0 #[(.int .i64 0)] 2 [] H17 fun v26x18 H19 =>
  jn (fun σ20 H20 =>
    K (.tuple #[(σ20 7), (σ20 8), (.bool true)]) H20) fun J20 =>
  lpE (fun Q21 σ21 H21 =>
    ob (vInt .lss (σ21 28) (σ21 27)) fun v29x22 =>
    cnd v29x22
      (nw #[(.int .i64 0)] 2 H21 fun v9x23 H24 =>
    st 1 v9x23 (σ21 28) H24 fun H25 =>
    ob (vFa 0 (σ21 1)) fun v31x26 =>
    ob (vLoad v31x26 H25) fun v32x27 =>
    ob (vFa 1 (σ21 1)) fun v33x28 =>
    ob (vLoad v33x28 H25) fun v34x29 =>
    HT prg I.impl_madeField [v32x27, v34x29, (.func (.func I.impl_PartsOf_1) #[] #[(σ21 5), (σ21 1), v9x23])].toArray H25 fun v36x30 H31 =>
    nw #[(.int .i64 0), (.int .i64 0), (.slice none 0 0)] 36 H31 fun v10x32 H33 =>
    st 3 v10x32 v36x30 H33 fun H34 =>
    ob (vLoadN 3 v10x32 H34) fun v38x35 =>
    HT prg I.impl_Field_trimmed [v38x35].toArray H34 fun v39x36 H37 =>
    ob (vExt v39x36 0) fun v40x38 =>
    ob (vExt v39x36 1) fun v41x39 =>
    ob (vExt v39x36 2) fun v42x40 =>
    ob (vExt v39x36 3) fun v43x41 =>
    nw #[(.int .i64 0), (.int .i64 0), (.slice none 0 0)] 36 H37 fun v11x42 H43 =>
    st 3 v11x42 v40x38 H43 fun H44 =>
    ob (vLoadN 3 v11x42 H44) fun v45x45 =>
    bS 3 1 #[(.int .i64 0), (.int .i64 0), (.slice none 0 0)] 36 [(0, v45x45)] H44 fun v46x46 H47 =>
    apd 3 40 #[(.int .i64 0), (.int .i64 0), (.slice none 0 0)] 36 (σ21 7) v46x46 H47 fun v47x48 H49 =>
    bS 1 2 #[(.int .i64 0)] 2 [(0, v41x39), (1, v42x40)] H49 fun v51x50 H51 =>
    apd 1 8 #[(.int .i64 0)] 2 (σ21 8) v51x50 H51 fun v52x52 H53 =>
    ob (vInt .add (σ21 28) (.int .i64 1)) fun v53x54 =>
    Q21 .normal (up (up (up (up (up (up (up (up (up (up (up (up (up (up (up (up (up (up (up (up (up (up (up (up (up (up (up (up (up (up (up (up (up (up σ21 29 v29x22) 30 (σ21 28)) 9 v9x23) 31 v31x26) 32 v32x27) 33 v33x28) 34 v34x29) 35 (.func (.func I.impl_PartsOf_1) #[] #[(σ21 5), (σ21 1), v9x23])) 36 v36x30) 10 v10x32) 38 v38x35) 39 v39x36) 37 v39x36) 40 v40x38) 41 v41x39) 42 v42x40) 43 v43x41) 11 v11x42) 12 v41x39) 13 v42x40) 14 v43x41) 44 (σ21 7)) 45 v45x45) 46 v46x46) 47 v47x48) 48 (σ21 8)) 49 v41x39) 50 v42x40) 51 v51x50) 52 v52x52) 7 v47x48) 8 v52x52) 53 v53x54) 28 v53x54) H53)
      (Q21 (.exit 0) (up σ21 29 v29x22) H21)) (blkQ 0 (thenQ J20 (retQ prg [(.tmp 2), (.tmp 3), (.tmp 4)] K))) (up (up (up (up (up (up (up (up (up (up (up (up (up (up (up (up (up (up (up (up (up (up (S0 [a0]) 1 v1x1) 2 (.slice none 0 0)) 3 (.slice none 0 0)) 4 (.bool false)) 15 v15x3) 16 v16x4) 17 v17x6) 19 v19x7) 20 v20x8) 21 (.func (.func I.impl_Field_corners) #[v20x8] #[])) 22 v22x9) 18 v22x9) 23 v23x11) 24 v24x12) 5 v5x13) 6 v24x12) 25 v25x16) 26 v26x18) 7 v25x16) 8 v26x18) 27 v24x12) 28 (.int .i64 0)) H19)
def O.impl_PartsOf : Nat → Nat × List Nat := fun i => (0, [])
theorem R.impl_PartsOf {a0 : Value} {H : Hp} {K : Value → Hp → Prop} (h : F.impl_PartsOf a0 H K) : HT prg I.impl_PartsOf [a0].toArray H K :=
  HT_of_fev O.impl_PartsOf mixed Tryz.func67 (by kernel_rfl) (Eq.mpr (by kernel_rfl : fev prg O.impl_PartsOf Tryz.f67 [a0] H K = F.impl_PartsOf a0 H K) h)

/-! (loop.example/g01381/impl.Field).mirrored$1: function 145 -/
def F.impl_Field_mirrored_1 (a0 a1 a2 : Value) (H : Hp) (K : Value → Hp → Prop) : Prop :=
  ob (vLoadN 3 a2 H) fun v6x1 =>
  ob (vFa 1 a2) fun v8x2 =>
  ob (vLoad v8x2 H) fun v9x3 =>
  ob (vInt .sub v9x3 (.int .i64 1)) fun v10x4 =>
  ob (vInt .sub v10x4 a1) fun v12x5 =>
  HT prg I.impl_Field_at [v6x1, a0, v12x5].toArray H fun v13x6 H7 =>
  K v13x6 H7
def O.impl_Field_mirrored_1 : Nat → Nat × List Nat := fun i => (0, [])
theorem R.impl_Field_mirrored_1 {a0 a1 a2 : Value} {H : Hp} {K : Value → Hp → Prop} (h : F.impl_Field_mirrored_1 a0 a1 a2 H K) : HT prg I.impl_Field_mirrored_1 [a0, a1, a2].toArray H K :=
  HT_of_fev O.impl_Field_mirrored_1 mixed Tryz.func145 (by kernel_rfl) (Eq.mpr (by kernel_rfl : fev prg O.impl_Field_mirrored_1 Tryz.f145 [a0, a1, a2] H K = F.impl_Field_mirrored_1 a0 a1 a2 H K) h)

/-! (loop.example/g01381/impl.Field).mirrored: function 121 -/
def F.impl_Field_mirrored (a0 : Value) (H : Hp) (K : Value → Hp → Prop) : Prop :=
  nw (a0 : Value).cells 36 H fun v1x1 H2 =>
  nw #[(.int .i64 0), (.int .i64 0), (.slice none 0 0)] 36 H2 fun v2x3 H4 =>
  ob (vFa 0 v1x1) fun v3x5 =>
  ob (vLoad v3x5 H4) fun v4x6 =>
  ob (vFa 1 v1x1) fun v5x7 =>
  ob (vLoad v5x7 H4) fun v6x8 =>
  HT prg I.impl_madeField [v4x6, v6x8, (.func (.func I.impl_Field_mirrored_1) #[] #[v1x1])].toArray H4 fun v8x9 H10 =>
  st 3 v2x3 v8x9 H10 fun H11 =>
  ob (vLoadN 3 v2x3 H11) fun u12 => K u12 H11
def O.impl_Field_mirrored : Nat → Nat × List Nat := fun i => (0, [])
theorem R.impl_Field_mirrored {a0 : Value} {H : Hp} {K : Value → Hp → Prop} (h : F.impl_Field_mirrored a0 H K) : HT prg I.impl_Field_mirrored [a0].toArray H K :=
  HT_of_fev O.impl_Field_mirrored mixed Tryz.func121 (by kernel_rfl) (Eq.mpr (by kernel_rfl : fev prg O.impl_Field_mirrored Tryz.f121 [a0] H K = F.impl_Field_mirrored a0 H K) h)

/-! (loop.example/g01381/impl.Field).right$1: function 146 -/
def F.impl_Field_right_1 (a0 a1 a2 : Value) (H : Hp) (K : Value → Hp → Prop) : Prop :=
  ob (vLoadN 3 a2 H) fun v6x1 =>
  ob (vFa 0 a2) fun v7x2 =>
  ob (vLoad v7x2 H) fun v8x3 =>
  ob (vInt .sub v8x3 (.int .i64 1)) fun v9x4 =>
  ob (vInt .sub v9x4 a1) fun v11x5 =>
  HT prg I.impl_Field_at [v6x1, v11x5, a0].toArray H fun v13x6 H7 =>
  K v13x6 H7
def O.impl_Field_right_1 : Nat → Nat × List Nat := fun i => (0, [])
theorem R.impl_Field_right_1 {a0 a1 a2 : Value} {H : Hp} {K : Value → Hp → Prop} (h : F.impl_Field_right_1 a0 a1 a2 H K) : HT prg I.impl_Field_right_1 [a0, a1, a2].toArray H K :=
  HT_of_fev O.impl_Field_right_1 mixed Tryz.func146 (by kernel_rfl) (Eq.mpr (by kernel_rfl : fev prg O.impl_Field_right_1 Tryz.f146 [a0, a1, a2] H K = F.impl_Field_right_1 a0 a1 a2 H K) h)

/-! (loop.example/g01381/impl.Field).right: function 122 -/
def F.impl_Field_right (a0 : Value) (H : Hp) (K : Value → Hp → Prop) : Prop :=
  nw (a0 : Value).cells 36 H fun v1x1 H2 =>
  nw #[(.int .i64 0), (.int .i64 0), (.slice none 0 0)] 36 H2 fun v2x3 H4 =>
  ob (vFa 1 v1x1) fun v3x5 =>
  ob (vLoad v3x5 H4) fun v4x6 =>
  ob (vFa 0 v1x1) fun v5x7 =>
  ob (vLoad v5x7 H4) fun v6x8 =>
  HT prg I.impl_madeField [v4x6, v6x8, (.func (.func I.impl_Field_right_1) #[] #[v1x1])].toArray H4 fun v8x9 H10 =>
  st 3 v2x3 v8x9 H10 fun H11 =>
  ob (vLoadN 3 v2x3 H11) fun u12 => K u12 H11
def O.impl_Field_right : Nat → Nat × List Nat := fun i => (0, [])
theorem R.impl_Field_right {a0 : Value} {H : Hp} {K : Value → Hp → Prop} (h : F.impl_Field_right a0 H K) : HT prg I.impl_Field_right [a0].toArray H K :=
  HT_of_fev O.impl_Field_right mixed Tryz.func122 (by kernel_rfl) (Eq.mpr (by kernel_rfl : fev prg O.impl_Field_right Tryz.f122 [a0] H K = F.impl_Field_right a0 H K) h)

/-! (loop.example/g01381/impl.Field).images: function 104 -/
def F.impl_Field_images (a0 : Value) (H : Hp) (K : Value → Hp → Prop) : Prop :=
  nw (a0 : Value).cells 36 H fun v1x1 H2 =>
  bS 3 0 #[(.int .i64 0), (.int .i64 0), (.slice none 0 0)] 36 [] H2 fun v6x3 H4 =>
  jn (fun σ5 H5 =>
    K (σ5 3) H5) fun J5 =>
  ob (vLoadN 3 v1x1 H4) fun v7x6 =>
  ob (vLoadN 3 v1x1 H4) fun v9x7 =>
  HT prg I.impl_copyField [v7x6].toArray H4 fun v8x8 H9 =>
  Le H4 H9 ∧ (HT prg I.impl_Field_mirrored [v9x7].toArray H9 fun v10x10 H11 =>
  Le H9 H11 ∧ (bS 3 2 #[(.int .i64 0), (.int .i64 0), (.slice none 0 0)] 36 [(0, v8x8), (1, v10x10)] H11 fun v11x12 H13 =>
  ob (vLenSl v11x12) fun v12x14 =>
  lpE (fun Q15 σ15 H15 =>
    ob (vInt .lss (σ15 13) (σ15 12)) fun v14x16 =>
    cnd v14x16
      (jn (fun σ17 H17 =>
      ob (vInt .add (σ17 13) (.int .i64 1)) fun v26x18 =>
      Q15 .normal (up (up σ17 26 v26x18) 13 v26x18) H17) fun J17 =>
    ob (vIx 3 (σ15 11) (σ15 13)) fun v15x19 =>
    ob (vLoadN 3 v15x19 H15) fun v16x20 =>
    nw #[(.int .i64 0), (.int .i64 0), (.slice none 0 0)] 36 H15 fun v5x21 H22 =>
    st 3 v5x21 v16x20 H22 fun H23 =>
    lpE (fun Q24 σ24 H24 =>
      ob (vInt .lss (σ24 17) (.int .i64 4)) fun v18x25 =>
      cnd v18x25
        (ob (vLoadN 3 (σ24 5) H24) fun v20x26 =>
      bS 3 1 #[(.int .i64 0), (.int .i64 0), (.slice none 0 0)] 36 [(0, v20x26)] H24 fun v21x27 H28 =>
      apd 3 40 #[(.int .i64 0), (.int .i64 0), (.slice none 0 0)] 36 (σ24 3) v21x27 H28 fun v22x29 H30 =>
      ob (vLoadN 3 (σ24 5) H30) fun v23x31 =>
      HT prg I.impl_Field_right [v23x31].toArray H30 fun v24x32 H33 =>
      st 3 (σ24 5) v24x32 H33 fun H34 =>
      ob (vInt .add (σ24 17) (.int .i64 1)) fun v25x35 =>
      Q24 .normal (up (up (up (up (up (up (up (up (up (up σ24 18 v18x25) 19 (σ24 3)) 20 v20x26) 21 v21x27) 22 v22x29) 3 v22x29) 23 v23x31) 24 v24x32) 25 v25x35) 17 v25x35) H34)
        (Q24 (.exit 2) (up σ24 18 v18x25) H24)) (blkQ 2 (blkQ 1 (thenQ J17 Q15))) (up (up (up (up (up σ15 14 v14x16) 15 v15x19) 16 v16x20) 5 v5x21) 17 (.int .i64 0)) H23)
      (Q15 (.exit 0) (up σ15 14 v14x16) H15)) (blkQ 0 (thenQ J5 (retQ prg [(.tmp 2)] K))) (up (up (up (up (up (up (up (up (up (up (up (S0 [a0]) 1 v1x1) 2 (.slice none 0 0)) 6 v6x3) 3 v6x3) 7 v7x6) 9 v9x7) 13 (.int .i64 0)) 8 v8x8) 10 v10x10) 11 v11x12) 12 v12x14) H13))
def O.impl_Field_images : Nat → Nat × List Nat := fun i => bif Nat.beq i 2 then (0, [0, 2, 6, 1, 3, 4, 5]) else (0, [])
theorem R.impl_Field_images {a0 : Value} {H : Hp} {K : Value → Hp → Prop} (h : F.impl_Field_images a0 H K) : HT prg I.impl_Field_images [a0].toArray H K :=
  HT_of_fev O.impl_Field_images mixed Tryz.func104 (by kernel_rfl) (Eq.mpr (by kernel_rfl : fev prg O.impl_Field_images Tryz.f104 [a0] H K = F.impl_Field_images a0 H K) h)

/-! slices.Chunk[[]int64,int64]$1: function 147 -/
def F.slices_Chunk_int64Zint64Z1 (a0 a1 a2 : Value) (H : Hp) (K : Value → Hp → Prop) : Prop :=
  lpE (fun Q1 σ1 H1 =>
    ob (vLoad (σ1 1) H1) fun v7x2 =>
    ob (vLenSl v7x2) fun v8x3 =>
    ob (vInt .lss (σ1 4) v8x3) fun v9x4 =>
    cnd v9x4
      (ob (vLoad (σ1 2) H1) fun v13x5 =>
    ob (vLoad (σ1 1) H1) fun v14x6 =>
    ob (vSl3 1 v14x6 (some (σ1 4)) none none) fun v16x7 =>
    ob (vLenSl v16x7) fun v17x8 =>
    ob (vMx false v13x5 [v17x8]) fun v18x9 =>
    ob (vLoad (σ1 1) H1) fun v20x10 =>
    ob (vInt .add (σ1 4) v18x9) fun v24x11 =>
    ob (vInt .add (σ1 4) v18x9) fun v27x12 =>
    ob (vSl3 1 v20x10 (some (σ1 4)) (some v24x11) (some v27x12)) fun v28x13 =>
    callV prg (σ1 0) [v28x13] H1 fun v29x14 H15 =>
    ob (vUn .not v29x14) fun v30x16 =>
    cnd v30x16
      (Q1 .ret (up (up (up (up (up (up (up (up (up (up (up (up (up (up (up (up (up (up (up (up (up (up (up σ1 6 (σ1 4)) 7 v7x2) 8 v8x3) 9 v9x4) 13 v13x5) 14 v14x6) 15 (σ1 4)) 16 v16x7) 17 v17x8) 18 v18x9) 5 v18x9) 19 (σ1 0)) 20 v20x10) 21 (σ1 4)) 22 (σ1 4)) 23 v18x9) 24 v24x11) 25 (σ1 4)) 26 v18x9) 27 v27x12) 28 v28x13) 29 v29x14) 30 v30x16) H15)
      (ob (vLoad (σ1 2) H15) fun v11x17 =>
    ob (vInt .add (σ1 4) v11x17) fun v12x18 =>
    Q1 .normal (up (up (up (up (up (up (up (up (up (up (up (up (up (up (up (up (up (up (up (up (up (up (up (up (up (up (up σ1 6 (σ1 4)) 7 v7x2) 8 v8x3) 9 v9x4) 13 v13x5) 14 v14x6) 15 (σ1 4)) 16 v16x7) 17 v17x8) 18 v18x9) 5 v18x9) 19 (σ1 0)) 20 v20x10) 21 (σ1 4)) 22 (σ1 4)) 23 v18x9) 24 v24x11) 25 (σ1 4)) 26 v18x9) 27 v27x12) 28 v28x13) 29 v29x14) 30 v30x16) 10 (σ1 4)) 11 v11x17) 12 v12x18) 4 v12x18) H15))
      (Q1 (.exit 0) (up (up (up (up σ1 6 (σ1 4)) 7 v7x2) 8 v8x3) 9 v9x4) H1)) (blkQ 0 (retQ prg [] K)) (up (S0 [a0, a1, a2]) 4 (.int .i64 0)) H
def O.slices_Chunk_int64Zint64Z1 : Nat → Nat × List Nat := fun i => bif Nat.beq i 3 then (0, [0, 1, 2, 3, 4, 5, 6]) else (0, [])
theorem R.slices_Chunk_int64Zint64Z1 {a0 a1 a2 : Value} {H : Hp} {K : Value → Hp → Prop} (h : F.slices_Chunk_int64Zint64Z1 a0 a1 a2 H K) : HT prg I.slices_Chunk_int64Zint64Z1 [a0, a1, a2].toArray H K :=
  HT_of_fev O.slices_Chunk_int64Zint64Z1 mixed Tryz.func147 (by kernel_rfl) (Eq.mpr (by kernel_rfl : fev prg O.slices_Chunk_int64Zint64Z1 Tryz.f147 [a0, a1, a2] H K = F.slices_Chunk_int64Zint64Z1 a0 a1 a2 H K) h)

/-! slices.Chunk[[]int64,int64]: function 123 -/
def F.slices_Chunk_int64Zint64 (a0 a1 : Value) (H : Hp) (K : Value → Hp → Prop) : Prop :=
  nw (a0 : Value).cells 24 H fun v2x1 H2 =>
  nw (a1 : Value).cells 3 H2 fun v3x3 H4 =>
  ob (vLoad v3x3 H4) fun v5x5 =>
  ob (vInt .lss v5x5 (.int .i64 1)) fun v6x6 =>
  cnd v6x6
    (ob (val prg (Instr.makeInterface 9 (.string ⟨#[99, 97, 110, 110, 111, 116, 32, 98, 101, 32, 108, 101, 115, 115, 32, 116, 104, 97, 110, 32, 49]⟩)) H4) fun v7x7 =>
    hp prg (do pure (Next.value (← Instr.panic v7x7))) H4 (nextH prg (fun _ H8 =>
    K (.func (.func I.slices_Chunk_int64Zint64Z1) #[] #[v2x1, v3x3]) H8)))
    (K (.func (.func I.slices_Chunk_int64Zint64Z1) #[] #[v2x1, v3x3]) H4)
def O.slices_Chunk_int64Zint64 : Nat → Nat × List Nat := fun i => (0, [])
theorem R.slices_Chunk_int64Zint64 {a0 a1 : Value} {H : Hp} {K : Value → Hp → Prop} (h : F.slices_Chunk_int64Zint64 a0 a1 H K) : HT prg I.slices_Chunk_int64Zint64 [a0, a1].toArray H K :=
  HT_of_fev O.slices_Chunk_int64Zint64 mixed Tryz.func123 (by kernel_rfl) (Eq.mpr (by kernel_rfl : fev prg O.slices_Chunk_int64Zint64 Tryz.f123 [a0, a1] H K = F.slices_Chunk_int64Zint64 a0 a1 H K) h)

/-! internal/strconv.small: function 162 -/
def F.internal_strconv_small (a0 : Value) (H : Hp) (K : Value → Hp → Prop) : Prop :=
  ob (vInt .lss a0 (.int .i64 10)) fun v4x1 =>
  cnd v4x1
    (ob (vInt .add a0 (.int .i64 1)) fun v7x2 =>
    ob (vSlS (.string ⟨#[48, 49, 50, 51, 52, 53, 54, 55, 56, 57, 97, 98, 99, 100, 101, 102, 103, 104, 105, 106, 107, 108, 109, 110, 111, 112, 113, 114, 115, 116, 117, 118, 119, 120, 121, 122]⟩) (some a0) (some v7x2)) fun v8x3 =>
    K v8x3 H)
    (ob (vInt .mul a0 (.int .i64 2)) fun v10x4 =>
  ob (vInt .mul a0 (.int .i64 2)) fun v12x5 =>
  ob (vInt .add v12x5 (.int .i64 2)) fun v13x6 =>
  ob (vSlS (.string ⟨#[48, 48, 48, 49, 48, 50, 48, 51, 48, 52, 48, 53, 48, 54, 48, 55, 48, 56, 48, 57, 49, 48, 49, 49, 49, 50, 49, 51, 49, 52, 49, 53, 49, 54, 49, 55, 49, 56, 49, 57, 50, 48, 50, 49, 50, 50, 50, 51, 50, 52, 50, 53, 50, 54, 50, 55, 50, 56, 50, 57, 51, 48, 51, 49, 51, 50, 51, 51, 51, 52, 51, 53, 51, 54, 51, 55, 51, 56, 51, 57, 52, 48, 52, 49, 52, 50, 52, 51, 52, 52, 52, 53, 52, 54, 52, 55, 52, 56, 52, 57, 53, 48, 53, 49, 53, 50, 53, 51, 53, 52, 53, 53, 53, 54, 53, 55, 53, 56, 53, 57, 54, 48, 54, 49, 54, 50, 54, 51, 54, 52, 54, 53, 54, 54, 54, 55, 54, 56, 54, 57, 55, 48, 55, 49, 55, 50, 55, 51, 55, 52, 55, 53, 55, 54, 55, 55, 55, 56, 55, 57, 56, 48, 56, 49, 56, 50, 56, 51, 56, 52, 56, 53, 56, 54, 56, 55, 56, 56, 56, 57, 57, 48, 57, 49, 57, 50, 57, 51, 57, 52, 57, 53, 57, 54, 57, 55, 57, 56, 57, 57]⟩) (some v10x4) (some v13x6)) fun v14x7 =>
  K v14x7 H)
def O.internal_strconv_small : Nat → Nat × List Nat := fun i => (0, [])
theorem R.internal_strconv_small {a0 : Value} {H : Hp} {K : Value → Hp → Prop} (h : F.internal_strconv_small a0 H K) : HT prg I.internal_strconv_small [a0].toArray H K :=
  HT_of_fev O.internal_strconv_small mixed Tryz.func162 (by kernel_rfl) (Eq.mpr (by kernel_rfl : fev prg O.internal_strconv_small Tryz.f162 [a0] H K = F.internal_strconv_small a0 H K) h)

/-! math/bits.Len64: function 137 -/
def F.math_bits_Len64 (a0 : Value) (H : Hp) (K : Value → Hp → Prop) : Prop :=
  jn (fun σ1 H1 =>
    jn (fun σ2 H2 =>
      ob (vInt .geq (σ2 0) (.int .u64 256)) fun v14x3 =>
      cnd v14x3
        (ob (vInt .shr (σ2 0) (.int .u64 8)) fun v16x4 =>
        ob (vInt .add (σ2 2) (.int .i64 8)) fun v18x5 =>
        ob (vCI .u8 v16x4) fun v21x6 =>
      ob (vIndexS (.string ⟨#[0, 1, 2, 2, 3, 3, 3, 3, 4, 4, 4, 4, 4, 4, 4, 4, 5, 5, 5, 5, 5, 5, 5, 5, 5, 5, 5, 5, 5, 5, 5, 5, 6, 6, 6, 6, 6, 6, 6, 6, 6, 6, 6, 6, 6, 6, 6, 6, 6, 6, 6, 6, 6, 6, 6, 6, 6, 6, 6, 6, 6, 6, 6, 6, 7, 7, 7, 7, 7, 7, 7, 7, 7, 7, 7, 7, 7, 7, 7, 7, 7, 7, 7, 7, 7, 7, 7, 7, 7, 7, 7, 7, 7, 7, 7, 7, 7, 7, 7, 7, 7, 7, 7, 7, 7, 7, 7, 7, 7, 7, 7, 7, 7, 7, 7, 7, 7, 7, 7, 7, 7, 7, 7, 7, 7, 7, 7, 7, 8, 8, 8, 8, 8, 8, 8, 8, 8, 8, 8, 8, 8, 8, 8, 8, 8, 8, 8, 8, 8, 8, 8, 8, 8, 8, 8, 8, 8, 8, 8, 8, 8, 8, 8, 8, 8, 8, 8, 8, 8, 8, 8, 8, 8, 8, 8, 8, 8, 8, 8, 8, 8, 8, 8, 8, 8, 8, 8, 8, 8, 8, 8, 8, 8, 8, 8, 8, 8, 8, 8, 8, 8, 8, 8, 8, 8, 8, 8, 8, 8, 8, 8, 8, 8, 8, 8, 8, 8, 8, 8, 8, 8, 8, 8, 8, 8, 8, 8, 8, 8, 8, 8, 8, 8, 8, 8, 8, 8, 8, 8, 8, 8, 8, 8, 8, 8, 8, 8, 8, 8, 8, 8, 8, 8, 8, 8, 8]⟩) v21x6) fun v22x7 =>
      ob (vCI .i64 v22x7) fun v23x8 =>
      ob (vInt .add v18x5 v23x8) fun v24x9 =>
      K v24x9 H2)
        (ob (vCI .u8 (σ2 0)) fun v21x10 =>
      ob (vIndexS (.string ⟨#[0, 1, 2, 2, 3, 3, 3, 3, 4, 4, 4, 4, 4, 4, 4, 4, 5, 5, 5, 5, 5, 5, 5, 5, 5, 5, 5, 5, 5, 5, 5, 5, 6, 6, 6, 6, 6, 6, 6, 6, 6, 6, 6, 6, 6, 6, 6, 6, 6, 6, 6, 6, 6, 6, 6, 6, 6, 6, 6, 6, 6, 6, 6, 6, 7, 7, 7, 7, 7, 7, 7, 7, 7, 7, 7, 7, 7, 7, 7, 7, 7, 7, 7, 7, 7, 7, 7, 7, 7, 7, 7, 7, 7, 7, 7, 7, 7, 7, 7, 7, 7, 7, 7, 7, 7, 7, 7, 7, 7, 7, 7, 7, 7, 7, 7, 7, 7, 7, 7, 7, 7, 7, 7, 7, 7, 7, 7, 7, 8, 8, 8, 8, 8, 8, 8, 8, 8, 8, 8, 8, 8, 8, 8, 8, 8, 8, 8, 8, 8, 8, 8, 8, 8, 8, 8, 8, 8, 8, 8, 8, 8, 8, 8, 8, 8, 8, 8, 8, 8, 8, 8, 8, 8, 8, 8, 8, 8, 8, 8, 8, 8, 8, 8, 8, 8, 8, 8, 8, 8, 8, 8, 8, 8, 8, 8, 8, 8, 8, 8, 8, 8, 8, 8, 8, 8, 8, 8, 8, 8, 8, 8, 8, 8, 8, 8, 8, 8, 8, 8, 8, 8, 8, 8, 8, 8, 8, 8, 8, 8, 8, 8, 8, 8, 8, 8, 8, 8, 8, 8, 8, 8, 8, 8, 8, 8, 8, 8, 8, 8, 8, 8, 8, 8, 8, 8, 8]⟩) v21x10) fun v22x11 =>
      ob (vCI .i64 v22x11) fun v23x12 =>
      ob (vInt .add (σ2 2) v23x12) fun v24x13 =>
      K v24x13 H2)) fun J2 =>
    ob (vInt .geq (σ1 0) (.int .u64 65536)) fun v8x14 =>
    cnd v8x14
      (ob (vInt .shr (σ1 0) (.int .u64 16)) fun v10x15 =>
      ob (vInt .add (σ1 2) (.int .i64 16)) fun v12x16 =>
      J2 (up (up (up (up (up (up (up (up σ1 7 (σ1 0)) 8 v8x14) 9 (σ1 0)) 10 v10x15) 0 v10x15) 11 (σ1 2)) 12 v12x16) 2 v12x16) H1)
      (J2 (up (up σ1 7 (σ1 0)) 8 v8x14) H1)) fun J1 =>
  ob (vInt .geq a0 (.int .u64 4294967296)) fun v4x17 =>
  cnd v4x17
    (ob (vInt .shr a0 (.int .u64 32)) fun v6x18 =>
    J1 (up (up (up (up (up (up (up (S0 [a0]) 2 (.int .i64 0)) 3 a0) 4 v4x17) 5 a0) 6 v6x18) 0 v6x18) 2 (.int .i64 32)) H)
    (J1 (up (up (up (S0 [a0]) 2 (.int .i64 0)) 3 a0) 4 v4x17) H)
def O.math_bits_Len64 : Nat → Nat × List Nat := fun i => (0, [])
theorem R.math_bits_Len64 {a0 : Value} {H : Hp} {K : Value → Hp → Prop} (h : F.math_bits_Len64 a0 H K) : HT prg I.math_bits_Len64 [a0].toArray H K :=
  HT_of_fev O.math_bits_Len64 mixed Tryz.func137 (by kernel_rfl) (Eq.mpr (by kernel_rfl : fev prg O.math_bits_Len64 Tryz.f137 [a0] H K = F.math_bits_Len64 a0 H K) h)

end Go.Proofs.YtnijdhlmimemcaaGreatDoor
/- Functions' texts over a partial heap. -/
namespace Go.Proofs.YtnijdhlmimemcaaGreatDoor
open HL
set_option linter.unusedVariables false
set_option maxRecDepth 100000
set_option maxHeartbeats 4000000
/-! internal/strconv.FormatInt: function 158 -/
def F.internal_strconv_FormatInt (a0 a1 : Value) (H : Hp) (K : Value → Hp → Prop) : Prop :=
  ob (vInt .eql a1 (.int .i64 10)) fun v11x1 =>
  cnd v11x1
    (ob (vInt .leq (.int .i64 0) a0) fun v13x2 =>
    gop v13x2 true (fun K3 => K3 a0 H) H fun v15x4 H5 =>
    gop v13x2 true (fun K6 => ob (vInt .lss v15x4 (.int .i64 100)) fun u => K6 u H5) H5 fun v16x7 H8 =>
    ob (vPick v13x2 v16x7 (.bool false)) fun v17x9 =>
    cnd v17x9
      (HT prg I.internal_strconv_small [a0].toArray H8 fun v19x10 H11 =>
      K v19x10 H11)
      (nw #[(.int .u8 0), (.int .u8 0), (.int .u8 0), (.int .u8 0), (.int .u8 0), (.int .u8 0), (.int .u8 0), (.int .u8 0), (.int .u8 0), (.int .u8 0), (.int .u8 0), (.int .u8 0), (.int .u8 0), (.int .u8 0), (.int .u8 0), (.int .u8 0), (.int .u8 0), (.int .u8 0), (.int .u8 0), (.int .u8 0), (.int .u8 0), (.int .u8 0), (.int .u8 0), (.int .u8 0)] 174 H8 fun v5x12 H13 =>
    ob (vCI .u64 a0) fun v21x14 =>
    jn (fun σ15 H15 =>
      HT prg I.internal_strconv_numDigits [(σ15 6)].toArray H15 fun v27x16 H17 =>
      ob (vInt .add (.int .i64 1) v27x16) fun v29x18 =>
      ob (vSlA 24 1 (σ15 5) (some (.int .i64 1)) (some v29x18)) fun v30x19 =>
      HT prg I.internal_strconv_formatBase10 [v30x19, (σ15 6)].toArray H17 fun v32x20 H21 =>
      ob (vInt .lss (σ15 0) (.int .i64 0)) fun v34x22 =>
      cnd v34x22
        (ob (vIxArr 24 1 (σ15 5) (.int .i64 0)) fun v35x23 =>
        st 1 v35x23 (.int .u8 45) H21 fun H24 =>
        ob (vInt .add (.int .i64 1) v27x16) fun v37x25 =>
        ob (vSlA 24 1 (σ15 5) none (some v37x25)) fun v38x26 =>
        ob (val prg (convert 22 9 v38x26) H24) fun v39x27 =>
        K v39x27 H24)
        (ob (vInt .add (.int .i64 1) v27x16) fun v41x28 =>
      ob (vSlA 24 1 (σ15 5) (some (.int .i64 1)) (some v41x28)) fun v42x29 =>
      ob (val prg (convert 22 9 v42x29) H21) fun v43x30 =>
      K v43x30 H21)) fun J15 =>
    ob (vInt .lss a0 (.int .i64 0)) fun v23x31 =>
    cnd v23x31
      (ob (vUn .neg v21x14) fun v25x32 =>
      J15 (up (up (up (up (up (up (up (up (up (up (up (up (up (up (up (up (up (up (S0 [a0, a1]) 4 (.string ⟨#[]⟩)) 10 a1) 11 v11x1) 12 a0) 13 v13x2) 14 v13x2) 15 v15x4) 16 v16x7) 17 v17x9) 5 v5x12) 20 a0) 21 v21x14) 6 v21x14) 22 a0) 23 v23x31) 24 v21x14) 25 v25x32) 6 v25x32) H13)
      (J15 (up (up (up (up (up (up (up (up (up (up (up (up (up (up (up (S0 [a0, a1]) 4 (.string ⟨#[]⟩)) 10 a1) 11 v11x1) 12 a0) 13 v13x2) 14 v13x2) 15 v15x4) 16 v16x7) 17 v17x9) 5 v5x12) 20 a0) 21 v21x14) 6 v21x14) 22 a0) 23 v23x31) H13)))
    (ob (vCI .u64 a0) fun v46x33 =>
  ob (vInt .lss a0 (.int .i64 0)) fun v49x34 =>
  HT prg I.internal_strconv_formatBits [(.slice none 0 0), v46x33, a1, v49x34, (.bool false)].toArray H fun v50x35 H36 =>
  ob (vExt v50x35 0) fun v51x37 =>
  ob (vExt v50x35 1) fun v52x38 =>
  K v52x38 H36)
def O.internal_strconv_FormatInt : Nat → Nat × List Nat := fun i => (0, [])
theorem R.internal_strconv_FormatInt {a0 a1 : Value} {H : Hp} {K : Value → Hp → Prop} (h : F.internal_strconv_FormatInt a0 a1 H K) : HT prg I.internal_strconv_FormatInt [a0, a1].toArray H K :=
  HT_of_fev O.internal_strconv_FormatInt mixed Tryz.func158 (by kernel_rfl) (Eq.mpr (by kernel_rfl : fev prg O.internal_strconv_FormatInt Tryz.f158 [a0, a1] H K = F.internal_strconv_FormatInt a0 a1 H K) h)

/-! strconv.FormatInt: function 148 -/
def F.strconv_FormatInt (a0 a1 : Value) (H : Hp) (K : Value → Hp → Prop) : Prop :=
  HT prg I.internal_strconv_FormatInt [a0, a1].toArray H fun v7x1 H2 =>
  K v7x1 H2
def O.strconv_FormatInt : Nat → Nat × List Nat := fun i => (0, [])
theorem R.strconv_FormatInt {a0 a1 : Value} {H : Hp} {K : Value → Hp → Prop} (h : F.strconv_FormatInt a0 a1 H K) : HT prg I.strconv_FormatInt [a0, a1].toArray H K :=
  HT_of_fev O.strconv_FormatInt mixed Tryz.func148 (by kernel_rfl) (Eq.mpr (by kernel_rfl : fev prg O.strconv_FormatInt Tryz.f148 [a0, a1] H K = F.strconv_FormatInt a0 a1 H K) h)

/-! loop.example/g01381/impl.Decimal: function 125 -/
def F.impl_Decimal (a0 : Value) (H : Hp) (K : Value → Hp → Prop) : Prop :=
  HT prg I.strconv_FormatInt [a0, (.int .i64 10)].toArray H fun v4x1 H2 =>
  K v4x1 H2
def O.impl_Decimal : Nat → Nat × List Nat := fun i => (0, [])
theorem R.impl_Decimal {a0 : Value} {H : Hp} {K : Value → Hp → Prop} (h : F.impl_Decimal a0 H K) : HT prg I.impl_Decimal [a0].toArray H K :=
  HT_of_fev O.impl_Decimal mixed Tryz.func125 (by kernel_rfl) (Eq.mpr (by kernel_rfl : fev prg O.impl_Decimal Tryz.f125 [a0] H K = F.impl_Decimal a0 H K) h)

/-! loop.example/g01381/impl.runsText: function 124 -/
def F.impl_runsText (a0 : Value) (H : Hp) (K : Value → Hp → Prop) : Prop :=
  jn (fun σ1 H1 =>
    K (σ1 3) H1) fun J1 =>
  lpE (fun Q2 σ2 H2 =>
    ob (vLenSl (σ2 0)) fun v8x3 =>
    ob (vInt .lss (σ2 4) v8x3) fun v9x4 =>
    cnd v9x4
      (jn (fun σ5 H5 =>
      ob (vIx 1 (σ5 0) (σ5 4)) fun v30x6 =>
      ob (vLoad v30x6 H5) fun v31x7 =>
      ob (vInt .eql v31x7 (.int .i64 0)) fun v32x8 =>
      gop v32x8 true (fun K9 => K9 (σ5 5) H5) H5 fun v34x10 H11 =>
      gop v32x8 true (fun K12 => K12 (σ5 0) H11) H11 fun v35x13 H14 =>
      gop v32x8 true (fun K15 => ob (vLenSl v35x13) fun u => K15 u H14) H14 fun v36x16 H17 =>
      gop v32x8 true (fun K18 => ob (vInt .eql v34x10 v36x16) fun u => K18 u H17) H17 fun v37x19 H20 =>
      ob (vPick v32x8 v37x19 (.bool false)) fun v38x21 =>
      cnd v38x21
        (Q2 (.exit 0) (up (up (up (up (up (up (up (up (up (up (up σ5 28 (σ5 0)) 29 (σ5 4)) 30 v30x6) 31 v31x7) 32 v32x8) 33 v32x8) 34 v34x10) 35 v35x13) 36 v36x16) 37 v37x19) 38 v38x21) H20)
        (ob (vInt .sub (σ5 5) (σ5 4)) fun v41x22 =>
      ob (vInt .gtr v41x22 (.int .i64 1)) fun v42x23 =>
      cnd v42x23
        (ob (vInt .sub (σ5 5) (σ5 4)) fun v46x24 =>
        HT prg I.impl_Decimal [v46x24].toArray H20 fun v47x25 H26 =>
        ob (vStr .add (σ5 3) v47x25) fun v48x27 =>
        ob (vIx 1 (σ5 0) (σ5 4)) fun v52x28 =>
      ob (vLoad v52x28 H26) fun v53x29 =>
      ob (vIx 1 (σ5 0) (σ5 4)) fun v56x30 =>
      ob (vLoad v56x30 H26) fun v57x31 =>
      ob (vInt .add v57x31 (.int .i64 1)) fun v58x32 =>
      ob (vSlS (.string ⟨#[98, 111]⟩) (some v53x29) (some v58x32)) fun v59x33 =>
      ob (vStr .add v48x27 v59x33) fun v60x34 =>
      Q2 .normal (up (up (up (up (up (up (up (up (up (up (up (up (up (up (up (up (up (up (up (up (up (up (up (up (up (up (up (up (up (up (up (up (up (up (up (up (up σ5 28 (σ5 0)) 29 (σ5 4)) 30 v30x6) 31 v31x7) 32 v32x8) 33 v32x8) 34 v34x10) 35 v35x13) 36 v36x16) 37 v37x19) 38 v38x21) 39 (σ5 5)) 40 (σ5 4)) 41 v41x22) 42 v42x23) 43 (σ5 3)) 44 (σ5 5)) 45 (σ5 4)) 46 v46x24) 47 v47x25) 48 v48x27) 3 v48x27) 49 v48x27) 50 (σ5 0)) 51 (σ5 4)) 52 v52x28) 53 v53x29) 54 (σ5 0)) 55 (σ5 4)) 56 v56x30) 57 v57x31) 58 v58x32) 59 v59x33) 60 v60x34) 3 v60x34) 61 (σ5 5)) 4 (σ5 5)) H26)
        (ob (vIx 1 (σ5 0) (σ5 4)) fun v52x35 =>
      ob (vLoad v52x35 H20) fun v53x36 =>
      ob (vIx 1 (σ5 0) (σ5 4)) fun v56x37 =>
      ob (vLoad v56x37 H20) fun v57x38 =>
      ob (vInt .add v57x38 (.int .i64 1)) fun v58x39 =>
      ob (vSlS (.string ⟨#[98, 111]⟩) (some v53x36) (some v58x39)) fun v59x40 =>
      ob (vStr .add (σ5 3) v59x40) fun v60x41 =>
      Q2 .normal (up (up (up (up (up (up (up (up (up (up (up (up (up (up (up (up (up (up (up (up (up (up (up (up (up (up (up (up (up (up σ5 28 (σ5 0)) 29 (σ5 4)) 30 v30x6) 31 v31x7) 32 v32x8) 33 v32x8) 34 v34x10) 35 v35x13) 36 v36x16) 37 v37x19) 38 v38x21) 39 (σ5 5)) 40 (σ5 4)) 41 v41x22) 42 v42x23) 49 (σ5 3)) 50 (σ5 0)) 51 (σ5 4)) 52 v52x35) 53 v53x36) 54 (σ5 0)) 55 (σ5 4)) 56 v56x37) 57 v57x38) 58 v58x39) 59 v59x40) 60 v60x41) 3 v60x41) 61 (σ5 5)) 4 (σ5 5)) H20))) fun J5 =>
    lpE (fun Q42 σ42 H42 =>
      ob (vLenSl (σ42 0)) fun v13x43 =>
      ob (vInt .lss (σ42 5) v13x43) fun v14x44 =>
      gop v14x44 true (fun K45 => K45 (σ42 0) H42) H42 fun v16x46 H47 =>
      gop v14x44 true (fun K48 => K48 (σ42 5) H47) H47 fun v17x49 H50 =>
      gop v14x44 true (fun K51 => ob (vIx 1 v16x46 v17x49) fun u => K51 u H50) H50 fun v18x52 H53 =>
      gop v14x44 true (fun K54 => ob (vLoad v18x52 H53) fun u => K54 u H53) H53 fun v19x55 H56 =>
      gop v14x44 true (fun K57 => K57 (σ42 0) H56) H56 fun v20x58 H59 =>
      gop v14x44 true (fun K60 => K60 (σ42 4) H59) H59 fun v21x61 H62 =>
      gop v14x44 true (fun K63 => ob (vIx 1 v20x58 v21x61) fun u => K63 u H62) H62 fun v22x64 H65 =>
      gop v14x44 true (fun K66 => ob (vLoad v22x64 H65) fun u => K66 u H65) H65 fun v23x67 H68 =>
      gop v14x44 true (fun K69 => ob (vInt .eql v19x55 v23x67) fun u => K69 u H68) H68 fun v24x70 H71 =>
      ob (vPick v14x44 v24x70 (.bool false)) fun v25x72 =>
      cnd v25x72
        (ob (vInt .add (σ42 5) (.int .i64 1)) fun v27x73 =>
      Q42 .normal (up (up (up (up (up (up (up (up (up (up (up (up (up (up (up (up (up (up σ42 11 (σ42 5)) 12 (σ42 0)) 13 v13x43) 14 v14x44) 15 v14x44) 16 v16x46) 17 v17x49) 18 v18x52) 19 v19x55) 20 v20x58) 21 v21x61) 22 v22x64) 23 v23x67) 24 v24x70) 25 v25x72) 26 (σ42 5)) 27 v27x73) 5 v27x73) H71)
        (Q42 (.exit 2) (up (up (up (up (up (up (up (up (up (up (up (up (up (up (up σ42 11 (σ42 5)) 12 (σ42 0)) 13 v13x43) 14 v14x44) 15 v14x44) 16 v16x46) 17 v17x49) 18 v18x52) 19 v19x55) 20 v20x58) 21 v21x61) 22 v22x64) 23 v23x67) 24 v24x70) 25 v25x72) H71)) (blkQ 2 (thenQ J5 (blkQ 1 Q2))) (up (up (up (up (up (up σ2 6 (σ2 4)) 7 (σ2 0)) 8 v8x3) 9 v9x4) 10 (σ2 4)) 5 (σ2 4)) H2)
      (Q2 (.exit 0) (up (up (up (up σ2 6 (σ2 4)) 7 (σ2 0)) 8 v8x3) 9 v9x4) H2)) (blkQ 0 (thenQ J1 (retQ prg [(.tmp 2)] K))) (up (up (up (S0 [a0]) 2 (.string ⟨#[]⟩)) 3 (.string ⟨#[]⟩)) 4 (.int .i64 0)) H
def O.impl_runsText : Nat → Nat × List Nat := fun i => bif Nat.beq i 10 then (0, [0, 1, 2, 3, 4, 5, 6, 7, 8, 9, 10, 11, 12]) else bif Nat.beq i 5 then (0, [0, 1, 2, 3, 4, 5, 6, 7, 8, 9, 10, 11, 12, 13, 14]) else (0, [])
theorem R.impl_runsText {a0 : Value} {H : Hp} {K : Value → Hp → Prop} (h : F.impl_runsText a0 H K) : HT prg I.impl_runsText [a0].toArray H K :=
  HT_of_fev O.impl_runsText mixed Tryz.func124 (by kernel_rfl) (Eq.mpr (by kernel_rfl : fev prg O.impl_runsText Tryz.f124 [a0] H K = F.impl_runsText a0 H K) h)

/-! (*strings.Builder).copyCheck: function 159 -/
def F.pstrings_Builder_copyCheck (a0 : Value) (H : Hp) (K : Value → Hp → Prop) : Prop :=
  ob (vNilC a0) fun v3x1 =>
  ob (vFa 0 v3x1) fun v4x2 =>
  ob (vLoad v4x2 H) fun v5x3 =>
  ob (val prg (do eqGuard .eql 154 (.tmp 5) (.const (.pointer none)) v5x3 (.pointer none); binOp .eql 154 v5x3 (.pointer none)) H) fun v6x4 =>
  cnd v6x4
    (hp prg (convert 154 178 a0) H fun v9x5 H6 =>
    hp prg (callFunc I.internal_abi_NoEscape [v9x5].toArray) H6 (nextH prg (fun v10x7 H8 =>
    hp prg (convert 178 154 v10x7) H8 fun v11x9 H10 =>
    ob (vNilC a0) fun v12x11 =>
    ob (vFa 0 v12x11) fun v13x12 =>
    st 1 v13x12 v11x9 H10 fun H13 =>
    K (.tuple #[]) H13)))
    (ob (vNilC a0) fun v15x14 =>
    ob (vFa 0 v15x14) fun v16x15 =>
    ob (vLoad v16x15 H) fun v17x16 =>
    ob (val prg (do eqGuard .neq 154 (.tmp 17) (.tmp 18) v17x16 a0; binOp .neq 154 v17x16 a0) H) fun v19x17 =>
    cnd v19x17
      (False)
      (K (.tuple #[]) H))
def O.pstrings_Builder_copyCheck : Nat → Nat × List Nat := fun i => (0, [])
theorem R.pstrings_Builder_copyCheck {a0 : Value} {H : Hp} {K : Value → Hp → Prop} (h : F.pstrings_Builder_copyCheck a0 H K) : HT prg I.pstrings_Builder_copyCheck [a0].toArray H K :=
  HT_of_fev O.pstrings_Builder_copyCheck mixed Tryz.func159 (by kernel_rfl) (Eq.mpr (by kernel_rfl : fev prg O.pstrings_Builder_copyCheck Tryz.f159 [a0] H K = F.pstrings_Builder_copyCheck a0 H K) h)

/-! (*strings.Builder).grow: function 160 -/
def F.pstrings_Builder_grow (a0 a1 : Value) (H : Hp) (K : Value → Hp → Prop) : Prop :=
  ob (vNilC a0) fun v6x1 =>
  ob (vFa 1 v6x1) fun v7x2 =>
  ob (vLoad v7x2 H) fun v8x3 =>
  ob (vCapSl v8x3) fun v9x4 =>
  ob (vInt .mul (.int .i64 2) v9x4) fun v10x5 =>
  ob (vInt .add v10x5 a1) fun v12x6 =>
  ob (vNilC a0) fun v15x7 =>
  ob (vFa 1 v15x7) fun v16x8 =>
  ob (vLoad v16x8 H) fun v17x9 =>
  ob (vLenSl v17x9) fun v18x10 =>
  hp prg (callFunc I.internal_bytealg_MakeNoZero [v12x6].toArray) H (nextH prg (fun v13x11 H12 =>
  Le H H12 ∧ (ob (vSl3 1 v13x11 none (some v18x10) none) fun v19x13 =>
  ob (vNilC a0) fun v22x14 =>
  ob (vFa 1 v22x14) fun v23x15 =>
  ob (vLoad v23x15 H12) fun v24x16 =>
  hp prg (builtin .copy #[22, 22] 3 #[false, false] [v19x13, v24x16].toArray) H12 (nextH prg (fun v25x17 H18 =>
  ob (vNilC a0) fun v28x19 =>
  ob (vFa 1 v28x19) fun v29x20 =>
  st 1 v29x20 v19x13 H18 fun H21 =>
  K (.tuple #[]) H21)))))
def O.pstrings_Builder_grow : Nat → Nat × List Nat := fun i => bif Nat.beq i 0 then (0, [0, 1, 2, 3, 4, 5, 6, 7, 9, 10, 11, 12, 13, 8, 14, 15]) else (0, [])
theorem R.pstrings_Builder_grow {a0 a1 : Value} {H : Hp} {K : Value → Hp → Prop} (h : F.pstrings_Builder_grow a0 a1 H K) : HT prg I.pstrings_Builder_grow [a0, a1].toArray H K :=
  HT_of_fev O.pstrings_Builder_grow mixed Tryz.func160 (by kernel_rfl) (Eq.mpr (by kernel_rfl : fev prg O.pstrings_Builder_grow Tryz.f160 [a0, a1] H K = F.pstrings_Builder_grow a0 a1 H K) h)

/-! (*strings.Builder).Grow: function 149 -/
def F.pstrings_Builder_Grow (a0 a1 : Value) (H : Hp) (K : Value → Hp → Prop) : Prop :=
  HT prg I.pstrings_Builder_copyCheck [a0].toArray H fun v5x1 H2 =>
  jn (fun σ3 H3 =>
    ob (vNilC (σ3 0)) fun v10x4 =>
    ob (vFa 1 v10x4) fun v11x5 =>
    ob (vLoad v11x5 H3) fun v12x6 =>
    ob (vCapSl v12x6) fun v13x7 =>
    ob (vNilC (σ3 0)) fun v15x8 =>
    ob (vFa 1 v15x8) fun v16x9 =>
    ob (vLoad v16x9 H3) fun v17x10 =>
    ob (vLenSl v17x10) fun v18x11 =>
    ob (vInt .sub v13x7 v18x11) fun v19x12 =>
    ob (vInt .lss v19x12 (σ3 1)) fun v21x13 =>
    cnd v21x13
      (HT prg I.pstrings_Builder_grow [(σ3 0), (σ3 1)].toArray H3 fun v24x14 H15 =>
      K (.tuple #[]) H15)
      (K (.tuple #[]) H3)) fun J3 =>
  ob (vInt .lss a1 (.int .i64 0)) fun v7x16 =>
  cnd v7x16
    (ob (val prg (Instr.makeInterface 9 (.string ⟨#[115, 116, 114, 105, 110, 103, 115, 46, 66, 117, 105, 108, 100, 101, 114, 46, 71, 114, 111, 119, 58, 32, 110, 101, 103, 97, 116, 105, 118, 101, 32, 99, 111, 117, 110, 116]⟩)) H2) fun v8x17 =>
    hp prg (do pure (Next.value (← Instr.panic v8x17))) H2 (nextH prg (fun _ H18 =>
    J3 (up (up (up (up (up (S0 [a0, a1]) 4 a0) 5 v5x1) 6 a1) 7 v7x16) 8 v8x17) H18)))
    (J3 (up (up (up (up (S0 [a0, a1]) 4 a0) 5 v5x1) 6 a1) 7 v7x16) H2)
def O.pstrings_Builder_Grow : Nat → Nat × List Nat := fun i => bif Nat.beq i 3 then (0, [0, 1, 2, 3, 4, 5, 6, 7, 8, 9, 10, 11, 12]) else (0, [])
theorem R.pstrings_Builder_Grow {a0 a1 : Value} {H : Hp} {K : Value → Hp → Prop} (h : F.pstrings_Builder_Grow a0 a1 H K) : HT prg I.pstrings_Builder_Grow [a0, a1].toArray H K :=
  HT_of_fev O.pstrings_Builder_Grow mixed Tryz.func149 (by kernel_rfl) (Eq.mpr (by kernel_rfl : fev prg O.pstrings_Builder_Grow Tryz.f149 [a0, a1] H K = F.pstrings_Builder_Grow a0 a1 H K) h)

/-! (*strings.Builder).WriteString: function 150 -/
def F.pstrings_Builder_WriteString (a0 a1 : Value) (H : Hp) (K : Value → Hp → Prop) : Prop :=
  HT prg I.pstrings_Builder_copyCheck [a0].toArray H fun v7x1 H2 =>
  ob (vNilC a0) fun v10x3 =>
  ob (vFa 1 v10x3) fun v11x4 =>
  ob (vLoad v11x4 H2) fun v12x5 =>
  apd 1 1 #[(.int .u8 0)] 5 v12x5 a1 H2 fun v14x6 H7 =>
  ob (vNilC a0) fun v15x8 =>
  ob (vFa 1 v15x8) fun v16x9 =>
  st 1 v16x9 v14x6 H7 fun H10 =>
  ob (vLenS a1) fun v18x11 =>
  K (.tuple #[v18x11, .nilIface]) H10
def O.pstrings_Builder_WriteString : Nat → Nat × List Nat := fun i => (0, [])
theorem R.pstrings_Builder_WriteString {a0 a1 : Value} {H : Hp} {K : Value → Hp → Prop} (h : F.pstrings_Builder_WriteString a0 a1 H K) : HT prg I.pstrings_Builder_WriteString [a0, a1].toArray H K :=
  HT_of_fev O.pstrings_Builder_WriteString mixed Tryz.func150 (by kernel_rfl) (Eq.mpr (by kernel_rfl : fev prg O.pstrings_Builder_WriteString Tryz.f150 [a0, a1] H K = F.pstrings_Builder_WriteString a0 a1 H K) h)

/-! (*strings.Builder).String: function 151 -/
def F.pstrings_Builder_String (a0 : Value) (H : Hp) (K : Value → Hp → Prop) : Prop :=
  (ob (vNilC a0) fun v4x1 =>
  ob (vFa 1 v4x1) fun v5x2 =>
  ob (vLoad v5x2 H) fun v6x3 =>
  ob (vNilC a0) fun v9x4 =>
  ob (vFa 1 v9x4) fun v10x5 =>
  ob (vLoad v10x5 H) fun v11x6 =>
  ob (vLenSl v11x6) fun v12x7 =>
  hp prg (builtin .unsafeSliceData #[22] 169 #[false] [v6x3].toArray) H (nextH prg (fun v7x8 H9 =>
  hp prg (builtin .unsafeString #[169, 3] 9 #[false, false] [v7x8, v12x7].toArray) H9 (nextH prg (fun v13x10 H11 =>
  K v13x10 H11))))) ∧ (ob (vNilC a0) fun v4x12 =>
  ob (vFa 1 v4x12) fun v5x13 =>
  ob (vLoad v5x13 H) fun v6x14 =>
  ob (vNilC a0) fun v9x15 =>
  ob (vFa 1 v9x15) fun v10x16 =>
  hp prg (builtin .unsafeSliceData #[22] 169 #[false] [v6x14].toArray) H (nextH prg (fun v7x17 H18 =>
  ob (vLoad v10x16 H18) fun v11x19 =>
  ob (vLenSl v11x19) fun v12x20 =>
  hp prg (builtin .unsafeString #[169, 3] 9 #[false, false] [v7x17, v12x20].toArray) H18 (nextH prg (fun v13x21 H22 =>
  K v13x21 H22)))))
def O.pstrings_Builder_String : Nat → Nat × List Nat := fun i => bif Nat.beq i 1 then (0, [1008, 1004, 0, 1, 2, 3, 5, 6, 7, 8, 9, 4, 10, 11, 0, 1, 2, 3, 5, 6, 7, 4, 8, 9, 10, 11]) else (0, [])
theorem R.pstrings_Builder_String {a0 : Value} {H : Hp} {K : Value → Hp → Prop} (h : F.pstrings_Builder_String a0 H K) : HT prg I.pstrings_Builder_String [a0].toArray H K :=
  HT_of_fev O.pstrings_Builder_String mixed Tryz.func151 (by kernel_rfl) (Eq.mpr (by kernel_rfl : fev prg O.pstrings_Builder_String Tryz.f151 [a0] H K = F.pstrings_Builder_String a0 H K) h)

/-! strings.Join: function 126 -/
def F.strings_Join (a0 a1 : Value) (H : Hp) (K : Value → Hp → Prop) : Prop :=
  ob (vLenSl a0) fun v12x1 =>
  ob (vInt .eql v12x1 (.int .i64 0)) fun v14x2 =>
  cnd v14x2
    (K (.string ⟨#[]⟩) H)
    (ob (vInt .eql v12x1 (.int .i64 1)) fun v16x3 =>
    cnd v16x3
      (ob (vIx 1 a0 (.int .i64 0)) fun v18x4 =>
      ob (vLoad v18x4 H) fun v19x5 =>
      K v19x5 H)
      (jn (fun σ6 H6 =>
    jn (fun σ7 H7 =>
      nw #[(.pointer none), (.slice none 0 0)] 156 H7 fun v8x8 H9 =>
      HT prg I.pstrings_Builder_Grow [v8x8, (σ7 5)].toArray H9 fun v57x10 H11 =>
      ob (vIx 1 (σ7 0) (.int .i64 0)) fun v59x12 =>
      ob (vLoad v59x12 H11) fun v60x13 =>
      HT prg I.pstrings_Builder_WriteString [v8x8, v60x13].toArray H11 fun v61x14 H15 =>
      jn (fun σ16 H16 =>
        HT prg I.pstrings_Builder_String [(σ16 8)].toArray H16 fun v74x17 H18 =>
        K v74x17 H18) fun J16 =>
      ob (vSl3 1 (σ7 0) (some (.int .i64 1)) none none) fun v63x19 =>
      ob (vLenSl v63x19) fun v64x20 =>
      lpE (fun Q21 σ21 H21 =>
        ob (vInt .lss (σ21 65) (σ21 64)) fun v66x22 =>
        cnd v66x22
          (ob (vIx 1 (σ21 63) (σ21 65)) fun v67x23 =>
        ob (vLoad v67x23 H21) fun v68x24 =>
        HT prg I.pstrings_Builder_WriteString [(σ21 8), (σ21 1)].toArray H21 fun v70x25 H26 =>
        HT prg I.pstrings_Builder_WriteString [(σ21 8), v68x24].toArray H26 fun v72x27 H28 =>
        ob (vInt .add (σ21 65) (.int .i64 1)) fun v73x29 =>
        Q21 .normal (up (up (up (up (up (up (up (up (up (up σ21 66 v66x22) 67 v67x23) 68 v68x24) 10 v68x24) 69 (σ21 1)) 70 v70x25) 71 v68x24) 72 v72x27) 73 v73x29) 65 v73x29) H28)
          (Q21 (.exit 3) (up σ21 66 v66x22) H21)) (blkQ 3 (thenQ J16 (retQ prg [(.tmp 4)] K))) (up (up (up (up (up (up (up (up (up (up (up σ7 8 v8x8) 56 (σ7 5)) 57 v57x10) 58 (σ7 0)) 59 v59x12) 60 v60x13) 61 v61x14) 62 (σ7 0)) 63 v63x19) 64 v64x20) 65 (.int .i64 0)) H15) fun J7 =>
    ob (vLenSl (σ6 0)) fun v40x30 =>
    lpE (fun Q31 σ31 H31 =>
      ob (vInt .lss (σ31 41) (σ31 40)) fun v42x32 =>
      cnd v42x32
        (ob (vIx 1 (σ31 39) (σ31 41)) fun v43x33 =>
      ob (vLoad v43x33 H31) fun v44x34 =>
      ob (vLenS v44x34) fun v46x35 =>
      ob (vInt .sub (.int .i64 9223372036854775807) (σ31 5)) fun v48x36 =>
      ob (vInt .gtr v46x35 v48x36) fun v49x37 =>
      cnd v49x37
        (ob (val prg (Instr.makeInterface 9 (.string ⟨#[115, 116, 114, 105, 110, 103, 115, 58, 32, 74, 111, 105, 110, 32, 111, 117, 116, 112, 117, 116, 32, 108, 101, 110, 103, 116, 104, 32, 111, 118, 101, 114, 102, 108, 111, 119]⟩)) H31) fun v50x38 =>
        hp prg (do pure (Next.value (← Instr.panic v50x38))) H31 (nextH prg (fun _ H39 =>
        ob (vLenS v44x34) fun v53x40 =>
      ob (vInt .add (σ31 5) v53x40) fun v54x41 =>
      ob (vInt .add (σ31 41) (.int .i64 1)) fun v55x42 =>
      Q31 .normal (up (up (up (up (up (up (up (up (up (up (up (up (up (up (up (up (up σ31 42 v42x32) 43 v43x33) 44 v44x34) 7 v44x34) 45 v44x34) 46 v46x35) 47 (σ31 5)) 48 v48x36) 49 v49x37) 50 v50x38) 51 (σ31 5)) 52 v44x34) 53 v53x40) 54 v54x41) 5 v54x41) 55 v55x42) 41 v55x42) H39)))
        (ob (vLenS v44x34) fun v53x43 =>
      ob (vInt .add (σ31 5) v53x43) fun v54x44 =>
      ob (vInt .add (σ31 41) (.int .i64 1)) fun v55x45 =>
      Q31 .normal (up (up (up (up (up (up (up (up (up (up (up (up (up (up (up (up σ31 42 v42x32) 43 v43x33) 44 v44x34) 7 v44x34) 45 v44x34) 46 v46x35) 47 (σ31 5)) 48 v48x36) 49 v49x37) 51 (σ31 5)) 52 v44x34) 53 v53x43) 54 v54x44) 5 v54x44) 55 v55x45) 41 v55x45) H31))
        (Q31 (.exit 1) (up σ31 42 v42x32) H31)) (blkQ 1 (thenQ J7 (retQ prg [(.tmp 4)] K))) (up (up (up σ6 39 (σ6 0)) 40 v40x30) 41 (.int .i64 0)) H6) fun J6 =>
  ob (vLenS a1) fun v21x46 =>
  ob (vInt .gtr v21x46 (.int .i64 0)) fun v22x47 =>
  cnd v22x47
    (ob (vLenS a1) fun v24x48 =>
    ob (vLenSl a0) fun v26x49 =>
    ob (vInt .sub v26x49 (.int .i64 1)) fun v27x50 =>
    ob (vInt .quo (.int .i64 9223372036854775807) v27x50) fun v28x51 =>
    ob (vInt .geq v24x48 v28x51) fun v29x52 =>
    cnd v29x52
      (ob (val prg (Instr.makeInterface 9 (.string ⟨#[115, 116, 114, 105, 110, 103, 115, 58, 32, 74, 111, 105, 110, 32, 111, 117, 116, 112, 117, 116, 32, 108, 101, 110, 103, 116, 104, 32, 111, 118, 101, 114, 102, 108, 111, 119]⟩)) H) fun v30x53 =>
      hp prg (do pure (Next.value (← Instr.panic v30x53))) H (nextH prg (fun _ H54 =>
      ob (vLenS a1) fun v33x55 =>
    ob (vLenSl a0) fun v35x56 =>
    ob (vInt .sub v35x56 (.int .i64 1)) fun v36x57 =>
    ob (vInt .mul v33x55 v36x57) fun v37x58 =>
    ob (vInt .add (.int .i64 0) v37x58) fun v38x59 =>
    J6 (up (up (up (up (up (up (up (up (up (up (up (up (up (up (up (up (up (up (up (up (up (up (up (up (up (up (up (up (S0 [a0, a1]) 4 (.string ⟨#[]⟩)) 11 a0) 12 v12x1) 14 v14x2) 13 v14x2) 16 v16x3) 15 v16x3) 5 (.int .i64 0)) 20 a1) 21 v21x46) 22 v22x47) 23 a1) 24 v24x48) 25 a0) 26 v26x49) 27 v27x50) 28 v28x51) 29 v29x52) 30 v30x53) 31 (.int .i64 0)) 32 a1) 33 v33x55) 34 a0) 35 v35x56) 36 v36x57) 37 v37x58) 38 v38x59) 5 v38x59) H54)))
      (ob (vLenS a1) fun v33x60 =>
    ob (vLenSl a0) fun v35x61 =>
    ob (vInt .sub v35x61 (.int .i64 1)) fun v36x62 =>
    ob (vInt .mul v33x60 v36x62) fun v37x63 =>
    ob (vInt .add (.int .i64 0) v37x63) fun v38x64 =>
    J6 (up (up (up (up (up (up (up (up (up (up (up (up (up (up (up (up (up (up (up (up (up (up (up (up (up (up (up (S0 [a0, a1]) 4 (.string ⟨#[]⟩)) 11 a0) 12 v12x1) 14 v14x2) 13 v14x2) 16 v16x3) 15 v16x3) 5 (.int .i64 0)) 20 a1) 21 v21x46) 22 v22x47) 23 a1) 24 v24x48) 25 a0) 26 v26x49) 27 v27x50) 28 v28x51) 29 v29x52) 31 (.int .i64 0)) 32 a1) 33 v33x60) 34 a0) 35 v35x61) 36 v36x62) 37 v37x63) 38 v38x64) 5 v38x64) H))
    (J6 (up (up (up (up (up (up (up (up (up (up (up (S0 [a0, a1]) 4 (.string ⟨#[]⟩)) 11 a0) 12 v12x1) 14 v14x2) 13 v14x2) 16 v16x3) 15 v16x3) 5 (.int .i64 0)) 20 a1) 21 v21x46) 22 v22x47) H)))
def O.strings_Join : Nat → Nat × List Nat := fun i => (0, [])
theorem R.strings_Join {a0 a1 : Value} {H : Hp} {K : Value → Hp → Prop} (h : F.strings_Join a0 a1 H K) : HT prg I.strings_Join [a0, a1].toArray H K :=
  HT_of_fev O.strings_Join mixed Tryz.func126 (by kernel_rfl) (Eq.mpr (by kernel_rfl : fev prg O.strings_Join Tryz.f126 [a0, a1] H K = F.strings_Join a0 a1 H K) h)

/-! (loop.example/g01381/impl.Field).text: function 105 -/
def F.impl_Field_text (a0 : Value) (H : Hp) (K : Value → Hp → Prop) : Prop :=
  nw (a0 : Value).cells 36 H fun v1x1 H2 =>
  bS 1 0 #[(.string ⟨#[]⟩)] 9 [] H2 fun v5x3 H4 =>
  nw #[(.slice none 0 0)] 30 H4 fun v3x5 H6 =>
  st 1 v3x5 v5x3 H6 fun H7 =>
  jn (fun σ8 H8 =>
    ob (vFa 1 (σ8 1)) fun v17x9 =>
    ob (vLoad v17x9 H8) fun v18x10 =>
    ob (vFa 0 (σ8 1)) fun v21x11 =>
    ob (vLoad v21x11 H8) fun v22x12 =>
    ob (vLoad (σ8 3) H8) fun v26x13 =>
    HT prg I.impl_Decimal [v18x10].toArray H8 fun v19x14 H15 =>
    Le H8 H15 ∧ (ob (vStr .add v19x14 (.string ⟨#[44]⟩)) fun v20x16 =>
    HT prg I.impl_Decimal [v22x12].toArray H15 fun v23x17 H18 =>
    Le H15 H18 ∧ (ob (vStr .add v20x16 v23x17) fun v24x19 =>
    ob (vStr .add v24x19 (.string ⟨#[58]⟩)) fun v25x20 =>
    HT prg I.strings_Join [v26x13, (.string ⟨#[36]⟩)].toArray H18 fun v27x21 H22 =>
    Le H18 H22 ∧ (ob (vStr .add v25x20 v27x21) fun v28x23 =>
    ob (vStr .add v28x23 (.string ⟨#[33]⟩)) fun v29x24 =>
    K v29x24 H22)))) fun J8 =>
  ob (vFa 2 v1x1) fun v6x25 =>
  ob (vLoad v6x25 H7) fun v7x26 =>
  ob (vFa 1 v1x1) fun v8x27 =>
  ob (vLoad v8x27 H7) fun v9x28 =>
  HT prg I.slices_Chunk_int64Zint64 [v7x26, v9x28].toArray H7 fun v10x29 H30 =>
  rgE prg v10x29 [11] (fun Q31 σ31 H31 =>
    ob (vLoad (σ31 3) H31) fun v12x32 =>
    HT prg I.impl_runsText [(σ31 11)].toArray H31 fun v14x33 H34 =>
    Le H31 H34 ∧ (bS 1 1 #[(.string ⟨#[]⟩)] 9 [(0, v14x33)] H34 fun v15x35 H36 =>
    apd 1 16 #[(.string ⟨#[]⟩)] 9 v12x32 v15x35 H36 fun v16x37 H38 =>
    st 1 (σ31 3) v16x37 H38 fun H39 =>
    Q31 .normal (up (up (up (up (up (up σ31 4 (σ31 11)) 12 v12x32) 13 (σ31 11)) 14 v14x33) 15 v15x35) 16 v16x37) H39)) (blkQ 0 (thenQ J8 (retQ prg [(.tmp 2)] K))) (up (up (up (up (up (up (up (up (up (S0 [a0]) 1 v1x1) 2 (.string ⟨#[]⟩)) 5 v5x3) 3 v3x5) 6 v6x25) 7 v7x26) 8 v8x27) 9 v9x28) 10 v10x29) H30
def O.impl_Field_text : Nat → Nat × List Nat := fun i => bif Nat.beq i 5 then (0, [0, 1, 4, 5, 9, 2, 3, 6, 7, 8, 10, 11, 12, 13]) else bif Nat.beq i 4 then (0, [0, 1, 2, 3, 4, 5]) else (0, [])
theorem R.impl_Field_text {a0 : Value} {H : Hp} {K : Value → Hp → Prop} (h : F.impl_Field_text a0 H K) : HT prg I.impl_Field_text [a0].toArray H K :=
  HT_of_fev O.impl_Field_text mixed Tryz.func105 (by kernel_rfl) (Eq.mpr (by kernel_rfl : fev prg O.impl_Field_text Tryz.f105 [a0] H K = F.impl_Field_text a0 H K) h)

/-! slices.Min[[]string,string]: function 106 -/
def F.slices_Min_string_string (a0 : Value) (H : Hp) (K : Value → Hp → Prop) : Prop :=
  jn (fun σ1 H1 =>
    ob (vIx 1 (σ1 0) (.int .i64 0)) fun v10x2 =>
    ob (vLoad v10x2 H1) fun v11x3 =>
    jn (fun σ4 H4 =>
      K (σ4 3) H4) fun J4 =>
    lpE (fun Q5 σ5 H5 =>
      ob (vLenSl (σ5 0)) fun v14x6 =>
      ob (vInt .lss (σ5 4) v14x6) fun v15x7 =>
      cnd v15x7
        (ob (vIx 1 (σ5 0) (σ5 4)) fun v21x8 =>
      ob (vLoad v21x8 H5) fun v22x9 =>
      hp prg (builtin .min #[9, 9] 9 #[false, false] [(σ5 3), v22x9].toArray) H5 (nextH prg (fun v23x10 H11 =>
      ob (vInt .add (σ5 4) (.int .i64 1)) fun v17x12 =>
      Q5 .normal (up (up (up (up (up (up (up (up (up (up (up (up (up (up σ5 12 (σ5 4)) 13 (σ5 0)) 14 v14x6) 15 v15x7) 18 (σ5 3)) 19 (σ5 0)) 20 (σ5 4)) 21 v21x8) 22 v22x9) 23 v23x10) 3 v23x10) 16 (σ5 4)) 17 v17x12) 4 v17x12) H11)))
        (Q5 (.exit 0) (up (up (up (up σ5 12 (σ5 4)) 13 (σ5 0)) 14 v14x6) 15 v15x7) H5)) (blkQ 0 (thenQ J4 (retQ prg [(.tmp 2)] K))) (up (up (up (up (up σ1 9 (σ1 0)) 10 v10x2) 11 v11x3) 3 v11x3) 4 (.int .i64 1)) H1) fun J1 =>
  ob (vLenSl a0) fun v6x13 =>
  ob (vInt .lss v6x13 (.int .i64 1)) fun v7x14 =>
  cnd v7x14
    (ob (val prg (Instr.makeInterface 9 (.string ⟨#[115, 108, 105, 99, 101, 115, 46, 77, 105, 110, 58, 32, 101, 109, 112, 116, 121, 32, 108, 105, 115, 116]⟩)) H) fun v8x15 =>
    hp prg (do pure (Next.value (← Instr.panic v8x15))) H (nextH prg (fun _ H16 =>
    J1 (up (up (up (up (up (S0 [a0]) 2 (.string ⟨#[]⟩)) 5 a0) 6 v6x13) 7 v7x14) 8 v8x15) H16)))
    (J1 (up (up (up (up (S0 [a0]) 2 (.string ⟨#[]⟩)) 5 a0) 6 v6x13) 7 v7x14) H)
def O.slices_Min_string_string : Nat → Nat × List Nat := fun i => (0, [])
theorem R.slices_Min_string_string {a0 : Value} {H : Hp} {K : Value → Hp → Prop} (h : F.slices_Min_string_string a0 H K) : HT prg I.slices_Min_string_string [a0].toArray H K :=
  HT_of_fev O.slices_Min_string_string mixed Tryz.func106 (by kernel_rfl) (Eq.mpr (by kernel_rfl : fev prg O.slices_Min_string_string Tryz.f106 [a0] H K = F.slices_Min_string_string a0 H K) h)

/-! (loop.example/g01381/impl.Field).name: function 68 -/
def F.impl_Field_name (a0 : Value) (H : Hp) (K : Value → Hp → Prop) : Prop :=
  nw (a0 : Value).cells 36 H fun v1x1 H2 =>
  ob (vLoadN 3 v1x1 H2) fun v11x3 =>
  HT prg I.impl_Field_trimmed [v11x3].toArray H2 fun v12x4 H5 =>
  ob (vExt v12x4 0) fun v13x6 =>
  ob (vExt v12x4 1) fun v14x7 =>
  ob (vExt v12x4 2) fun v15x8 =>
  ob (vExt v12x4 3) fun v16x9 =>
  nw #[(.int .i64 0), (.int .i64 0), (.slice none 0 0)] 36 H5 fun v3x10 H11 =>
  st 3 v3x10 v13x6 H11 fun H12 =>
  ob (vUn .not v16x9) fun v18x13 =>
  cnd v18x13
    (K (.string ⟨#[]⟩) H12)
    (bS 1 0 #[(.string ⟨#[]⟩)] 9 [] H12 fun v19x14 H15 =>
  jn (fun σ16 H16 =>
    HT prg I.slices_Min_string_string [(σ16 7)].toArray H16 fun v34x17 H18 =>
    K v34x17 H18) fun J16 =>
  ob (vLoadN 3 v3x10 H15) fun v20x19 =>
  HT prg I.impl_Field_images [v20x19].toArray H15 fun v21x20 H21 =>
  ob (vLenSl v21x20) fun v22x22 =>
  lpE (fun Q23 σ23 H23 =>
    ob (vInt .lss (σ23 23) (σ23 22)) fun v24x24 =>
    cnd v24x24
      (ob (vIx 3 (σ23 21) (σ23 23)) fun v25x25 =>
    ob (vLoadN 3 v25x25 H23) fun v26x26 =>
    nw #[(.int .i64 0), (.int .i64 0), (.slice none 0 0)] 36 H23 fun v9x27 H28 =>
    st 3 v9x27 v26x26 H28 fun H29 =>
    ob (vLoadN 3 v9x27 H29) fun v28x30 =>
    HT prg I.impl_Field_text [v28x30].toArray H29 fun v29x31 H32 =>
    bS 1 1 #[(.string ⟨#[]⟩)] 9 [(0, v29x31)] H32 fun v30x33 H34 =>
    apd 1 16 #[(.string ⟨#[]⟩)] 9 (σ23 7) v30x33 H34 fun v31x35 H36 =>
    ob (vInt .add (σ23 23) (.int .i64 1)) fun v32x37 =>
    Q23 .normal (up (up (up (up (up (up (up (up (up (up (up (up σ23 24 v24x24) 25 v25x25) 26 v26x26) 9 v9x27) 27 (σ23 7)) 28 v28x30) 29 v29x31) 30 v30x33) 31 v31x35) 7 v31x35) 32 v32x37) 23 v32x37) H36)
      (Q23 (.exit 0) (up σ23 24 v24x24) H23)) (blkQ 0 (thenQ J16 (retQ prg [(.tmp 2)] K))) (up (up (up (up (up (up (up (up (up (up (up (up (up (up (up (up (up (up (up (up (up (S0 [a0]) 1 v1x1) 2 (.string ⟨#[]⟩)) 11 v11x3) 12 v12x4) 10 v12x4) 13 v13x6) 14 v14x7) 15 v15x8) 16 v16x9) 3 v3x10) 4 v14x7) 5 v15x8) 6 v16x9) 17 v16x9) 18 v18x13) 19 v19x14) 7 v19x14) 20 v20x19) 21 v21x20) 22 v22x22) 23 (.int .i64 0)) H21)
def O.impl_Field_name : Nat → Nat × List Nat := fun i => (0, [])
theorem R.impl_Field_name {a0 : Value} {H : Hp} {K : Value → Hp → Prop} (h : F.impl_Field_name a0 H K) : HT prg I.impl_Field_name [a0].toArray H K :=
  HT_of_fev O.impl_Field_name mixed Tryz.func68 (by kernel_rfl) (Eq.mpr (by kernel_rfl : fev prg O.impl_Field_name Tryz.f68 [a0] H K = F.impl_Field_name a0 H K) h)

/-! slices.insertionSortOrdered[string]: function 127 -/
def F.slices_insertionSortOrdered_string (a0 a1 a2 : Value) (H : Hp) (K : Value → Hp → Prop) : Prop :=
  ob (vInt .add a1 (.int .i64 1)) fun v9x1 =>
  lpE (fun Q2 σ2 H2 =>
    ob (vInt .lss (σ2 6) (σ2 2)) fun v12x3 =>
    cnd v12x3
      (jn (fun σ4 H4 =>
      ob (vInt .add (σ4 6) (.int .i64 1)) fun v14x5 =>
      Q2 .normal (up (up (up σ4 13 (σ4 6)) 14 v14x5) 6 v14x5) H4) fun J4 =>
    lpE (fun Q6 σ6 H6 =>
      ob (vInt .gtr (σ6 7) (σ6 1)) fun v18x7 =>
      gop v18x7 true (fun K8 => K8 (σ6 0) H6) H6 fun v20x9 H10 =>
      gop v18x7 true (fun K11 => K11 (σ6 7) H10) H10 fun v21x12 H13 =>
      gop v18x7 true (fun K14 => ob (vIx 1 v20x9 v21x12) fun u => K14 u H13) H13 fun v22x15 H16 =>
      gop v18x7 true (fun K17 => ob (vLoad v22x15 H16) fun u => K17 u H16) H16 fun v23x18 H19 =>
      gop v18x7 true (fun K20 => K20 (σ6 0) H19) H19 fun v24x21 H22 =>
      gop v18x7 true (fun K23 => K23 (σ6 7) H22) H22 fun v25x24 H25 =>
      gop v18x7 true (fun K26 => ob (vInt .sub v25x24 (.int .i64 1)) fun u => K26 u H25) H25 fun v26x27 H28 =>
      gop v18x7 true (fun K29 => ob (vIx 1 v24x21 v26x27) fun u => K29 u H28) H28 fun v27x30 H31 =>
      gop v18x7 true (fun K32 => ob (vLoad v27x30 H31) fun u => K32 u H31) H31 fun v28x33 H34 =>
      gop v18x7 true (fun K35 => HT prg I.cmp_Less_string [v23x18, v28x33].toArray H34 fun v29x36 H37 =>
      Le H34 H37 ∧ K35 v29x36 H37) H34 fun v29x38 H39 =>
      ob (vPick v18x7 v29x38 (.bool false)) fun v30x40 =>
      cnd v30x40
        (ob (vInt .sub (σ6 7) (.int .i64 1)) fun v37x41 =>
      ob (vInt .sub (σ6 7) (.int .i64 1)) fun v40x42 =>
      ob (vIx 1 (σ6 0) v40x42) fun v41x43 =>
      ob (vLoad v41x43 H39) fun v42x44 =>
      ob (vIx 1 (σ6 0) (σ6 7)) fun v45x45 =>
      ob (vLoad v45x45 H39) fun v46x46 =>
      ob (vIx 1 (σ6 0) (σ6 7)) fun v47x47 =>
      st 1 v47x47 v42x44 H39 fun H48 =>
      ob (vIx 1 (σ6 0) v37x41) fun v48x49 =>
      st 1 v48x49 v46x46 H48 fun H50 =>
      ob (vInt .sub (σ6 7) (.int .i64 1)) fun v32x51 =>
      Q6 .normal (up (up (up (up (up (up (up (up (up (up (up (up (up (up (up (up (up (up (up (up (up (up (up (up (up (up (up (up (up (up (up (up (up (up σ6 16 (σ6 7)) 17 (σ6 1)) 18 v18x7) 19 v18x7) 20 v20x9) 21 v21x12) 22 v22x15) 23 v23x18) 24 v24x21) 25 v25x24) 26 v26x27) 27 v27x30) 28 v28x33) 29 v29x38) 30 v30x40) 33 (σ6 0)) 34 (σ6 7)) 35 (σ6 0)) 36 (σ6 7)) 37 v37x41) 38 (σ6 0)) 39 (σ6 7)) 40 v40x42) 41 v41x43) 42 v42x44) 43 (σ6 0)) 44 (σ6 7)) 45 v45x45) 46 v46x46) 47 v47x47) 48 v48x49) 31 (σ6 7)) 32 v32x51) 7 v32x51) H50)
        (Q6 (.exit 2) (up (up (up (up (up (up (up (up (up (up (up (up (up (up (up σ6 16 (σ6 7)) 17 (σ6 1)) 18 v18x7) 19 v18x7) 20 v20x9) 21 v21x12) 22 v22x15) 23 v23x18) 24 v24x21) 25 v25x24) 26 v26x27) 27 v27x30) 28 v28x33) 29 v29x38) 30 v30x40) H39)) (blkQ 2 (blkQ 1 (thenQ J4 Q2))) (up (up (up (up (up σ2 10 (σ2 6)) 11 (σ2 2)) 12 v12x3) 15 (σ2 6)) 7 (σ2 6)) H2)
      (Q2 (.exit 0) (up (up (up σ2 10 (σ2 6)) 11 (σ2 2)) 12 v12x3) H2)) (blkQ 0 (retQ prg [] K)) (up (up (up (S0 [a0, a1, a2]) 8 a1) 9 v9x1) 6 v9x1) H
def O.slices_insertionSortOrdered_string : Nat → Nat × List Nat := fun i => bif Nat.beq i 4 then (0, [0, 1, 2, 3, 4, 5, 6, 7, 8, 9, 10, 11, 12, 13, 14]) else bif Nat.beq i 6 then (0, [0, 1, 2, 3, 4, 5, 6, 7, 8, 9, 10, 11, 12, 13, 14, 15, 16, 17]) else (0, [])
theorem R.slices_insertionSortOrdered_string {a0 a1 a2 : Value} {H : Hp} {K : Value → Hp → Prop} (h : F.slices_insertionSortOrdered_string a0 a1 a2 H K) : HT prg I.slices_insertionSortOrdered_string [a0, a1, a2].toArray H K :=
  HT_of_fev O.slices_insertionSortOrdered_string mixed Tryz.func127 (by kernel_rfl) (Eq.mpr (by kernel_rfl : fev prg O.slices_insertionSortOrdered_string Tryz.f127 [a0, a1, a2] H K = F.slices_insertionSortOrdered_string a0 a1 a2 H K) h)

/-! math/bits.Len: function 108 -/
def F.math_bits_Len (a0 : Value) (H : Hp) (K : Value → Hp → Prop) : Prop :=
  cnd (.bool false)
    (ob (vCI .u32 a0) fun v4x1 =>
    HT prg I.math_bits_Len32 [v4x1].toArray H fun v5x2 H3 =>
    K v5x2 H3)
    (HT prg I.math_bits_Len64 [a0].toArray H fun v7x4 H5 =>
  K v7x4 H5)
def O.math_bits_Len : Nat → Nat × List Nat := fun i => (0, [])
theorem R.math_bits_Len {a0 : Value} {H : Hp} {K : Value → Hp → Prop} (h : F.math_bits_Len a0 H K) : HT prg I.math_bits_Len [a0].toArray H K :=
  HT_of_fev O.math_bits_Len mixed Tryz.func108 (by kernel_rfl) (Eq.mpr (by kernel_rfl : fev prg O.math_bits_Len Tryz.f108 [a0] H K = F.math_bits_Len a0 H K) h)

/-! slices.pdqsortOrdered[string]: function 107 -/
def F.slices_pdqsortOrdered_string (a0 a1 a2 a3 : Value) (H : Hp) (K : Value → Hp → Prop) : Prop :=
  lpE (fun Q1 σ1 H1 =>
    ob (vInt .sub (σ1 2) (σ1 1)) fun v21x2 =>
    ob (vInt .leq v21x2 (.int .i64 12)) fun v23x3 =>
    cnd v23x3
      (HT prg I.slices_insertionSortOrdered_string [(σ1 0), (σ1 1), (σ1 2)].toArray H1 fun v27x4 H5 =>
      Q1 .ret (up (up (up (up (up (up (up (up (up (up σ1 19 (σ1 2)) 20 (σ1 1)) 21 v21x2) 10 v21x2) 22 v21x2) 23 v23x3) 24 (σ1 0)) 25 (σ1 1)) 26 (σ1 2)) 27 v27x4) H5)
      (ob (vInt .eql (σ1 3) (.int .i64 0)) fun v29x6 =>
    cnd v29x6
      (HT prg I.slices_heapSortOrdered_string [(σ1 0), (σ1 1), (σ1 2)].toArray H1 fun v33x7 H8 =>
      Q1 .ret (up (up (up (up (up (up (up (up (up (up (up (up σ1 19 (σ1 2)) 20 (σ1 1)) 21 v21x2) 10 v21x2) 22 v21x2) 23 v23x3) 28 (σ1 3)) 29 v29x6) 30 (σ1 0)) 31 (σ1 1)) 32 (σ1 2)) 33 v33x7) H8)
      (jn (fun σ9 H9 =>
      HT prg I.slices_choosePivotOrdered_string [(σ9 0), (σ9 1), (σ9 2)].toArray H9 fun v46x10 H11 =>
      ob (vExt v46x10 0) fun v47x12 =>
      ob (vExt v46x10 1) fun v48x13 =>
      jn (fun σ14 H14 =>
        jn (fun σ15 H15 =>
          ob (vInt .gtr (σ15 1) (.int .i64 0)) fun v74x16 =>
          gop v74x16 true (fun K17 => K17 (σ15 0) H15) H15 fun v76x18 H19 =>
          gop v74x16 true (fun K20 => K20 (σ15 1) H19) H19 fun v77x21 H22 =>
          gop v74x16 true (fun K23 => ob (vInt .sub v77x21 (.int .i64 1)) fun u => K23 u H22) H22 fun v78x24 H25 =>
          gop v74x16 true (fun K26 => ob (vIx 1 v76x18 v78x24) fun u => K26 u H25) H25 fun v79x27 H28 =>
          gop v74x16 true (fun K29 => ob (vLoad v79x27 H28) fun u => K29 u H28) H28 fun v80x30 H31 =>
          gop v74x16 true (fun K32 => K32 (σ15 0) H31) H31 fun v81x33 H34 =>
          gop v74x16 true (fun K35 => K35 (σ15 11) H34) H34 fun v82x36 H37 =>
          gop v74x16 true (fun K38 => ob (vIx 1 v81x33 v82x36) fun u => K38 u H37) H37 fun v83x39 H40 =>
          gop v74x16 true (fun K41 => ob (vLoad v83x39 H40) fun u => K41 u H40) H40 fun v84x42 H43 =>
          gop v74x16 true (fun K44 => HT prg I.cmp_Less_string [v80x30, v84x42].toArray H43 fun v85x45 H46 =>
          Le H43 H46 ∧ K44 v85x45 H46) H43 fun v85x47 H48 =>
          gop v74x16 true (fun K49 => ob (vUn .not v85x47) fun u => K49 u H48) H48 fun v86x50 H51 =>
          ob (vPick v74x16 v86x50 (.bool false)) fun v87x52 =>
          cnd v87x52
            (HT prg I.slices_partitionEqualOrdered_string [(σ15 0), (σ15 1), (σ15 2), (σ15 11)].toArray H51 fun v92x53 H54 =>
            Q1 .normal (up (up (up (up (up (up (up (up (up (up (up (up (up (up (up (up (up (up (up (up (up (up (up σ15 73 (σ15 1)) 74 v74x16) 75 v74x16) 76 v76x18) 77 v77x21) 78 v78x24) 79 v79x27) 80 v80x30) 81 v81x33) 82 v82x36) 83 v83x39) 84 v84x42) 85 v85x47) 86 v86x50) 87 v87x52) 88 (σ15 0)) 89 (σ15 1)) 90 (σ15 2)) 91 (σ15 11)) 92 v92x53) 13 v92x53) 93 v92x53) 1 v92x53) H54)
            (HT prg I.slices_partitionOrdered_string [(σ15 0), (σ15 1), (σ15 2), (σ15 11)].toArray H51 fun v99x55 H56 =>
          ob (vExt v99x55 0) fun v100x57 =>
          ob (vExt v99x55 1) fun v101x58 =>
          ob (vInt .sub v100x57 (σ15 1)) fun v105x59 =>
          ob (vInt .sub (σ15 2) v100x57) fun v108x60 =>
          ob (vInt .quo (σ15 10) (.int .i64 8)) fun v110x61 =>
          ob (vInt .lss v105x59 v108x60) fun v113x62 =>
          cnd v113x62
            (ob (vInt .geq v105x59 v110x61) fun v116x63 =>
            HT prg I.slices_pdqsortOrdered_string [(σ15 0), (σ15 1), v100x57, (σ15 3)].toArray H56 fun v121x64 H65 =>
            ob (vInt .add v100x57 (.int .i64 1)) fun v123x66 =>
            Q1 .normal (up (up (up (up (up (up (up (up (up (up (up (up (up (up (up (up (up (up (up (up (up (up (up (up (up (up (up (up (up (up (up (up (up (up (up (up (up (up (up (up (up (up (up (up (up (up (up (up (up (up (up (up (up σ15 73 (σ15 1)) 74 v74x16) 75 v74x16) 76 v76x18) 77 v77x21) 78 v78x24) 79 v79x27) 80 v80x30) 81 v81x33) 82 v82x36) 83 v83x39) 84 v84x42) 85 v85x47) 86 v86x50) 87 v87x52) 95 (σ15 0)) 96 (σ15 1)) 97 (σ15 2)) 98 (σ15 11)) 99 v99x55) 94 v99x55) 100 v100x57) 101 v101x58) 14 v100x57) 15 v101x58) 102 v101x58) 9 v101x58) 103 v100x57) 104 (σ15 1)) 105 v105x59) 106 (σ15 2)) 107 v100x57) 108 v108x60) 16 v105x59) 17 v108x60) 109 (σ15 10)) 110 v110x61) 18 v110x61) 111 v105x59) 112 v108x60) 113 v113x62) 114 v105x59) 115 v110x61) 116 v116x63) 8 v116x63) 117 (σ15 0)) 118 (σ15 1)) 119 v100x57) 120 (σ15 3)) 121 v121x64) 122 v100x57) 123 v123x66) 1 v123x66) H65)
            (ob (vInt .geq v108x60 v110x61) fun v126x67 =>
            ob (vInt .add v100x57 (.int .i64 1)) fun v129x68 =>
            HT prg I.slices_pdqsortOrdered_string [(σ15 0), v129x68, (σ15 2), (σ15 3)].toArray H56 fun v132x69 H70 =>
            Q1 .normal (up (up (up (up (up (up (up (up (up (up (up (up (up (up (up (up (up (up (up (up (up (up (up (up (up (up (up (up (up (up (up (up (up (up (up (up (up (up (up (up (up (up (up (up (up (up (up (up (up (up (up (up (up σ15 73 (σ15 1)) 74 v74x16) 75 v74x16) 76 v76x18) 77 v77x21) 78 v78x24) 79 v79x27) 80 v80x30) 81 v81x33) 82 v82x36) 83 v83x39) 84 v84x42) 85 v85x47) 86 v86x50) 87 v87x52) 95 (σ15 0)) 96 (σ15 1)) 97 (σ15 2)) 98 (σ15 11)) 99 v99x55) 94 v99x55) 100 v100x57) 101 v101x58) 14 v100x57) 15 v101x58) 102 v101x58) 9 v101x58) 103 v100x57) 104 (σ15 1)) 105 v105x59) 106 (σ15 2)) 107 v100x57) 108 v108x60) 16 v105x59) 17 v108x60) 109 (σ15 10)) 110 v110x61) 18 v110x61) 111 v105x59) 112 v108x60) 113 v113x62) 124 v108x60) 125 v110x61) 126 v126x67) 8 v126x67) 127 (σ15 0)) 128 v100x57) 129 v129x68) 130 (σ15 2)) 131 (σ15 3)) 132 v132x69) 133 v100x57) 2 v100x57) H70))) fun J15 =>
        gop (σ14 8) true (fun K71 => K71 (σ14 9) H14) H14 fun v63x72 H73 =>
        ob (vPick (σ14 8) v63x72 (.bool false)) fun v64x74 =>
        gop v64x74 true (fun K75 => K75 (σ14 12) H73) H73 fun v66x76 H77 =>
        gop v64x74 true (fun K78 => ob (vInt .eql v66x76 (.int .i64 1)) fun u => K78 u H77) H77 fun v67x79 H80 =>
        ob (vPick v64x74 v67x79 (.bool false)) fun v68x81 =>
        cnd v68x81
          (HT prg I.slices_partialInsertionSortOrdered_string [(σ14 0), (σ14 1), (σ14 2)].toArray H80 fun v72x82 H83 =>
          cnd v72x82
            (Q1 .ret (up (up (up (up (up (up (up (up (up (up (up (up σ14 61 (σ14 8)) 62 (σ14 8)) 63 v63x72) 64 v64x74) 65 v64x74) 66 v66x76) 67 v67x79) 68 v68x81) 69 (σ14 0)) 70 (σ14 1)) 71 (σ14 2)) 72 v72x82) H83)
            (J15 (up (up (up (up (up (up (up (up (up (up (up (up σ14 61 (σ14 8)) 62 (σ14 8)) 63 v63x72) 64 v64x74) 65 v64x74) 66 v66x76) 67 v67x79) 68 v68x81) 69 (σ14 0)) 70 (σ14 1)) 71 (σ14 2)) 72 v72x82) H83))
          (J15 (up (up (up (up (up (up (up (up σ14 61 (σ14 8)) 62 (σ14 8)) 63 v63x72) 64 v64x74) 65 v64x74) 66 v66x76) 67 v67x79) 68 v68x81) H80)) fun J14 =>
      ob (vInt .eql v48x13 (.int .i64 2)) fun v50x84 =>
      cnd v50x84
        (HT prg I.slices_reverseRangeOrdered_string [(σ9 0), (σ9 1), (σ9 2)].toArray H11 fun v54x85 H86 =>
        ob (vInt .sub (σ9 2) (.int .i64 1)) fun v56x87 =>
        ob (vInt .sub v47x12 (σ9 1)) fun v59x88 =>
        ob (vInt .sub v56x87 v59x88) fun v60x89 =>
        J14 (up (up (up (up (up (up (up (up (up (up (up (up (up (up (up (up (up (up (up (up (up (up (up σ9 43 (σ9 0)) 44 (σ9 1)) 45 (σ9 2)) 46 v46x10) 42 v46x10) 47 v47x12) 48 v48x13) 11 v47x12) 12 v48x13) 49 v48x13) 50 v50x84) 51 (σ9 0)) 52 (σ9 1)) 53 (σ9 2)) 54 v54x85) 55 (σ9 2)) 56 v56x87) 57 v47x12) 58 (σ9 1)) 59 v59x88) 60 v60x89) 11 v60x89) 12 (.int .i64 1)) H86)
        (J14 (up (up (up (up (up (up (up (up (up (up (up σ9 43 (σ9 0)) 44 (σ9 1)) 45 (σ9 2)) 46 v46x10) 42 v46x10) 47 v47x12) 48 v48x13) 11 v47x12) 12 v48x13) 49 v48x13) 50 v50x84) H11)) fun J9 =>
    ob (vUn .not (σ1 8)) fun v35x90 =>
    cnd v35x90
      (HT prg I.slices_breakPatternsOrdered_string [(σ1 0), (σ1 1), (σ1 2)].toArray H1 fun v39x91 H92 =>
      ob (vInt .sub (σ1 3) (.int .i64 1)) fun v41x93 =>
      J9 (up (up (up (up (up (up (up (up (up (up (up (up (up (up (up (up (up σ1 19 (σ1 2)) 20 (σ1 1)) 21 v21x2) 10 v21x2) 22 v21x2) 23 v23x3) 28 (σ1 3)) 29 v29x6) 34 (σ1 8)) 35 v35x90) 36 (σ1 0)) 37 (σ1 1)) 38 (σ1 2)) 39 v39x91) 40 (σ1 3)) 41 v41x93) 3 v41x93) H92)
      (J9 (up (up (up (up (up (up (up (up (up (up σ1 19 (σ1 2)) 20 (σ1 1)) 21 v21x2) 10 v21x2) 22 v21x2) 23 v23x3) 28 (σ1 3)) 29 v29x6) 34 (σ1 8)) 35 v35x90) H1)))) (blkQ 0 (retQ prg [] K)) (up (up (S0 [a0, a1, a2, a3]) 8 (.bool true)) 9 (.bool true)) H
def O.slices_pdqsortOrdered_string : Nat → Nat × List Nat := fun i => bif Nat.beq i 17 then (0, [0, 1, 2, 3, 4, 5, 6, 7, 8, 9, 10, 11, 12, 13, 14]) else (0, [])
theorem R.slices_pdqsortOrdered_string {a0 a1 a2 a3 : Value} {H : Hp} {K : Value → Hp → Prop} (h : F.slices_pdqsortOrdered_string a0 a1 a2 a3 H K) : HT prg I.slices_pdqsortOrdered_string [a0, a1, a2, a3].toArray H K :=
  HT_of_fev O.slices_pdqsortOrdered_string mixed Tryz.func107 (by kernel_rfl) (Eq.mpr (by kernel_rfl : fev prg O.slices_pdqsortOrdered_string Tryz.f107 [a0, a1, a2, a3] H K = F.slices_pdqsortOrdered_string a0 a1 a2 a3 H K) h)

/-! slices.Sort[[]string,string]: function 69 -/
def F.slices_Sort_string_string (a0 : Value) (H : Hp) (K : Value → Hp → Prop) : Prop :=
  ob (vLenSl a0) fun v4x1 =>
  ob (vCI .u64 v4x1) fun v8x2 =>
  HT prg I.math_bits_Len [v8x2].toArray H fun v9x3 H4 =>
  HT prg I.slices_pdqsortOrdered_string [a0, (.int .i64 0), v4x1, v9x3].toArray H4 fun v10x5 H6 =>
  K (.tuple #[]) H6
def O.slices_Sort_string_string : Nat → Nat × List Nat := fun i => (0, [])
theorem R.slices_Sort_string_string {a0 : Value} {H : Hp} {K : Value → Hp → Prop} (h : F.slices_Sort_string_string a0 H K) : HT prg I.slices_Sort_string_string [a0].toArray H K :=
  HT_of_fev O.slices_Sort_string_string mixed Tryz.func69 (by kernel_rfl) (Eq.mpr (by kernel_rfl : fev prg O.slices_Sort_string_string Tryz.f69 [a0] H K = F.slices_Sort_string_string a0 H K) h)

end Go.Proofs.YtnijdhlmimemcaaGreatDoor
