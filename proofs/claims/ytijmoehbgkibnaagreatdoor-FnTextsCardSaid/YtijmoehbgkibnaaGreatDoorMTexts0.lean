/- Several texts in one. -/
import Derived.Test.YtijmoehbgkibnaaGreatDoorHI
import Derived.Laws.Strings
import Derived.Test.YtijmoehbgkibnaaGreatDoorG0
set_option linter.unusedVariables false
/- Slices over a partial heap: what is read, what is owned, and what stays when something else is written. -/
namespace Go.Proofs.YtijmoehbgkibnaaGreatDoor.HL
abbrev eI : Int → Value := .int .i64
/-- The pointer to a slice's cell, where its elements have one cell each. -/
def ptr (v : Value) (i : Int) : Value := match v with | .slice (some a) _ _ => .pointer (some (a.add (i.toNat * 1))) | _ => undef
/-- The block that a slice or a pointer may write. -/
def bk (v : Value) : Option Nat := match v with | .slice (some a) _ c => if c = 0 then none else some a.block | .pointer (some a) => some a.block | _ => none
/-- The element at an index. -/
def at_ {α : Type} (d : α) (l : List α) (i : Int) : α := l.getD i.toNat d

/-- A slice that reads so. -/
def Sl {α : Type} (enc : α → Value) (H : Hp) (v : Value) (l : List α) : Prop :=
  ∃ a c, v = .slice a l.length c ∧ l.length ≤ c ∧ ∀ i (h : i < l.length), ∃ ad, a = some ad ∧ H.cell? (ad.add i) = some (enc l[i])
/-- A slice whose block is known whole, and may be written. -/
def Own {α : Type} (enc : α → Value) (H : Hp) (v : Value) (l : List α) : Prop :=
  ∃ a c, v = .slice a l.length c ∧ l.length ≤ c ∧ (0 < c → ∃ b off cs e, a = some ⟨b, off, none⟩ ∧ H b = some (.cells cs e (0, 0)) ∧ off + c ≤ cs.size ∧ ∀ i (h : i < l.length), cs[off + i]? = some (enc l[i]))
/-- A slice whose block is not known in a heap. -/
def Nw (H : Hp) (v : Value) : Prop := ∀ b, bk v = some b → H b = none
def Apart (u v : Value) : Prop := ∀ b, bk u = some b → bk v ≠ some b
/-- All that is known stays, but for a slice's block. -/
def Off (v : Value) (H H' : Hp) : Prop := ∀ b o, H b = some o → bk v ≠ some b → H' b = some o

theorem add_none (b off i : Nat) : (⟨b, off, none⟩ : Addr).add i = ⟨b, off + i, none⟩ := by
  unfold Addr.add
  split
  · rename_i h; subst h; rfl
  · rfl
theorem Apart.symm {u v : Value} (h : Apart u v) : Apart v u := fun b hb hu => h b hu hb
theorem Nw.le {H H' : Hp} {v : Value} (h : Nw H' v) (hl : Le H H') : Nw H v := fun b hb => by
  cases ho : H b with
  | none => rfl
  | some o => have := hl b o ho; rw [h b hb] at this; exact absurd this (by simp)
theorem Off.le {H0 H H' : Hp} {v : Value} (h : Off v H H') (hl : Le H0 H) (hn : Nw H0 v) : Le H0 H' := fun b o hb =>
  h b o (hl b o hb) (fun e => by rw [hn b e] at hb; exact absurd hb (by simp))
theorem Off.of_le {H H' : Hp} {v : Value} (h : Le H H') : Off v H H' := fun b o hb _ => h b o hb
theorem Off.trans {A B C : Hp} {v : Value} (h : Off v A B) (h' : Off v B C) : Off v A C := fun b o hb hv => h' b o (h b o hb hv) hv

section
variable {α : Type} {enc : α → Value} {H H' : Hp} {u v : Value} {l : List α}
theorem Sl.le (h : Sl enc H v l) (hl : Le H H') : Sl enc H' v l := by
  obtain ⟨a, c, rfl, hc, hr⟩ := h
  exact ⟨a, c, rfl, hc, fun i hi => by obtain ⟨ad, e, hh⟩ := hr i hi; exact ⟨ad, e, hl.cell hh⟩⟩
theorem Sl.len (h : Sl enc H v l) : vLenSl v = some (.int .i64 l.length) := by
  obtain ⟨a, c, rfl, hc, hr⟩ := h; rfl
theorem Sl.ix (h : Sl enc H v l) {k : IntKind} {i : Int} (h0 : 0 ≤ i) (h1 : i < l.length) : vIx 1 v (.int k i) = some (ptr v i) := by
  obtain ⟨a, c, rfl, hc, hr⟩ := h
  obtain ⟨ad, rfl, hh⟩ := hr i.toNat (by omega)
  simp only [vIx, ptr]
  rw [if_pos ⟨h0, by simpa using h1⟩]
theorem Sl.ld (h : Sl enc H v l) (d : α) {i : Int} (h0 : 0 ≤ i) (h1 : i < l.length) : vLoad (ptr v i) H = some (enc (at_ d l i)) := by
  obtain ⟨a, c, rfl, hc, hr⟩ := h
  have hi : i.toNat < l.length := by omega
  obtain ⟨ad, rfl, hh⟩ := hr i.toNat hi
  simp only [vLoad, ptr, Nat.mul_one, hh, at_, List.getD_eq_getElem?_getD, List.getElem?_eq_getElem hi, Option.getD_some]
theorem Sl.nil (c : Nat) (a : Option Addr) : Sl enc H (.slice a 0 c) [] := ⟨a, c, rfl, by simp, fun i hi => absurd hi (by simp)⟩

theorem Own.len (h : Own enc H v l) : vLenSl v = some (.int .i64 l.length) := by
  obtain ⟨a, c, rfl, hc, hr⟩ := h; rfl
theorem Own.sl (h : Own enc H v l) : Sl enc H v l := by
  obtain ⟨a, c, rfl, hc, hr⟩ := h
  refine ⟨a, c, rfl, hc, fun i hi => ?_⟩
  obtain ⟨b, off, cs, e, rfl, hb, hs, hcs⟩ := hr (by omega)
  exact ⟨_, rfl, by simp only [Hp.cell?, add_none, hb, hcs i hi]; rfl⟩
theorem Own.off (h : Own enc H u l) (ho : Off v H H') (ha : Apart u v) : Own enc H' u l := by
  obtain ⟨a, c, rfl, hc, hr⟩ := h
  refine ⟨a, c, rfl, hc, fun h0 => ?_⟩
  obtain ⟨b, off, cs, e, rfl, hb, hs, hcs⟩ := hr h0
  refine ⟨b, off, cs, e, rfl, ho b _ hb (ha b ?_), hs, hcs⟩
  simp only [bk]
  rw [if_neg (by omega)]
theorem Own.le (h : Own enc H u l) (hl : Le H H') : Own enc H' u l := by
  obtain ⟨a, c, rfl, hc, hr⟩ := h
  refine ⟨a, c, rfl, hc, fun h0 => ?_⟩
  obtain ⟨b, off, cs, e, rfl, hb, hs, hcs⟩ := hr h0
  exact ⟨b, off, cs, e, rfl, hl b _ hb, hs, hcs⟩
theorem Own.known (h : Own enc H u l) : ∀ b, bk u = some b → ∃ o, H b = some o := by
  obtain ⟨a, c, rfl, hc, hr⟩ := h
  intro b hb
  cases a with
  | none => simp [bk] at hb
  | some ad =>
    simp only [bk] at hb
    by_cases h0 : c = 0
    · rw [if_pos h0] at hb; simp at hb
    · rw [if_neg h0] at hb
      obtain ⟨b', off, cs, e, he, hbb, _⟩ := hr (by omega)
      simp only [Option.some.injEq] at hb he
      subst he
      simp only at hb
      subst hb
      exact ⟨_, hbb⟩
theorem Own.apart (h : Own enc H u l) (hn : Nw H v) : Apart u v := fun b hb hv => by
  obtain ⟨o, ho⟩ := h.known b hb
  rw [hn b hv] at ho
  exact absurd ho (by simp)
theorem Apart.of_nw {H : Hp} {u v : Value} (hu : ∀ b, bk u = some b → ∃ o, H b = some o) (hn : Nw H v) : Apart u v := fun b hb hv => by
  obtain ⟨o, ho⟩ := hu b hb
  rw [hn b hv] at ho
  exact absurd ho (by simp)
theorem Own.nil_of (a : Option Addr) : Own enc H (.slice a 0 0) [] := ⟨a, 0, rfl, by simp, fun h0 => absurd h0 (by simp)⟩

/-- A write of one cell. -/
theorem Own.st (h : Own enc H v l) {x : α} {K : Hp → Prop} {i : Int} (h0 : 0 ≤ i) (h1 : i < l.length) (hx : oneCell (enc x) = true) (hz : (enc x).cells = #[enc x])
    (hk : ∀ H', Own enc H' v (l.set i.toNat x) → Off v H H' → K H') : st 1 (ptr v i) (enc x) H K := by
  obtain ⟨a, c, rfl, hc, hr⟩ := h
  obtain ⟨b, off, cs, e, rfl, hb, hs, hcs⟩ := hr (by omega)
  have hi : i.toNat < l.length := by omega
  simp only [HL.st, ptr, hz, List.toList_toArray, Nat.mul_one, List.size_toArray, List.length_singleton, true_and, stC]
  refine ⟨hx, ?_, ?_, ?_⟩
  · simp only [Hp.cell?, add_none, hb, hcs _ hi, Nat.add_zero]; rfl
  · simp only [Hp.frozen?, add_none, hb]; simp
  · refine hk _ ⟨_, c, by simp, by simpa using hc, fun _ => ⟨b, off, cs.setIfInBounds (off + i.toNat) (enc x), e, rfl, ?_, by simpa using hs, ?_⟩⟩ ?_
    · simp only [Hp.setCell, add_none, hb, Nat.add_zero, Hp.put_same]; rfl
    · intro j hj
      have hj' : j < l.length := by simpa using hj
      rw [Array.getElem?_setIfInBounds]
      by_cases e1 : off + i.toNat = off + j
      · have : i.toNat = j := by omega
        subst this
        rw [if_pos rfl, if_pos (by omega)]; simp
      · have : i.toNat ≠ j := by omega
        rw [if_neg e1, hcs j hj', List.getElem_set_ne this]
    · intro x' o ho hv
      simp only [bk, if_neg (by omega : ¬ c = 0)] at hv
      simp only [Hp.setCell, add_none, hb]
      rw [Hp.put_ne _ _ (by rintro rfl; exact hv rfl)]
      exact ho

theorem zrow_get (z : Value) (n i : Nat) (h : i < n) : (zrow #[z] n)[i]? = some z := by
  simp only [zrow, List.size_toArray, List.length_singleton, Nat.mod_one]
  simp [h]
theorem zrow_size (zs : Array Value) (n : Nat) : (zrow zs n).size = n := by simp [zrow]

/-- A new row. -/
theorem Own.mk_ {bytes : Nat} {z : α} {e : TypeId} {k k' : IntKind} {n c : Int} {K : Value → Hp → Prop} (h0 : 0 ≤ n) (h1 : n ≤ c) (h2 : c ≤ 281474976710656) (h3 : bytes * c ≤ 281474976710656)
    (hk : ∀ v H', Own enc H' v (List.replicate n.toNat z) → Nw H v → Le H H' → K v H') : mkS 1 bytes #[enc z] e (.int k n) (.int k' c) H K := by
  refine ⟨h0, h1, h2, h3, fun r hr => hk _ _ ⟨some ⟨r, 0, none⟩, c.toNat, by simp, by simp; omega, fun h4 => ⟨r, 0, _, e, rfl, Hp.put_same _ _ _, ?_, ?_⟩⟩ ?_ (Le.put _ hr)⟩
  · rw [Nat.mul_one, if_neg (by omega), zrow_size]; omega
  · intro i hi
    have : i < n.toNat := by simpa using hi
    rw [Nat.mul_one, if_neg (by omega), Nat.zero_add, zrow_get _ _ _ (by omega)]; simp
  · intro b hb
    simp only [bk] at hb
    split at hb
    · simp at hb
    · simp only [Option.some.injEq] at hb; subst hb; exact hr

theorem rd_cells (ad : Addr) : ∀ (n s : Nat) (l : List α), l.length = n → (∀ i (h : i < l.length), H.cell? (ad.add (s + i)) = some (enc l[i])) → rdCells H ad s n = some (l.map enc)
  | 0, s, l, hn, _ => by have : l = [] := List.length_eq_zero_iff.mp hn; subst this; rfl
  | n + 1, s, l, hn, h => by
    cases l with
    | nil => simp at hn
    | cons x r =>
      simp only [rdCells]
      have h0 := h 0 (by simp)
      simp only [Nat.add_zero, List.getElem_cons_zero] at h0
      rw [h0, rd_cells ad n (s + 1) r (by simpa using hn) (fun i hi => by
        have := h (i + 1) (by simpa using hi)
        rw [show s + 1 + i = s + (i + 1) by omega]
        simpa using this)]
      rfl
theorem Sl.firstC (h : Sl enc H v l) : firstC H 1 l.length v = some (l.map enc) := by
  obtain ⟨a, c, rfl, hc, hr⟩ := h
  cases l with
  | nil => cases a <;> rfl
  | cons x r =>
    obtain ⟨ad, rfl, _⟩ := hr 0 (by simp)
    simp only [HL.firstC, Nat.mul_one]
    exact rd_cells ad _ 0 _ rfl (fun i hi => by obtain ⟨ad', e, hh⟩ := hr i hi; cases e; simpa using hh)
theorem Sl.lenO (h : Sl enc H v l) : lenO v = some l.length := by
  obtain ⟨a, c, rfl, hc, hr⟩ := h; rfl

theorem stC_run {K : Hp → Prop} {b : Nat} {e : TypeId} : ∀ (m : List Value) (ad : Addr) (i : Nat) (cs : Array Value) (H : Hp), ad.block = b → ad.spot = none → H b = some (.cells cs e (0, 0)) → ad.off + i + m.length ≤ cs.size →
    (∀ x ∈ m, oneCell x = true) →
    (∀ H' cs', H' b = some (.cells cs' e (0, 0)) → cs'.size = cs.size → (∀ j, j < ad.off + i → cs'[j]? = cs[j]?) → (∀ j (h : j < m.length), cs'[ad.off + i + j]? = some m[j]) → (∀ x, x ≠ b → H' x = H x) → K H') → stC ad K m i H
  | [], ad, i, cs, H, hb, hsp, hH, hs, ho, hk => hk H cs hH rfl (fun _ _ => rfl) (fun j h => absurd h (by simp)) (fun _ _ => rfl)
  | x :: m, ad, i, cs, H, hb, hsp, hH, hs, ho, hk => by
    obtain ⟨abk, aoff, asp⟩ := ad
    simp only at hb hsp hs hk
    subst hb hsp
    simp only [List.length_cons] at hs
    refine ⟨ho x (by simp), ?_, ?_, ?_⟩
    · simp only [Hp.cell?, add_none, hH]
      rw [Array.getElem?_eq_getElem (by omega)]; rfl
    · simp only [Hp.frozen?, add_none, hH]; simp
    · refine stC_run (b := abk) (e := e) m _ (i + 1) (cs.setIfInBounds (aoff + i) x) _ rfl rfl ?_ (by simp; omega) (fun y hy => ho y (by simp [hy])) ?_
      · simp only [Hp.setCell, add_none, hH, Hp.put_same]; rfl
      · intro H' cs' h1 h2 h3 h4 h5
        refine hk H' cs' h1 (by simpa using h2) ?_ ?_ ?_
        · intro j hj
          rw [h3 j (by simp only; omega), Array.getElem?_setIfInBounds_ne (by omega)]
        · intro j hj
          cases j with
          | zero =>
            rw [Nat.add_zero, h3 _ (by simp only; omega), Array.getElem?_setIfInBounds_self_of_lt (by omega)]; rfl
          | succ j =>
            have := h4 j (by simpa using hj)
            simp only at this
            rw [show aoff + i + (j + 1) = aoff + (i + 1) + j by omega, this]; rfl
        · intro x' hx'
          rw [h5 x' hx']
          simp only [Hp.setCell, add_none, hH]
          rw [Hp.put_ne _ _ hx']

/-- An append. -/
theorem Own.apd {bytes : Nat} {z : Value} {e : TypeId} {w : Value} {m : List α} {K : Value → Hp → Prop} (h : Own enc H v l) (hm : Sl enc H w m) (ho : ∀ x, oneCell (enc x) = true)
    (hb : l.length + m.length < 9223372036854775808) (hc : ∀ c, l.length + m.length > c → Builtin.nextslicecap (l.length + m.length) c * bytes ≤ 281474976710656)
    (hk : ∀ v' H', Own enc H' v' (l ++ m) → Off v H H' → (∀ b, bk v' = some b → bk v = some b ∨ H b = none) → K v' H') : apd 1 bytes #[z] e v w H K := by
  have hmf := hm.firstC
  have hml := hm.lenO
  have hlf := h.sl.firstC
  obtain ⟨a, c, rfl, hlc, hr⟩ := h
  simp only [HL.apd, hml]
  by_cases hcap : l.length + m.length ≤ c
  · rw [if_pos hcap]
    simp only [hmf]
    by_cases hc0 : c = 0
    · have hl : l = [] := List.length_eq_zero_iff.mp (by omega)
      have hm' : m = [] := List.length_eq_zero_iff.mp (by omega)
      subst hl hm' hc0
      have : K (.slice a (([] : List α).length + ([] : List α).length) 0) H := hk _ H ⟨a, 0, rfl, by simp, fun h0 => absurd h0 (by simp)⟩ (fun b o hb _ => hb) (fun b hb => by cases a <;> simp [bk] at hb)
      cases a with
      | none => exact this
      | some ad => exact this
    · obtain ⟨b, off, cs, e', rfl, hbb, hs, hcs⟩ := hr (by omega)
      simp only [add_none, Nat.mul_one]
      refine stC_run (b := b) (e := e') (m.map enc) _ 0 cs H rfl rfl hbb (by simp; omega) (by simp; intro x _; exact ho x) ?_
      intro H' cs' h1 h2 h3 h4 h5
      simp only [Nat.add_zero] at h3 h4
      refine hk _ H' ⟨some ⟨b, off, none⟩, c, by simp, by simpa using hcap, fun _ => ⟨b, off, cs', e', rfl, h1, by omega, ?_⟩⟩ ?_ ?_
      · intro i hi
        by_cases hil : i < l.length
        · rw [h3 _ (by omega), hcs i hil, List.getElem_append_left hil]
        · have := h4 (i - l.length) (by simp at hi ⊢; omega)
          rw [show off + l.length + (i - l.length) = off + i by omega] at this
          rw [this, List.getElem_append_right (by omega)]; simp
      · intro x o hx hne
        simp only [bk, if_neg hc0] at hne
        rw [h5 x (by rintro rfl; exact hne rfl)]; exact hx
      · intro x hx
        left; exact hx
  · rw [if_neg hcap]
    refine ⟨hb, hc c (by omega), ?_⟩
    simp only [hlf, hmf]
    intro c' hc1 hc2 r hr'
    refine hk _ _ ⟨some ⟨r, 0, none⟩, c', by simp, by simpa using hc1, fun _ => ⟨r, 0, _, e, rfl, Hp.put_same _ _ _, ?_, ?_⟩⟩ ?_ ?_
    · have : (Builtin.zeroCells #[z] (c' - (l.length + m.length))).size = c' - (l.length + m.length) := by simp [Builtin.zeroCells]
      simp [this]; omega
    · intro i hi
      rw [Nat.zero_add, Array.getElem?_append_left (by simpa using hi)]
      rw [← Array.getElem?_toList]
      simp only [Array.toList_append, ← List.map_append, List.getElem?_map]
      rw [List.getElem?_eq_getElem hi]; rfl
    · intro x o hx _
      rw [Hp.put_ne _ _ (by rintro rfl; rw [hr'] at hx; exact absurd hx (by simp))]; exact hx
    · intro x hx
      right
      simp only [bk] at hx
      split at hx
      · simp at hx
      · simp only [Option.some.injEq] at hx; subst hx; exact hr'
end
end Go.Proofs.YtijmoehbgkibnaaGreatDoor.HL
/- Values and loops over a partial heap: the rules that a proof of a function's text uses. -/
namespace Go.Proofs.YtijmoehbgkibnaaGreatDoor.HL
theorem cnd_i {b : Bool} {A B : Prop} (h1 : b = true → A) (h2 : b = false → B) : cnd (.bool b) A B := by
  cases b
  · exact h2 rfl
  · exact h1 rfl
theorem cnd_d {p : Prop} [Decidable p] {A B : Prop} (h1 : p → A) (h2 : ¬ p → B) : cnd (.bool (decide p)) A B := by
  by_cases h : p
  · rw [decide_eq_true h]; exact h1 h
  · rw [decide_eq_false h]; exact h2 h
theorem gop_tt (F : (Value → Hp → Prop) → Prop) (H : Hp) (K : Value → Hp → Prop) : gop (.bool true) true F H K = F K := rfl
theorem gop_ft (F : (Value → Hp → Prop) → Prop) (H : Hp) (K : Value → Hp → Prop) : gop (.bool false) true F H K = K undef H := rfl
theorem vPick_t (a b : Value) : vPick (.bool true) a b = some a := rfl
theorem vPick_f (a b : Value) : vPick (.bool false) a b = some b := rfl
theorem vExt_20 (a b : Value) : vExt (.tuple #[a, b]) 0 = some a := rfl
theorem vExt_21 (a b : Value) : vExt (.tuple #[a, b]) 1 = some b := rfl
theorem vExt_30 (a b c : Value) : vExt (.tuple #[a, b, c]) 0 = some a := rfl
theorem vExt_31 (a b c : Value) : vExt (.tuple #[a, b, c]) 1 = some b := rfl
theorem vExt_32 (a b c : Value) : vExt (.tuple #[a, b, c]) 2 = some c := rfl
theorem vExt_40 (a b c d : Value) : vExt (.tuple #[a, b, c, d]) 0 = some a := rfl
theorem vExt_41 (a b c d : Value) : vExt (.tuple #[a, b, c, d]) 1 = some b := rfl
theorem vExt_42 (a b c d : Value) : vExt (.tuple #[a, b, c, d]) 2 = some c := rfl
theorem vExt_43 (a b c d : Value) : vExt (.tuple #[a, b, c, d]) 3 = some d := rfl
theorem vUn_not (b : Bool) : vUn .not (.bool b) = some (.bool !b) := rfl
theorem vBool_neq (a b : Bool) : vBool .neq (.bool a) (.bool b) = some (.bool (!(a == b))) := rfl
theorem vInt_lss (k : IntKind) (a b : Int) : vInt .lss (.int k a) (.int k b) = some (.bool (decide (a < b))) := by simp [vInt]
theorem vInt_leq (k : IntKind) (a b : Int) : vInt .leq (.int k a) (.int k b) = some (.bool (decide (a ≤ b))) := by simp [vInt]
theorem vInt_gtr (k : IntKind) (a b : Int) : vInt .gtr (.int k a) (.int k b) = some (.bool (decide (b < a))) := by simp [vInt]
theorem vInt_geq (k : IntKind) (a b : Int) : vInt .geq (.int k a) (.int k b) = some (.bool (decide (b ≤ a))) := by simp [vInt]
theorem vInt_eql (k : IntKind) (a b : Int) : vInt .eql (.int k a) (.int k b) = some (.bool (decide (a = b))) := by
  simp only [vInt, if_true]; rfl
theorem vInt_neq (k : IntKind) (a b : Int) : vInt .neq (.int k a) (.int k b) = some (.bool (decide (a ≠ b))) := by
  simp only [vInt, if_true, bne, ne_eq, decide_not]; rfl
theorem wrap64 {x : Int} (h : -9223372036854775808 ≤ x) (h' : x < 9223372036854775808) : IntKind.i64.wrap x = x := by
  unfold IntKind.wrap; simp [IntKind.signed, IntKind.bits]; omega
theorem vInt_add {a b : Int} (h : -9223372036854775808 ≤ a + b) (h' : a + b < 9223372036854775808) : vInt .add (.int .i64 a) (.int .i64 b) = some (.int .i64 (a + b)) := by
  simp only [vInt, if_true, wrap64 h h']
theorem vInt_sub {a b : Int} (h : -9223372036854775808 ≤ a - b) (h' : a - b < 9223372036854775808) : vInt .sub (.int .i64 a) (.int .i64 b) = some (.int .i64 (a - b)) := by
  simp only [vInt, if_true, wrap64 h h']
theorem vInt_mul {a b : Int} (h : -9223372036854775808 ≤ a * b) (h' : a * b < 9223372036854775808) : vInt .mul (.int .i64 a) (.int .i64 b) = some (.int .i64 (a * b)) := by
  simp only [vInt, if_true, wrap64 h h']
theorem vInt_rem {a b : Int} (h : b ≠ 0) : vInt .rem (.int .i64 a) (.int .i64 b) = some (.int .i64 (a.tmod b)) := by
  simp only [vInt]; rw [if_pos ⟨trivial, h⟩]
theorem vInt_quo {a b : Int} (h : 0 < b) (h1 : -9223372036854775808 ≤ a) (h2 : a < 9223372036854775808) : vInt .quo (.int .i64 a) (.int .i64 b) = some (.int .i64 (a.tdiv b)) := by
  have e : IntKind.i64.wrap (a.tdiv b) = a.tdiv b := by
    have h3 := Int.natAbs_tdiv_le_natAbs a b
    by_cases h0 : 0 ≤ a
    · have := Int.tdiv_nonneg h0 (Int.le_of_lt h)
      exact wrap64 (by omega) (by omega)
    · have h4 := Int.tdiv_nonneg (a := -a) (by omega) (Int.le_of_lt h)
      rw [Int.neg_tdiv] at h4
      exact wrap64 (by omega) (by omega)
  simp only [vInt]; rw [if_pos ⟨trivial, by omega⟩, e]
theorem vCI_64 (k : IntKind) {a : Int} (h : -9223372036854775808 ≤ a) (h' : a < 9223372036854775808) : vCI .i64 (.int k a) = some (.int .i64 a) := by
  simp only [vCI, wrap64 h h']

/-- What is reckoned at once: the rules of straight code. -/
theorem EV : (∀ (a : Value) (K : Value → Prop), ob (some a) K = K a) ∧ (∀ F H K, gop (.bool true) true F H K = F K) ∧ (∀ F H K, gop (.bool false) true F H K = K undef H) ∧
    (∀ F H K, gop (.bool true) false F H K = K undef H) ∧ (∀ F H K, gop (.bool false) false F H K = F K) ∧ (∀ a b, vPick (.bool true) a b = some a) ∧ (∀ a b, vPick (.bool false) a b = some b) ∧
    (∀ b, vUn .not (.bool b) = some (.bool !b)) ∧ ((!true) = false) ∧ ((!false) = true) ∧ (∀ A B, cnd (.bool true) A B = A) ∧ (∀ A B, cnd (.bool false) A B = B) ∧
    (∀ a b, vBool .eql (.bool a) (.bool b) = some (.bool (a == b))) ∧ (∀ a b, vBool .neq (.bool a) (.bool b) = some (.bool (!(a == b)))) ∧ (∀ b : Bool, (b == b) = true) ∧
    (∀ k a b, vInt .neq (.int k a) (.int k b) = some (.bool (decide (a ≠ b)))) ∧ (∀ k a b, vInt .lss (.int k a) (.int k b) = some (.bool (decide (a < b)))) ∧ (∀ k a b, vInt .gtr (.int k a) (.int k b) = some (.bool (decide (b < a)))) ∧
    (∀ k a b, vInt .leq (.int k a) (.int k b) = some (.bool (decide (a ≤ b)))) ∧ (∀ k a b, vInt .geq (.int k a) (.int k b) = some (.bool (decide (b ≤ a)))) ∧ (∀ k a b, vInt .eql (.int k a) (.int k b) = some (.bool (decide (a = b)))) ∧
    (∀ a : Int, decide (a ≠ a) = false) ∧ (∀ a : Int, decide (a = a) = true) ∧ (decide False = false) ∧ (decide True = true) ∧
    (∀ a b, vExt (.tuple #[a, b]) 0 = some a) ∧ (∀ a b, vExt (.tuple #[a, b]) 1 = some b) ∧ (∀ a b c, vExt (.tuple #[a, b, c]) 0 = some a) ∧ (∀ a b c, vExt (.tuple #[a, b, c]) 1 = some b) ∧ (∀ a b c, vExt (.tuple #[a, b, c]) 2 = some c) ∧
    (∀ a b c d, vExt (.tuple #[a, b, c, d]) 0 = some a) ∧ (∀ a b c d, vExt (.tuple #[a, b, c, d]) 1 = some b) ∧ (∀ a b c d, vExt (.tuple #[a, b, c, d]) 2 = some c) ∧ (∀ a b c d, vExt (.tuple #[a, b, c, d]) 3 = some d) :=
  ⟨fun _ _ => rfl, fun _ _ _ => rfl, fun _ _ _ => rfl, fun _ _ _ => rfl, fun _ _ _ => rfl, fun _ _ => rfl, fun _ _ => rfl, fun _ => rfl, rfl, rfl, fun _ _ => rfl, fun _ _ => rfl,
    fun _ _ => rfl, fun _ _ => rfl, fun b => by simp, fun _ _ _ => vInt_neq _ _ _, fun _ _ _ => vInt_lss _ _ _, fun _ _ _ => vInt_gtr _ _ _, fun _ _ _ => vInt_leq _ _ _, fun _ _ _ => vInt_geq _ _ _, fun _ _ _ => vInt_eql _ _ _,
    fun a => by simp, fun a => by simp, by simp, by simp, fun _ _ => rfl, fun _ _ => rfl, fun _ _ _ => rfl, fun _ _ _ => rfl, fun _ _ _ => rfl, fun _ _ _ _ => rfl, fun _ _ _ _ => rfl, fun _ _ _ _ => rfl, fun _ _ _ _ => rfl⟩

theorem ob_i {α : Type} {x : Option α} {a : α} {K : α → Prop} (h : x = some a) (hk : K a) : ob x K := by rw [h]; exact hk
theorem cnd_t1 {A B : Prop} (h : A) : cnd (.bool true) A B := h
theorem cnd_f1 {A B : Prop} (h : B) : cnd (.bool false) A B := h
theorem gop_rt {F : (Value → Hp → Prop) → Prop} {H : Hp} {K : Value → Hp → Prop} (h : F K) : gop (.bool true) true F H K := h
theorem gop_rf {F : (Value → Hp → Prop) → Prop} {H : Hp} {K : Value → Hp → Prop} (h : F K) : gop (.bool false) false F H K := h
theorem gop_st {F : (Value → Hp → Prop) → Prop} {H : Hp} {K : Value → Hp → Prop} (h : K undef H) : gop (.bool true) false F H K := h
theorem gop_sf {F : (Value → Hp → Prop) → Prop} {H : Hp} {K : Value → Hp → Prop} (h : K undef H) : gop (.bool false) true F H K := h
theorem Own.one {α : Type} {enc : α → Value} {H : Hp} {v : Value} {l : List α} (h : Own enc H v l) : oneCell v = true := by
  obtain ⟨a, c, rfl, _⟩ := h; rfl
theorem Own.cells {α : Type} {enc : α → Value} {H : Hp} {v : Value} {l : List α} (h : Own enc H v l) : v.cells = #[v] := by
  obtain ⟨a, c, rfl, _⟩ := h; rfl
theorem Sl.one {α : Type} {enc : α → Value} {H : Hp} {v : Value} {l : List α} (h : Sl enc H v l) : oneCell v = true := by
  obtain ⟨a, c, rfl, _⟩ := h; rfl
theorem Sl.cells {α : Type} {enc : α → Value} {H : Hp} {v : Value} {l : List α} (h : Sl enc H v l) : v.cells = #[v] := by
  obtain ⟨a, c, rfl, _⟩ := h; rfl

/-- A loop's next round. -/
theorem nxt {I : Nat → S → Hp → Prop} {Q : Exit → S → Hp → Prop} {σ : S} {H : Hp} {n : Nat} (m : Nat) (hm : m < n) (h : I m σ H) : thenQ (fun σ' H' => ∃ m, m < n ∧ I m σ' H') Q .normal σ H := ⟨m, hm, h⟩
theorem retK {K : Value → Hp → Prop} {v v' : Value} {H : Hp} (e : v = v') (h : K v' H) : K v H := e ▸ h

/-- Several ways that meet: what holds where they meet. -/
theorem jn_i {K : S → Hp → Prop} {F : (S → Hp → Prop) → Prop} (P : S → Hp → Prop) (h : ∀ σ H, P σ H → K σ H) (hf : ∀ J : S → Hp → Prop, (∀ σ H, P σ H → J σ H) → F J) : jn K F := hf K h

theorem kF {p : Prop} [Decidable p] {K : Value → Hp → Prop} {H : Hp} (hk : K (.bool (decide p)) H) (h : ¬ p) : K (.bool false) H := by rw [decide_eq_false h] at hk; exact hk
theorem kT {p : Prop} [Decidable p] {K : Value → Hp → Prop} {H : Hp} (hk : K (.bool (decide p)) H) (h : p) : K (.bool true) H := by rw [decide_eq_true h] at hk; exact hk
theorem kQ {p q : Prop} [Decidable p] [Decidable q] {K : Value → Hp → Prop} {H : Hp} (hk : K (.bool (decide p)) H) (h : p ↔ q) : K (.bool (decide q)) H := by rw [decide_eq_decide.mpr h] at hk; exact hk

/-! ### copies -/
theorem growBy_le (n : Nat) : ∀ (r c : Nat), Builtin.growBy n r c ≤ max c (n + (n + 768) / 4)
  | 0, c => by simp only [Builtin.growBy]; omega
  | r + 1, c => by
    simp only [Builtin.growBy]
    split
    · omega
    · have := growBy_le n r (c + (c + 768) / 4)
      omega
theorem nsc_le {n c : Nat} (h : n > c) : Builtin.nextslicecap n c ≤ 2 * n + 1024 := by
  unfold Builtin.nextslicecap
  split
  · omega
  · split
    · omega
    · have := growBy_le n 4 c; omega
theorem bS_nil {α : Type} {enc : α → Value} {z : Value} {sz : Nat} {e : TypeId} {H : Hp} {K : Value → Hp → Prop} (hk : ∀ v H', Own enc H' v [] → Nw H v → bk v = none → Le H H' → K v H') : bS sz 0 #[z] e [] H K := by
  refine ⟨by simp, ?_⟩
  rw [if_pos (by simp)]
  show match some (#[] : Array Value) with
    | some cells => ∀ r, H r = none → K (.slice (some ⟨r, 0, none⟩) 0 0) (H.put r (.cells cells e))
    | none => False
  intro r hr
  refine hk _ _ ⟨some ⟨r, 0, none⟩, 0, rfl, by simp, fun h0 => absurd h0 (by simp)⟩ ?_ rfl (Le.put _ hr)
  intro b hb
  simp [bk] at hb
/-- An append to an empty slice of its own: a copy. -/
theorem apd_nil {α : Type} {enc : α → Value} {z : Value} {b : Nat} {e : TypeId} {a v1 : Value} {l : List α} {H : Hp} {K : Value → Hp → Prop} (o1 : Own enc H v1 []) (k1 : bk v1 = none) (ha : Sl enc H a l) (ho : ∀ x, oneCell (enc x) = true) (hb : b ≤ 64) (hl : l.length ≤ 68719476736)
    (hk : ∀ v H', Own enc H' v l → Nw H v → Le H H' → K v H') : apd 1 b #[z] e v1 a H K := by
  refine o1.apd ha ho (by simp; omega) (fun c hc => ?_) (fun v2 H2 o2 off2 hbk => ?_)
  · have := nsc_le hc
    simp only [List.length_nil, Nat.zero_add] at this ⊢
    exact Nat.le_trans (Nat.mul_le_mul this hb) (by omega)
  · rw [List.nil_append] at o2
    refine hk v2 H2 o2 (fun x hx => ?_) (fun x o hx => off2 x o hx (by rw [k1]; simp))
    rcases hbk x hx with h | h
    · rw [k1] at h; simp at h
    · exact h
theorem Own.isSl {α : Type} {enc : α → Value} {H : Hp} {v : Value} {l : List α} (h : Own enc H v l) : ∃ a n c, v = .slice a n c := by
  obtain ⟨a, c, h, _⟩ := h; exact ⟨_, _, _, h⟩
theorem Sl.isSl {α : Type} {enc : α → Value} {H : Hp} {v : Value} {l : List α} (h : Sl enc H v l) : ∃ a n c, v = .slice a n c := by
  obtain ⟨a, c, h, _⟩ := h; exact ⟨_, _, _, h⟩
/-- A copy of a slice: an append to an empty one. -/
theorem clone_i {α : Type} {enc : α → Value} {z z' : Value} {sz b : Nat} {e e' : TypeId} {a : Value} {l : List α} {H : Hp} {K : Value → Value → Hp → Prop} (ha : Sl enc H a l) (ho : ∀ x, oneCell (enc x) = true) (hb : b ≤ 64) (hl : l.length ≤ 68719476736)
    (hk : ∀ v1 v H', Own enc H' v l → Nw H v → Le H H' → K v1 v H') : bS sz 0 #[z] e [] H (fun v1 H1 => apd 1 b #[z'] e' v1 a H1 (K v1)) := by
  refine bS_nil (enc := enc) (fun v1 H1 o1 n1 k1 le1 => ?_)
  refine o1.apd (ha.le le1) ho (by simp; omega) (fun c hc => ?_) (fun v2 H2 o2 off2 hbk => ?_)
  · have := nsc_le hc
    simp only [List.length_nil, Nat.zero_add] at this ⊢
    exact Nat.le_trans (Nat.mul_le_mul this hb) (by omega)
  · rw [List.nil_append] at o2
    have hle : Le H1 H2 := fun x o hx => off2 x o hx (by rw [k1]; simp)
    refine hk v1 v2 H2 o2 (fun x hx => ?_) (le1.trans hle)
    rcases hbk x hx with h | h
    · rw [k1] at h; simp at h
    · cases ho : H x with
      | none => rfl
      | some o => rw [le1 x o ho] at h; simp at h

/-! ### lists by index -/
theorem at_eq {α : Type} (d : α) (l : List α) {i : Nat} (h : i < l.length) : at_ d l (i : Int) = l[i] := by
  unfold at_; rw [Int.toNat_natCast, List.getD_eq_getElem?_getD, List.getElem?_eq_getElem h]; rfl
theorem take_at {α : Type} (d : α) (l : List α) {i : Nat} (h : i < l.length) : l.take (i + 1) = l.take i ++ [at_ d l (i : Int)] := by
  rw [at_eq d l h, List.take_append_getElem h]
theorem at_mem {α : Type} (d : α) (l : List α) {i : Int} (h0 : 0 ≤ i) (h : i < l.length) : at_ d l i ∈ l := by
  have hn : i.toNat < l.length := by omega
  unfold at_; rw [List.getD_eq_getElem?_getD, List.getElem?_eq_getElem hn]; exact List.getElem_mem hn
end Go.Proofs.YtijmoehbgkibnaaGreatDoor.HL
/- Texts: bytes in a row. -/
namespace Go.Proofs.YtijmoehbgkibnaaGreatDoor.HL
set_option maxRecDepth 100000
/-- A text of some bytes. -/
def tS (l : List UInt8) : ByteArray := ⟨l.toArray⟩
abbrev vS (l : List UInt8) : Value := .string (tS l)
theorem tS_size (l : List UInt8) : (tS l).size = l.length := rfl
theorem tS_data (l : List UInt8) : (tS l).data.toList = l := rfl
theorem tS_toList (l : List UInt8) : (tS l).toList = l := by rw [ByteArray.toList_eq]; rfl
theorem tS_of (b : ByteArray) : b = tS b.data.toList := by cases b; rfl
theorem tS_append (a b : List UInt8) : tS a ++ tS b = tS (a ++ b) := by
  have h : ∀ {x y : ByteArray}, x.data.toList = y.data.toList → x = y := fun {x y} h => by
    cases x; cases y; simp only [ByteArray.mk.injEq]; exact Array.toList_inj.mp h
  apply h
  rw [ByteArray.data_append, Array.toList_append]
  rfl
theorem vStr_add {a b : List UInt8} (h : a.length + b.length ≤ 9223372036854775807) : vStr .add (vS a) (vS b) = some (vS (a ++ b)) := by
  simp only [vStr, tS_size, tS_append]
  rw [if_pos]
  have e : IntKind.i64.max = 9223372036854775807 := by decide
  rw [e]; omega
theorem vStr_eql (a b : List UInt8) : vStr .eql (vS a) (vS b) = some (.bool (decide (a = b))) := by
  simp only [vStr, tS_toList]
  congr 2
  by_cases h : a = b
  · simp [h]
  · simp [h]
theorem vStr_neq (a b : List UInt8) : vStr .neq (vS a) (vS b) = some (.bool (decide (a ≠ b))) := by
  simp only [vStr, tS_toList]
  congr 2
  by_cases h : a = b
  · simp [h]
  · simp [h]
theorem vStr_neq_same (a : List UInt8) : vStr .neq (vS a) (vS a) = some (.bool false) := by rw [vStr_neq]; simp
theorem vLenS_t (a : List UInt8) : vLenS (vS a) = some (.int .i64 a.length) := rfl
theorem vIndexS_t {a : List UInt8} {k : IntKind} {i : Int} (h0 : 0 ≤ i) (h1 : i < a.length) : vIndexS (vS a) (.int k i) = some (.int .u8 ((at_ 0 a i).toNat : Int)) := by
  have hi : i.toNat < a.length := by omega
  have e : (tS a)[i.toNat]? = some a[i.toNat] := by
    show (if h : i.toNat < (tS a).size then some ((tS a)[i.toNat]) else none) = _
    rw [dif_pos (show i.toNat < (tS a).size from hi)]
    rfl
  simp only [vIndexS]
  rw [if_pos h0, e]
  simp only [Option.map_some, at_, List.getD_eq_getElem?_getD, List.getElem?_eq_getElem hi, Option.getD_some]
theorem tS_extract (a : List UInt8) (l h : Nat) : (tS a).extract l h = tS ((a.drop l).take (h - l)) := by
  have hh : ∀ {x y : ByteArray}, x.data.toList = y.data.toList → x = y := fun {x y} h => by
    cases x; cases y; simp only [ByteArray.mk.injEq]; exact Array.toList_inj.mp h
  apply hh
  rw [ByteArray.data_extract, Array.toList_extract, List.extract_eq_take_drop]
  rfl
theorem vSlS_t {a : List UInt8} {k k' : IntKind} {l h : Int} (l0 : 0 ≤ l) (lh : l ≤ h) (h1 : h ≤ a.length) : vSlS (vS a) (some (.int k l)) (some (.int k' h)) = some (vS ((a.drop l.toNat).take (h.toNat - l.toNat))) := by
  have e := tS_size a
  simp only [vSlS, bnd, e]
  rw [if_pos ⟨by omega, by omega⟩]
  simp only
  rw [if_pos ⟨by omega, by omega⟩]
  simp only [tS_extract]
theorem vSlS_lo {a : List UInt8} {k : IntKind} {l : Int} (l0 : 0 ≤ l) (h1 : l ≤ a.length) : vSlS (vS a) (some (.int k l)) none = some (vS (a.drop l.toNat)) := by
  have e := tS_size a
  simp only [vSlS, bnd, e]
  rw [if_pos ⟨by omega, by omega⟩]
  simp only [tS_extract]
  rw [List.take_of_length_le (by simp)]
theorem vSlS_hi {a : List UInt8} {k : IntKind} {h : Int} (h0 : 0 ≤ h) (h1 : h ≤ a.length) : vSlS (vS a) none (some (.int k h)) = some (vS (a.take h.toNat)) := by
  have e := tS_size a
  simp only [vSlS, bnd, e]
  rw [if_pos ⟨by omega, by omega⟩]
  simp only [tS_extract, List.drop_zero, Nat.sub_zero]
end Go.Proofs.YtijmoehbgkibnaaGreatDoor.HL
/- Functions' texts over a partial heap. -/
namespace Go.Proofs.YtijmoehbgkibnaaGreatDoor
open HL
set_option linter.unusedVariables false
set_option maxRecDepth 100000
set_option maxHeartbeats 4000000
/-! loop.example/g01381/laws.b10Long: function 4 -/
def F.laws_b10Long (a0 a1 : Value) (H : Hp) (K : Value → Hp → Prop) : Prop :=
  ob (vLenSl a0) fun v6x1 =>
  ob (vInt .gtr v6x1 (.int .i64 1048576)) fun v7x2 =>
  gop v7x2 false (fun K3 => K3 a1 H) H fun v9x4 H5 =>
  gop v7x2 false (fun K6 => ob (vLenSl v9x4) fun u => K6 u H5) H5 fun v10x7 H8 =>
  gop v7x2 false (fun K9 => ob (vInt .gtr v10x7 (.int .i64 1048576)) fun u => K9 u H8) H8 fun v11x10 H11 =>
  ob (vPick v7x2 (.bool true) v11x10) fun v12x12 =>
  K v12x12 H11
def O.laws_b10Long : Nat → Nat × List Nat := fun i => (0, [])
theorem R.laws_b10Long {a0 a1 : Value} {H : Hp} {K : Value → Hp → Prop} (h : F.laws_b10Long a0 a1 H K) : HT prg I.laws_b10Long [a0, a1].toArray H K :=
  HT_of_fev O.laws_b10Long mixed Tryz.func4 (by kernel_rfl) (Eq.mpr (by kernel_rfl : fev prg O.laws_b10Long Tryz.f4 [a0, a1] H K = F.laws_b10Long a0 a1 H K) h)

/-! loop.example/g01381/laws.b10At: function 5 -/
def F.laws_b10At (a0 a1 a2 : Value) (H : Hp) (K : Value → Hp → Prop) : Prop :=
  ob (vInt .leq a2 (.int .i64 1)) fun v8x1 =>
  cnd v8x1
    (K (.int .i64 0) H)
    (ob (vLenSl a0) fun v11x2 =>
  ob (vInt .lss a1 v11x2) fun v12x3 =>
  cnd v12x3
    (ob (vIx 1 a0 a1) fun v15x4 =>
    ob (vLoad v15x4 H) fun v16x5 =>
    ob (vCI .i64 v16x5) fun v17x6 =>
    ob (vInt .rem v17x6 a2) fun v19x7 =>
    K v19x7 H)
    (ob (vInt .mul a1 (.int .i64 37)) fun v21x8 =>
  ob (vInt .add v21x8 (.int .i64 11)) fun v22x9 =>
  ob (vInt .rem v22x9 a2) fun v24x10 =>
  K v24x10 H))
def O.laws_b10At : Nat → Nat × List Nat := fun i => (0, [])
theorem R.laws_b10At {a0 a1 a2 : Value} {H : Hp} {K : Value → Hp → Prop} (h : F.laws_b10At a0 a1 a2 H K) : HT prg I.laws_b10At [a0, a1, a2].toArray H K :=
  HT_of_fev O.laws_b10At mixed Tryz.func5 (by kernel_rfl) (Eq.mpr (by kernel_rfl : fev prg O.laws_b10At Tryz.f5 [a0, a1, a2] H K = F.laws_b10At a0 a1 a2 H K) h)

/-! loop.example/g01381/spec.l00From: function 19 -/
def F.spec_l00From (a0 : Value) (H : Hp) (K : Value → Hp → Prop) : Prop :=
  ob (vBuild [(0, 1), (1, 1), (2, 1)] (.agg #[(.slice none 0 0), (.int .i64 0), (.int .u64 0)]) [(0, a0)]) fun v4x1 =>
  nw (v4x1 : Value).cells 75 H fun v5x2 H3 =>
  K v5x2 H3
def O.spec_l00From : Nat → Nat × List Nat := fun i => (0, [])
theorem R.spec_l00From {a0 : Value} {H : Hp} {K : Value → Hp → Prop} (h : F.spec_l00From a0 H K) : HT prg I.spec_l00From [a0].toArray H K :=
  HT_of_fev O.spec_l00From mixed Tryz.func19 (by kernel_rfl) (Eq.mpr (by kernel_rfl : fev prg O.spec_l00From Tryz.f19 [a0] H K = F.spec_l00From a0 H K) h)

/-! (*loop.example/g01381/spec.l00Src).next: function 89 -/
def F.pspec_l00Src_next (a0 : Value) (H : Hp) (K : Value → Hp → Prop) : Prop :=
  jn (fun σ1 H1 =>
    ob (vNilC (σ1 0)) fun v26x2 =>
    ob (vFa 1 v26x2) fun v27x3 =>
    ob (vLoad v27x3 H1) fun v28x4 =>
    ob (vInt .add v28x4 (.int .i64 1)) fun v29x5 =>
    ob (vNilC (σ1 0)) fun v30x6 =>
    ob (vFa 1 v30x6) fun v31x7 =>
    st 1 v31x7 v29x5 H1 fun H8 =>
    ob (vNilC (σ1 0)) fun v34x9 =>
    ob (vFa 2 v34x9) fun v35x10 =>
    ob (vLoad v35x10 H8) fun v36x11 =>
    ob (vInt .mul v36x11 (.int .u64 6364136223846793005)) fun v37x12 =>
    ob (vCI .u64 (σ1 3)) fun v39x13 =>
    ob (vInt .add v37x12 v39x13) fun v40x14 =>
    ob (vInt .add v40x14 (.int .u64 1442695040888963407)) fun v41x15 =>
    ob (vNilC (σ1 0)) fun v42x16 =>
    ob (vFa 2 v42x16) fun v43x17 =>
    st 1 v43x17 v41x15 H8 fun H18 =>
    ob (vNilC (σ1 0)) fun v45x19 =>
    ob (vFa 1 v45x19) fun v46x20 =>
    ob (vLoad v46x20 H18) fun v47x21 =>
    ob (vNilC (σ1 0)) fun v49x22 =>
    ob (vFa 0 v49x22) fun v50x23 =>
    ob (vLoad v50x23 H18) fun v51x24 =>
    ob (vLenSl v51x24) fun v52x25 =>
    ob (vInt .leq v47x21 v52x25) fun v53x26 =>
    cnd v53x26
      (K (σ1 3) H18)
      (ob (vNilC (σ1 0)) fun v56x27 =>
    ob (vFa 2 v56x27) fun v57x28 =>
    ob (vLoad v57x28 H18) fun v58x29 =>
    ob (vInt .shr v58x29 (.int .u64 40)) fun v59x30 =>
    ob (vInt .and v59x30 (.int .u64 255)) fun v60x31 =>
    ob (vCI .i64 v60x31) fun v61x32 =>
    K v61x32 H18)) fun J1 =>
  ob (vNilC a0) fun v5x33 =>
  ob (vFa 1 v5x33) fun v6x34 =>
  ob (vLoad v6x34 H) fun v7x35 =>
  ob (vNilC a0) fun v9x36 =>
  ob (vFa 0 v9x36) fun v10x37 =>
  ob (vLoad v10x37 H) fun v11x38 =>
  ob (vLenSl v11x38) fun v12x39 =>
  ob (vInt .lss v7x35 v12x39) fun v13x40 =>
  cnd v13x40
    (ob (vNilC a0) fun v15x41 =>
    ob (vFa 0 v15x41) fun v16x42 =>
    ob (vLoad v16x42 H) fun v17x43 =>
    ob (vNilC a0) fun v19x44 =>
    ob (vFa 1 v19x44) fun v20x45 =>
    ob (vLoad v20x45 H) fun v21x46 =>
    ob (vIx 1 v17x43 v21x46) fun v22x47 =>
    ob (vLoad v22x47 H) fun v23x48 =>
    ob (vCI .i64 v23x48) fun v24x49 =>
    J1 (up (up (up (up (up (up (up (up (up (up (up (up (up (up (up (up (up (up (up (up (up (up (up (up (S0 [a0]) 2 (.int .i64 0)) 3 (.int .i64 0)) 4 a0) 5 v5x33) 6 v6x34) 7 v7x35) 8 a0) 9 v9x36) 10 v10x37) 11 v11x38) 12 v12x39) 13 v13x40) 14 a0) 15 v15x41) 16 v16x42) 17 v17x43) 18 a0) 19 v19x44) 20 v20x45) 21 v21x46) 22 v22x47) 23 v23x48) 24 v24x49) 3 v24x49) H)
    (J1 (up (up (up (up (up (up (up (up (up (up (up (up (S0 [a0]) 2 (.int .i64 0)) 3 (.int .i64 0)) 4 a0) 5 v5x33) 6 v6x34) 7 v7x35) 8 a0) 9 v9x36) 10 v10x37) 11 v11x38) 12 v12x39) 13 v13x40) H)
def O.pspec_l00Src_next : Nat → Nat × List Nat := fun i => bif Nat.beq i 6 then (0, [0, 1, 2, 3, 4, 5, 6, 7, 8, 9]) else bif Nat.beq i 2 then (0, [0, 1, 2, 3, 4, 5, 6, 7, 8, 9]) else bif Nat.beq i 3 then (0, [0, 1, 2, 3, 4, 5, 6, 7, 8, 9, 10, 11]) else (0, [])
theorem R.pspec_l00Src_next {a0 : Value} {H : Hp} {K : Value → Hp → Prop} (h : F.pspec_l00Src_next a0 H K) : HT prg I.pspec_l00Src_next [a0].toArray H K :=
  HT_of_fev O.pspec_l00Src_next mixed Tryz.func89 (by kernel_rfl) (Eq.mpr (by kernel_rfl : fev prg O.pspec_l00Src_next Tryz.f89 [a0] H K = F.pspec_l00Src_next a0 H K) h)

/-! (*loop.example/g01381/spec.l00Src).pick: function 67 -/
def F.pspec_l00Src_pick (a0 a1 : Value) (H : Hp) (K : Value → Hp → Prop) : Prop :=
  ob (vInt .leq a1 (.int .i64 1)) fun v7x1 =>
  cnd v7x1
    (K (.int .i64 0) H)
    (HT prg I.pspec_l00Src_next [a0].toArray H fun v9x2 H3 =>
  ob (vInt .gtr a1 (.int .i64 200)) fun v11x4 =>
  cnd v11x4
    (ob (vInt .mul v9x2 (.int .i64 256)) fun v13x5 =>
    HT prg I.pspec_l00Src_next [a0].toArray H3 fun v15x6 H7 =>
    ob (vInt .add v13x5 v15x6) fun v16x8 =>
    ob (vInt .rem v16x8 a1) fun v19x9 =>
  K v19x9 H7)
    (ob (vInt .rem v9x2 a1) fun v19x10 =>
  K v19x10 H3))
def O.pspec_l00Src_pick : Nat → Nat × List Nat := fun i => (0, [])
theorem R.pspec_l00Src_pick {a0 a1 : Value} {H : Hp} {K : Value → Hp → Prop} (h : F.pspec_l00Src_pick a0 a1 H K) : HT prg I.pspec_l00Src_pick [a0, a1].toArray H K :=
  HT_of_fev O.pspec_l00Src_pick mixed Tryz.func67 (by kernel_rfl) (Eq.mpr (by kernel_rfl : fev prg O.pspec_l00Src_pick Tryz.f67 [a0, a1] H K = F.pspec_l00Src_pick a0 a1 H K) h)

/-! loop.example/g01381/spec.l04DrawStates: function 43 -/
def F.spec_l04DrawStatesX (a0 a1 a2 a3 : Value) (H : Hp) (K : Value → Hp → Prop) : Prop :=
  nw #[(.int .i64 0), (.int .i64 0), (.slice none 0 0)] 27 H fun v8x1 H2 =>
  ob (vBuild [(0, 1), (1, 1), (2, 1)] (.agg #[(.int .i64 0), (.int .i64 0), (.slice none 0 0)]) [(0, a1), (1, a2)]) fun v13x3 =>
  nw #[(.int .i64 0), (.int .i64 0), (.slice none 0 0)] 27 H2 fun v9x4 H5 =>
  st 3 v9x4 v13x3 H5 fun H6 =>
  jn (fun σ7 H7 =>
    ob (vLoadN 3 (σ7 9) H7) fun v29x8 =>
    st 3 (σ7 8) v29x8 H7 fun H9 =>
    ob (vLoadN 3 (σ7 8) H9) fun u10 => K u10 H9) fun J7 =>
  ob (vInt .mul a1 a2) fun v16x11 =>
  lpE (fun Q12 σ12 H12 =>
    ob (vInt .gtr (σ12 10) (.int .i64 0)) fun v18x13 =>
    cnd v18x13
      ((ob (vFa 2 (σ12 9)) fun v21x14 =>
    ob (vLoad v21x14 H12) fun v22x15 =>
    HT prg I.pspec_l00Src_pick [(σ12 0), (σ12 3)].toArray H12 fun v25x16 H17 =>
    bS 1 1 #[(.int .i64 0)] 2 [(0, v25x16)] H17 fun v26x18 H19 =>
    apd 1 8 #[(.int .i64 0)] 2 v22x15 v26x18 H19 fun v27x20 H21 =>
    ob (vFa 2 (σ12 9)) fun v28x22 =>
    st 1 v28x22 v27x20 H21 fun H23 =>
    ob (vInt .sub (σ12 10) (.int .i64 1)) fun v20x24 =>
    Q12 .normal (up (up (up (up (up (up (up (up (up (up (up (up (up σ12 17 (σ12 10)) 18 v18x13) 21 v21x14) 22 v22x15) 23 (σ12 0)) 24 (σ12 3)) 25 v25x16) 26 v26x18) 27 v27x20) 28 v28x22) 19 (σ12 10)) 20 v20x24) 10 v20x24) H23) ∧ (ob (vFa 2 (σ12 9)) fun v21x25 =>
    HT prg I.pspec_l00Src_pick [(σ12 0), (σ12 3)].toArray H12 fun v25x26 H27 =>
    ob (vLoad v21x25 H27) fun v22x28 =>
    bS 1 1 #[(.int .i64 0)] 2 [(0, v25x26)] H27 fun v26x29 H30 =>
    apd 1 8 #[(.int .i64 0)] 2 v22x28 v26x29 H30 fun v27x31 H32 =>
    ob (vFa 2 (σ12 9)) fun v28x33 =>
    st 1 v28x33 v27x31 H32 fun H34 =>
    ob (vInt .sub (σ12 10) (.int .i64 1)) fun v20x35 =>
    Q12 .normal (up (up (up (up (up (up (up (up (up (up (up (up (up σ12 17 (σ12 10)) 18 v18x13) 21 v21x25) 23 (σ12 0)) 24 (σ12 3)) 25 v25x26) 22 v22x28) 26 v26x29) 27 v27x31) 28 v28x33) 19 (σ12 10)) 20 v20x35) 10 v20x35) H34))
      (Q12 (.exit 0) (up (up σ12 17 (σ12 10)) 18 v18x13) H12)) (blkQ 0 (thenQ J7 (retQ prg [(.cell 8 27)] K))) (up (up (up (up (up (up (up (up (up (S0 [a0, a1, a2, a3]) 8 v8x1) 11 a1) 12 a2) 13 v13x3) 9 v9x4) 14 a1) 15 a2) 16 v16x11) 10 v16x11) H6
def O.spec_l04DrawStatesX : Nat → Nat × List Nat := fun i => bif Nat.beq i 5 then (2, [1001, 1004, 0, 1, 2, 3, 4, 5, 6, 7, 8, 0, 2, 3, 4, 1, 5, 6, 7, 8]) else (0, [])
theorem R.spec_l04DrawStatesX {a0 a1 a2 a3 : Value} {H : Hp} {K : Value → Hp → Prop} (h : F.spec_l04DrawStatesX a0 a1 a2 a3 H K) : HT prg I.spec_l04DrawStates [a0, a1, a2, a3].toArray H K :=
  HT_of_fev O.spec_l04DrawStatesX mixed Tryz.func43 (by kernel_rfl) (Eq.mpr (by kernel_rfl : fev prg O.spec_l04DrawStatesX Tryz.f43 [a0, a1, a2, a3] H K = F.spec_l04DrawStatesX a0 a1 a2 a3 H K) h)

/-! loop.example/g01381/spec.l04DrawOk: function 20 -/
def F.spec_l04DrawOk (a0 a1 a2 : Value) (H : Hp) (K : Value → Hp → Prop) : Prop :=
  nw #[(.int .i64 0), (.int .i64 0), (.slice none 0 0)] 27 H fun v6x1 H2 =>
  HT prg I.spec_l04DrawStates [a0, a1, a2, (.int .i64 2)].toArray H2 fun v10x3 H4 =>
  st 3 v6x1 v10x3 H4 fun H5 =>
  ob (vLoadN 3 v6x1 H5) fun u6 => K u6 H5
def O.spec_l04DrawOk : Nat → Nat × List Nat := fun i => (0, [])
theorem R.spec_l04DrawOk {a0 a1 a2 : Value} {H : Hp} {K : Value → Hp → Prop} (h : F.spec_l04DrawOk a0 a1 a2 H K) : HT prg I.spec_l04DrawOk [a0, a1, a2].toArray H K :=
  HT_of_fev O.spec_l04DrawOk mixed Tryz.func20 (by kernel_rfl) (Eq.mpr (by kernel_rfl : fev prg O.spec_l04DrawOk Tryz.f20 [a0, a1, a2] H K = F.spec_l04DrawOk a0 a1 a2 H K) h)

/-! loop.example/g01381/spec.B10Plain: function 6 -/
def F.spec_B10Plain (a0 a1 a2 : Value) (H : Hp) (K : Value → Hp → Prop) : Prop :=
  nw #[(.int .i64 0), (.int .i64 0), (.slice none 0 0)] 27 H fun v6x1 H2 =>
  HT prg I.spec_l00From [a0].toArray H2 fun v9x3 H4 =>
  HT prg I.spec_l04DrawOk [v9x3, a1, a2].toArray H4 fun v13x5 H6 =>
  st 3 v6x1 v13x5 H6 fun H7 =>
  ob (vLoadN 3 v6x1 H7) fun u8 => K u8 H7
def O.spec_B10Plain : Nat → Nat × List Nat := fun i => (0, [])
theorem R.spec_B10Plain {a0 a1 a2 : Value} {H : Hp} {K : Value → Hp → Prop} (h : F.spec_B10Plain a0 a1 a2 H K) : HT prg I.spec_B10Plain [a0, a1, a2].toArray H K :=
  HT_of_fev O.spec_B10Plain mixed Tryz.func6 (by kernel_rfl) (Eq.mpr (by kernel_rfl : fev prg O.spec_B10Plain Tryz.f6 [a0, a1, a2] H K = F.spec_B10Plain a0 a1 a2 H K) h)

/-! loop.example/g01381/impl.within: function 39 -/
def F.impl_within (a0 a1 a2 : Value) (H : Hp) (K : Value → Hp → Prop) : Prop :=
  ob (vInt .geq a0 a1) fun v9x1 =>
  gop v9x1 true (fun K2 => K2 a0 H) H fun v11x3 H4 =>
  gop v9x1 true (fun K5 => K5 a2 H4) H4 fun v12x6 H7 =>
  gop v9x1 true (fun K8 => ob (vInt .leq v11x3 v12x6) fun u => K8 u H7) H7 fun v13x9 H10 =>
  ob (vPick v9x1 v13x9 (.bool false)) fun v14x11 =>
  K v14x11 H10
def O.impl_within : Nat → Nat × List Nat := fun i => (0, [])
theorem R.impl_within {a0 a1 a2 : Value} {H : Hp} {K : Value → Hp → Prop} (h : F.impl_within a0 a1 a2 H K) : HT prg I.impl_within [a0, a1, a2].toArray H K :=
  HT_of_fev O.impl_within mixed Tryz.func39 (by kernel_rfl) (Eq.mpr (by kernel_rfl : fev prg O.impl_within Tryz.f39 [a0, a1, a2] H K = F.impl_within a0 a1 a2 H K) h)

/-! loop.example/g01381/impl.isSide: function 28 -/
def F.impl_isSide (a0 : Value) (H : Hp) (K : Value → Hp → Prop) : Prop :=
  HT prg I.impl_within [a0, (.int .i64 1), (.int .i64 24)].toArray H fun v4x1 H2 =>
  K v4x1 H2
def O.impl_isSide : Nat → Nat × List Nat := fun i => (0, [])
theorem R.impl_isSide {a0 : Value} {H : Hp} {K : Value → Hp → Prop} (h : F.impl_isSide a0 H K) : HT prg I.impl_isSide [a0].toArray H K :=
  HT_of_fev O.impl_isSide mixed Tryz.func28 (by kernel_rfl) (Eq.mpr (by kernel_rfl : fev prg O.impl_isSide Tryz.f28 [a0] H K = F.impl_isSide a0 H K) h)

/-! loop.example/g01381/impl.areWithin: function 45 -/
def F.impl_areWithin (a0 a1 a2 : Value) (H : Hp) (K : Value → Hp → Prop) : Prop :=
  jn (fun σ1 H1 =>
    K (.bool true) H1) fun J1 =>
  ob (vLenSl a0) fun v10x2 =>
  lpE (fun Q3 σ3 H3 =>
    ob (vInt .lss (σ3 11) (σ3 10)) fun v12x4 =>
    cnd v12x4
      (ob (vIx 1 (σ3 9) (σ3 11)) fun v13x5 =>
    ob (vLoad v13x5 H3) fun v14x6 =>
    HT prg I.impl_within [v14x6, (σ3 1), (σ3 2)].toArray H3 fun v18x7 H8 =>
    ob (vUn .not v18x7) fun v19x9 =>
    cnd v19x9
      (Q3 .ret (up (up (up (up (up (up (up (up (up (up σ3 12 v12x4) 13 v13x5) 14 v14x6) 8 v14x6) 15 v14x6) 16 (σ3 1)) 17 (σ3 2)) 18 v18x7) 19 v19x9) 6 (.bool false)) H8)
      (ob (vInt .add (σ3 11) (.int .i64 1)) fun v20x10 =>
    Q3 .normal (up (up (up (up (up (up (up (up (up (up (up σ3 12 v12x4) 13 v13x5) 14 v14x6) 8 v14x6) 15 v14x6) 16 (σ3 1)) 17 (σ3 2)) 18 v18x7) 19 v19x9) 20 v20x10) 11 v20x10) H8))
      (Q3 (.exit 0) (up σ3 12 v12x4) H3)) (blkQ 0 (thenQ J1 (retQ prg [(.tmp 6)] K))) (up (up (up (up (S0 [a0, a1, a2]) 6 (.bool false)) 9 a0) 10 v10x2) 11 (.int .i64 0)) H
def O.impl_areWithin : Nat → Nat × List Nat := fun i => (0, [])
theorem R.impl_areWithin {a0 a1 a2 : Value} {H : Hp} {K : Value → Hp → Prop} (h : F.impl_areWithin a0 a1 a2 H K) : HT prg I.impl_areWithin [a0, a1, a2].toArray H K :=
  HT_of_fev O.impl_areWithin mixed Tryz.func45 (by kernel_rfl) (Eq.mpr (by kernel_rfl : fev prg O.impl_areWithin Tryz.f45 [a0, a1, a2] H K = F.impl_areWithin a0 a1 a2 H K) h)

/-! loop.example/g01381/impl.areMany: function 68 -/
def F.impl_areMany (a0 a1 a2 a3 a4 : Value) (H : Hp) (K : Value → Hp → Prop) : Prop :=
  ob (vLenSl a0) fun v12x1 =>
  HT prg I.impl_within [v12x1, a1, a2].toArray H fun v15x2 H3 =>
  gop v15x2 true (fun K4 => K4 a0 H3) H3 fun v17x5 H6 =>
  gop v15x2 true (fun K7 => K7 a3 H6) H6 fun v18x8 H9 =>
  gop v15x2 true (fun K10 => K10 a4 H9) H9 fun v19x11 H12 =>
  gop v15x2 true (fun K13 => HT prg I.impl_areWithin [v17x5, v18x8, v19x11].toArray H12 K13) H12 fun v20x14 H15 =>
  ob (vPick v15x2 v20x14 (.bool false)) fun v21x16 =>
  K v21x16 H15
def O.impl_areMany : Nat → Nat × List Nat := fun i => (0, [])
theorem R.impl_areMany {a0 a1 a2 a3 a4 : Value} {H : Hp} {K : Value → Hp → Prop} (h : F.impl_areMany a0 a1 a2 a3 a4 H K) : HT prg I.impl_areMany [a0, a1, a2, a3, a4].toArray H K :=
  HT_of_fev O.impl_areMany mixed Tryz.func68 (by kernel_rfl) (Eq.mpr (by kernel_rfl : fev prg O.impl_areMany Tryz.f68 [a0, a1, a2, a3, a4] H K = F.impl_areMany a0 a1 a2 a3 a4 H K) h)

/-! loop.example/g01381/impl.ValidField: function 44 -/
def F.impl_ValidField (a0 : Value) (H : Hp) (K : Value → Hp → Prop) : Prop :=
  nw (a0 : Value).cells 27 H fun v1x1 H2 =>
  ob (vFa 0 v1x1) fun v4x3 =>
  ob (vLoad v4x3 H2) fun v5x4 =>
  ob (vFa 1 v1x1) fun v6x5 =>
  ob (vLoad v6x5 H2) fun v7x6 =>
  ob (vInt .mul v5x4 v7x6) fun v8x7 =>
  ob (vFa 0 v1x1) fun v9x8 =>
  ob (vLoad v9x8 H2) fun v10x9 =>
  HT prg I.impl_isSide [v10x9].toArray H2 fun v11x10 H11 =>
  gop v11x10 true (fun K12 => ob (vFa 1 v1x1) fun u => K12 u H11) H11 fun v13x13 H14 =>
  gop v11x10 true (fun K15 => ob (vLoad v13x13 H14) fun u => K15 u H14) H14 fun v14x16 H17 =>
  gop v11x10 true (fun K18 => HT prg I.impl_isSide [v14x16].toArray H17 K18) H17 fun v15x19 H20 =>
  ob (vPick v11x10 v15x19 (.bool false)) fun v16x21 =>
  gop v16x21 true (fun K22 => ob (vFa 2 v1x1) fun u => K22 u H20) H20 fun v18x23 H24 =>
  gop v16x21 true (fun K25 => ob (vLoad v18x23 H24) fun u => K25 u H24) H24 fun v19x26 H27 =>
  gop v16x21 true (fun K28 => K28 v8x7 H27) H27 fun v20x29 H30 =>
  gop v16x21 true (fun K31 => K31 v8x7 H30) H30 fun v21x32 H33 =>
  gop v16x21 true (fun K34 => HT prg I.impl_areMany [v19x26, v20x29, v21x32, (.int .i64 0), (.int .i64 9)].toArray H33 K34) H33 fun v22x35 H36 =>
  ob (vPick v16x21 v22x35 (.bool false)) fun v23x37 =>
  K v23x37 H36
def O.impl_ValidField : Nat → Nat × List Nat := fun i => (0, [])
theorem R.impl_ValidField {a0 : Value} {H : Hp} {K : Value → Hp → Prop} (h : F.impl_ValidField a0 H K) : HT prg I.impl_ValidField [a0].toArray H K :=
  HT_of_fev O.impl_ValidField mixed Tryz.func44 (by kernel_rfl) (Eq.mpr (by kernel_rfl : fev prg O.impl_ValidField Tryz.f44 [a0] H K = F.impl_ValidField a0 H K) h)

/-! loop.example/g01381/impl.isPlain: function 21 -/
def F.impl_isPlain (a0 : Value) (H : Hp) (K : Value → Hp → Prop) : Prop :=
  nw (a0 : Value).cells 27 H fun v1x1 H2 =>
  ob (vLoadN 3 v1x1 H2) fun v3x3 =>
  HT prg I.impl_ValidField [v3x3].toArray H2 fun v4x4 H5 =>
  gop v4x4 true (fun K6 => ob (vFa 2 v1x1) fun u => K6 u H5) H5 fun v6x7 H8 =>
  gop v4x4 true (fun K9 => ob (vLoad v6x7 H8) fun u => K9 u H8) H8 fun v7x10 H11 =>
  gop v4x4 true (fun K12 => HT prg I.impl_areWithin [v7x10, (.int .i64 0), (.int .i64 1)].toArray H11 K12) H11 fun v8x13 H14 =>
  ob (vPick v4x4 v8x13 (.bool false)) fun v9x15 =>
  K v9x15 H14
def O.impl_isPlain : Nat → Nat × List Nat := fun i => (0, [])
theorem R.impl_isPlain {a0 : Value} {H : Hp} {K : Value → Hp → Prop} (h : F.impl_isPlain a0 H K) : HT prg I.impl_isPlain [a0].toArray H K :=
  HT_of_fev O.impl_isPlain mixed Tryz.func21 (by kernel_rfl) (Eq.mpr (by kernel_rfl : fev prg O.impl_isPlain Tryz.f21 [a0] H K = F.impl_isPlain a0 H K) h)

/-! slices.Chunk[[]int64,int64]$1: function 69 -/
def F.slices_Chunk_int64Zint64Z1 (a0 a1 a2 : Value) (H : Hp) (K : Value → Hp → Prop) : Prop :=
  lpE (fun Q1 σ1 H1 =>
    ob (vLoad (σ1 1) H1) fun v7x2 =>
    ob (vLenSl v7x2) fun v8x3 =>
    ob (vInt .lss (σ1 4) v8x3) fun v9x4 =>
    cnd v9x4
      (ob (vLoad (σ1 2) H1) fun v13x5 =>
    ob (vLoad (σ1 1) H1) fun v14x6 =>
    ob (vSl3 1 v14x6 (some (σ1 4)) none none) fun v16x7 =>
    ob (vLenSl v16x7) fun v17x8 =>
    ob (vMx false v13x5 [v17x8]) fun v18x9 =>
    ob (vLoad (σ1 1) H1) fun v20x10 =>
    ob (vInt .add (σ1 4) v18x9) fun v24x11 =>
    ob (vInt .add (σ1 4) v18x9) fun v27x12 =>
    ob (vSl3 1 v20x10 (some (σ1 4)) (some v24x11) (some v27x12)) fun v28x13 =>
    callV prg (σ1 0) [v28x13] H1 fun v29x14 H15 =>
    ob (vUn .not v29x14) fun v30x16 =>
    cnd v30x16
      (Q1 .ret (up (up (up (up (up (up (up (up (up (up (up (up (up (up (up (up (up (up (up (up (up (up (up σ1 6 (σ1 4)) 7 v7x2) 8 v8x3) 9 v9x4) 13 v13x5) 14 v14x6) 15 (σ1 4)) 16 v16x7) 17 v17x8) 18 v18x9) 5 v18x9) 19 (σ1 0)) 20 v20x10) 21 (σ1 4)) 22 (σ1 4)) 23 v18x9) 24 v24x11) 25 (σ1 4)) 26 v18x9) 27 v27x12) 28 v28x13) 29 v29x14) 30 v30x16) H15)
      (ob (vLoad (σ1 2) H15) fun v11x17 =>
    ob (vInt .add (σ1 4) v11x17) fun v12x18 =>
    Q1 .normal (up (up (up (up (up (up (up (up (up (up (up (up (up (up (up (up (up (up (up (up (up (up (up (up (up (up (up σ1 6 (σ1 4)) 7 v7x2) 8 v8x3) 9 v9x4) 13 v13x5) 14 v14x6) 15 (σ1 4)) 16 v16x7) 17 v17x8) 18 v18x9) 5 v18x9) 19 (σ1 0)) 20 v20x10) 21 (σ1 4)) 22 (σ1 4)) 23 v18x9) 24 v24x11) 25 (σ1 4)) 26 v18x9) 27 v27x12) 28 v28x13) 29 v29x14) 30 v30x16) 10 (σ1 4)) 11 v11x17) 12 v12x18) 4 v12x18) H15))
      (Q1 (.exit 0) (up (up (up (up σ1 6 (σ1 4)) 7 v7x2) 8 v8x3) 9 v9x4) H1)) (blkQ 0 (retQ prg [] K)) (up (S0 [a0, a1, a2]) 4 (.int .i64 0)) H
def O.slices_Chunk_int64Zint64Z1 : Nat → Nat × List Nat := fun i => bif Nat.beq i 3 then (0, [0, 1, 2, 3, 4, 5, 6]) else (0, [])
theorem R.slices_Chunk_int64Zint64Z1 {a0 a1 a2 : Value} {H : Hp} {K : Value → Hp → Prop} (h : F.slices_Chunk_int64Zint64Z1 a0 a1 a2 H K) : HT prg I.slices_Chunk_int64Zint64Z1 [a0, a1, a2].toArray H K :=
  HT_of_fev O.slices_Chunk_int64Zint64Z1 mixed Tryz.func69 (by kernel_rfl) (Eq.mpr (by kernel_rfl : fev prg O.slices_Chunk_int64Zint64Z1 Tryz.f69 [a0, a1, a2] H K = F.slices_Chunk_int64Zint64Z1 a0 a1 a2 H K) h)

/-! slices.Chunk[[]int64,int64]: function 46 -/
def F.slices_Chunk_int64Zint64 (a0 a1 : Value) (H : Hp) (K : Value → Hp → Prop) : Prop :=
  nw (a0 : Value).cells 25 H fun v2x1 H2 =>
  nw (a1 : Value).cells 3 H2 fun v3x3 H4 =>
  ob (vLoad v3x3 H4) fun v5x5 =>
  ob (vInt .lss v5x5 (.int .i64 1)) fun v6x6 =>
  cnd v6x6
    (ob (val prg (Instr.makeInterface 9 (.string ⟨#[99, 97, 110, 110, 111, 116, 32, 98, 101, 32, 108, 101, 115, 115, 32, 116, 104, 97, 110, 32, 49]⟩)) H4) fun v7x7 =>
    hp prg (do pure (Next.value (← Instr.panic v7x7))) H4 (nextH prg (fun _ H8 =>
    K (.func (.func I.slices_Chunk_int64Zint64Z1) #[] #[v2x1, v3x3]) H8)))
    (K (.func (.func I.slices_Chunk_int64Zint64Z1) #[] #[v2x1, v3x3]) H4)
def O.slices_Chunk_int64Zint64 : Nat → Nat × List Nat := fun i => (0, [])
theorem R.slices_Chunk_int64Zint64 {a0 a1 : Value} {H : Hp} {K : Value → Hp → Prop} (h : F.slices_Chunk_int64Zint64 a0 a1 H K) : HT prg I.slices_Chunk_int64Zint64 [a0, a1].toArray H K :=
  HT_of_fev O.slices_Chunk_int64Zint64 mixed Tryz.func46 (by kernel_rfl) (Eq.mpr (by kernel_rfl : fev prg O.slices_Chunk_int64Zint64 Tryz.f46 [a0, a1] H K = F.slices_Chunk_int64Zint64 a0 a1 H K) h)

/-! internal/strconv.small: function 107 -/
def F.internal_strconv_small (a0 : Value) (H : Hp) (K : Value → Hp → Prop) : Prop :=
  ob (vInt .lss a0 (.int .i64 10)) fun v4x1 =>
  cnd v4x1
    (ob (vInt .add a0 (.int .i64 1)) fun v7x2 =>
    ob (vSlS (.string ⟨#[48, 49, 50, 51, 52, 53, 54, 55, 56, 57, 97, 98, 99, 100, 101, 102, 103, 104, 105, 106, 107, 108, 109, 110, 111, 112, 113, 114, 115, 116, 117, 118, 119, 120, 121, 122]⟩) (some a0) (some v7x2)) fun v8x3 =>
    K v8x3 H)
    (ob (vInt .mul a0 (.int .i64 2)) fun v10x4 =>
  ob (vInt .mul a0 (.int .i64 2)) fun v12x5 =>
  ob (vInt .add v12x5 (.int .i64 2)) fun v13x6 =>
  ob (vSlS (.string ⟨#[48, 48, 48, 49, 48, 50, 48, 51, 48, 52, 48, 53, 48, 54, 48, 55, 48, 56, 48, 57, 49, 48, 49, 49, 49, 50, 49, 51, 49, 52, 49, 53, 49, 54, 49, 55, 49, 56, 49, 57, 50, 48, 50, 49, 50, 50, 50, 51, 50, 52, 50, 53, 50, 54, 50, 55, 50, 56, 50, 57, 51, 48, 51, 49, 51, 50, 51, 51, 51, 52, 51, 53, 51, 54, 51, 55, 51, 56, 51, 57, 52, 48, 52, 49, 52, 50, 52, 51, 52, 52, 52, 53, 52, 54, 52, 55, 52, 56, 52, 57, 53, 48, 53, 49, 53, 50, 53, 51, 53, 52, 53, 53, 53, 54, 53, 55, 53, 56, 53, 57, 54, 48, 54, 49, 54, 50, 54, 51, 54, 52, 54, 53, 54, 54, 54, 55, 54, 56, 54, 57, 55, 48, 55, 49, 55, 50, 55, 51, 55, 52, 55, 53, 55, 54, 55, 55, 55, 56, 55, 57, 56, 48, 56, 49, 56, 50, 56, 51, 56, 52, 56, 53, 56, 54, 56, 55, 56, 56, 56, 57, 57, 48, 57, 49, 57, 50, 57, 51, 57, 52, 57, 53, 57, 54, 57, 55, 57, 56, 57, 57]⟩) (some v10x4) (some v13x6)) fun v14x7 =>
  K v14x7 H)
def O.internal_strconv_small : Nat → Nat × List Nat := fun i => (0, [])
theorem R.internal_strconv_small {a0 : Value} {H : Hp} {K : Value → Hp → Prop} (h : F.internal_strconv_small a0 H K) : HT prg I.internal_strconv_small [a0].toArray H K :=
  HT_of_fev O.internal_strconv_small mixed Tryz.func107 (by kernel_rfl) (Eq.mpr (by kernel_rfl : fev prg O.internal_strconv_small Tryz.f107 [a0] H K = F.internal_strconv_small a0 H K) h)

/-! internal/strconv.FormatInt: function 90 -/
def F.internal_strconv_FormatInt (a0 a1 : Value) (H : Hp) (K : Value → Hp → Prop) : Prop :=
  ob (vInt .eql a1 (.int .i64 10)) fun v11x1 =>
  cnd v11x1
    (ob (vInt .leq (.int .i64 0) a0) fun v13x2 =>
    gop v13x2 true (fun K3 => K3 a0 H) H fun v15x4 H5 =>
    gop v13x2 true (fun K6 => ob (vInt .lss v15x4 (.int .i64 100)) fun u => K6 u H5) H5 fun v16x7 H8 =>
    ob (vPick v13x2 v16x7 (.bool false)) fun v17x9 =>
    cnd v17x9
      (HT prg I.internal_strconv_small [a0].toArray H8 fun v19x10 H11 =>
      K v19x10 H11)
      (nw #[(.int .u8 0), (.int .u8 0), (.int .u8 0), (.int .u8 0), (.int .u8 0), (.int .u8 0), (.int .u8 0), (.int .u8 0), (.int .u8 0), (.int .u8 0), (.int .u8 0), (.int .u8 0), (.int .u8 0), (.int .u8 0), (.int .u8 0), (.int .u8 0), (.int .u8 0), (.int .u8 0), (.int .u8 0), (.int .u8 0), (.int .u8 0), (.int .u8 0), (.int .u8 0), (.int .u8 0)] 133 H8 fun v5x12 H13 =>
    ob (vCI .u64 a0) fun v21x14 =>
    jn (fun σ15 H15 =>
      HT prg I.internal_strconv_numDigits [(σ15 6)].toArray H15 fun v27x16 H17 =>
      ob (vInt .add (.int .i64 1) v27x16) fun v29x18 =>
      ob (vSlA 24 1 (σ15 5) (some (.int .i64 1)) (some v29x18)) fun v30x19 =>
      HT prg I.internal_strconv_formatBase10 [v30x19, (σ15 6)].toArray H17 fun v32x20 H21 =>
      ob (vInt .lss (σ15 0) (.int .i64 0)) fun v34x22 =>
      cnd v34x22
        (ob (vIxArr 24 1 (σ15 5) (.int .i64 0)) fun v35x23 =>
        st 1 v35x23 (.int .u8 45) H21 fun H24 =>
        ob (vInt .add (.int .i64 1) v27x16) fun v37x25 =>
        ob (vSlA 24 1 (σ15 5) none (some v37x25)) fun v38x26 =>
        ob (val prg (convert 22 9 v38x26) H24) fun v39x27 =>
        K v39x27 H24)
        (ob (vInt .add (.int .i64 1) v27x16) fun v41x28 =>
      ob (vSlA 24 1 (σ15 5) (some (.int .i64 1)) (some v41x28)) fun v42x29 =>
      ob (val prg (convert 22 9 v42x29) H21) fun v43x30 =>
      K v43x30 H21)) fun J15 =>
    ob (vInt .lss a0 (.int .i64 0)) fun v23x31 =>
    cnd v23x31
      (ob (vUn .neg v21x14) fun v25x32 =>
      J15 (up (up (up (up (up (up (up (up (up (up (up (up (up (up (up (up (up (up (S0 [a0, a1]) 4 (.string ⟨#[]⟩)) 10 a1) 11 v11x1) 12 a0) 13 v13x2) 14 v13x2) 15 v15x4) 16 v16x7) 17 v17x9) 5 v5x12) 20 a0) 21 v21x14) 6 v21x14) 22 a0) 23 v23x31) 24 v21x14) 25 v25x32) 6 v25x32) H13)
      (J15 (up (up (up (up (up (up (up (up (up (up (up (up (up (up (up (S0 [a0, a1]) 4 (.string ⟨#[]⟩)) 10 a1) 11 v11x1) 12 a0) 13 v13x2) 14 v13x2) 15 v15x4) 16 v16x7) 17 v17x9) 5 v5x12) 20 a0) 21 v21x14) 6 v21x14) 22 a0) 23 v23x31) H13)))
    (ob (vCI .u64 a0) fun v46x33 =>
  ob (vInt .lss a0 (.int .i64 0)) fun v49x34 =>
  HT prg I.internal_strconv_formatBits [(.slice none 0 0), v46x33, a1, v49x34, (.bool false)].toArray H fun v50x35 H36 =>
  ob (vExt v50x35 0) fun v51x37 =>
  ob (vExt v50x35 1) fun v52x38 =>
  K v52x38 H36)
def O.internal_strconv_FormatInt : Nat → Nat × List Nat := fun i => (0, [])
theorem R.internal_strconv_FormatInt {a0 a1 : Value} {H : Hp} {K : Value → Hp → Prop} (h : F.internal_strconv_FormatInt a0 a1 H K) : HT prg I.internal_strconv_FormatInt [a0, a1].toArray H K :=
  HT_of_fev O.internal_strconv_FormatInt mixed Tryz.func90 (by kernel_rfl) (Eq.mpr (by kernel_rfl : fev prg O.internal_strconv_FormatInt Tryz.f90 [a0, a1] H K = F.internal_strconv_FormatInt a0 a1 H K) h)

/-! strconv.FormatInt: function 70 -/
def F.strconv_FormatInt (a0 a1 : Value) (H : Hp) (K : Value → Hp → Prop) : Prop :=
  HT prg I.internal_strconv_FormatInt [a0, a1].toArray H fun v7x1 H2 =>
  K v7x1 H2
def O.strconv_FormatInt : Nat → Nat × List Nat := fun i => (0, [])
theorem R.strconv_FormatInt {a0 a1 : Value} {H : Hp} {K : Value → Hp → Prop} (h : F.strconv_FormatInt a0 a1 H K) : HT prg I.strconv_FormatInt [a0, a1].toArray H K :=
  HT_of_fev O.strconv_FormatInt mixed Tryz.func70 (by kernel_rfl) (Eq.mpr (by kernel_rfl : fev prg O.strconv_FormatInt Tryz.f70 [a0, a1] H K = F.strconv_FormatInt a0 a1 H K) h)

/-! loop.example/g01381/impl.Decimal: function 48 -/
def F.impl_Decimal (a0 : Value) (H : Hp) (K : Value → Hp → Prop) : Prop :=
  HT prg I.strconv_FormatInt [a0, (.int .i64 10)].toArray H fun v4x1 H2 =>
  K v4x1 H2
def O.impl_Decimal : Nat → Nat × List Nat := fun i => (0, [])
theorem R.impl_Decimal {a0 : Value} {H : Hp} {K : Value → Hp → Prop} (h : F.impl_Decimal a0 H K) : HT prg I.impl_Decimal [a0].toArray H K :=
  HT_of_fev O.impl_Decimal mixed Tryz.func48 (by kernel_rfl) (Eq.mpr (by kernel_rfl : fev prg O.impl_Decimal Tryz.f48 [a0] H K = F.impl_Decimal a0 H K) h)

/-! loop.example/g01381/impl.runsText: function 47 -/
def F.impl_runsText (a0 : Value) (H : Hp) (K : Value → Hp → Prop) : Prop :=
  jn (fun σ1 H1 =>
    K (σ1 3) H1) fun J1 =>
  lpE (fun Q2 σ2 H2 =>
    ob (vLenSl (σ2 0)) fun v8x3 =>
    ob (vInt .lss (σ2 4) v8x3) fun v9x4 =>
    cnd v9x4
      (jn (fun σ5 H5 =>
      ob (vIx 1 (σ5 0) (σ5 4)) fun v30x6 =>
      ob (vLoad v30x6 H5) fun v31x7 =>
      ob (vInt .eql v31x7 (.int .i64 0)) fun v32x8 =>
      gop v32x8 true (fun K9 => K9 (σ5 5) H5) H5 fun v34x10 H11 =>
      gop v32x8 true (fun K12 => K12 (σ5 0) H11) H11 fun v35x13 H14 =>
      gop v32x8 true (fun K15 => ob (vLenSl v35x13) fun u => K15 u H14) H14 fun v36x16 H17 =>
      gop v32x8 true (fun K18 => ob (vInt .eql v34x10 v36x16) fun u => K18 u H17) H17 fun v37x19 H20 =>
      ob (vPick v32x8 v37x19 (.bool false)) fun v38x21 =>
      cnd v38x21
        (Q2 (.exit 0) (up (up (up (up (up (up (up (up (up (up (up σ5 28 (σ5 0)) 29 (σ5 4)) 30 v30x6) 31 v31x7) 32 v32x8) 33 v32x8) 34 v34x10) 35 v35x13) 36 v36x16) 37 v37x19) 38 v38x21) H20)
        (ob (vInt .sub (σ5 5) (σ5 4)) fun v41x22 =>
      ob (vInt .gtr v41x22 (.int .i64 1)) fun v42x23 =>
      cnd v42x23
        (ob (vInt .sub (σ5 5) (σ5 4)) fun v46x24 =>
        HT prg I.impl_Decimal [v46x24].toArray H20 fun v47x25 H26 =>
        ob (vStr .add (σ5 3) v47x25) fun v48x27 =>
        ob (vIx 1 (σ5 0) (σ5 4)) fun v52x28 =>
      ob (vLoad v52x28 H26) fun v53x29 =>
      ob (vIx 1 (σ5 0) (σ5 4)) fun v56x30 =>
      ob (vLoad v56x30 H26) fun v57x31 =>
      ob (vInt .add v57x31 (.int .i64 1)) fun v58x32 =>
      ob (vSlS (.string ⟨#[98, 111]⟩) (some v53x29) (some v58x32)) fun v59x33 =>
      ob (vStr .add v48x27 v59x33) fun v60x34 =>
      Q2 .normal (up (up (up (up (up (up (up (up (up (up (up (up (up (up (up (up (up (up (up (up (up (up (up (up (up (up (up (up (up (up (up (up (up (up (up (up (up σ5 28 (σ5 0)) 29 (σ5 4)) 30 v30x6) 31 v31x7) 32 v32x8) 33 v32x8) 34 v34x10) 35 v35x13) 36 v36x16) 37 v37x19) 38 v38x21) 39 (σ5 5)) 40 (σ5 4)) 41 v41x22) 42 v42x23) 43 (σ5 3)) 44 (σ5 5)) 45 (σ5 4)) 46 v46x24) 47 v47x25) 48 v48x27) 3 v48x27) 49 v48x27) 50 (σ5 0)) 51 (σ5 4)) 52 v52x28) 53 v53x29) 54 (σ5 0)) 55 (σ5 4)) 56 v56x30) 57 v57x31) 58 v58x32) 59 v59x33) 60 v60x34) 3 v60x34) 61 (σ5 5)) 4 (σ5 5)) H26)
        (ob (vIx 1 (σ5 0) (σ5 4)) fun v52x35 =>
      ob (vLoad v52x35 H20) fun v53x36 =>
      ob (vIx 1 (σ5 0) (σ5 4)) fun v56x37 =>
      ob (vLoad v56x37 H20) fun v57x38 =>
      ob (vInt .add v57x38 (.int .i64 1)) fun v58x39 =>
      ob (vSlS (.string ⟨#[98, 111]⟩) (some v53x36) (some v58x39)) fun v59x40 =>
      ob (vStr .add (σ5 3) v59x40) fun v60x41 =>
      Q2 .normal (up (up (up (up (up (up (up (up (up (up (up (up (up (up (up (up (up (up (up (up (up (up (up (up (up (up (up (up (up (up σ5 28 (σ5 0)) 29 (σ5 4)) 30 v30x6) 31 v31x7) 32 v32x8) 33 v32x8) 34 v34x10) 35 v35x13) 36 v36x16) 37 v37x19) 38 v38x21) 39 (σ5 5)) 40 (σ5 4)) 41 v41x22) 42 v42x23) 49 (σ5 3)) 50 (σ5 0)) 51 (σ5 4)) 52 v52x35) 53 v53x36) 54 (σ5 0)) 55 (σ5 4)) 56 v56x37) 57 v57x38) 58 v58x39) 59 v59x40) 60 v60x41) 3 v60x41) 61 (σ5 5)) 4 (σ5 5)) H20))) fun J5 =>
    lpE (fun Q42 σ42 H42 =>
      ob (vLenSl (σ42 0)) fun v13x43 =>
      ob (vInt .lss (σ42 5) v13x43) fun v14x44 =>
      gop v14x44 true (fun K45 => K45 (σ42 0) H42) H42 fun v16x46 H47 =>
      gop v14x44 true (fun K48 => K48 (σ42 5) H47) H47 fun v17x49 H50 =>
      gop v14x44 true (fun K51 => ob (vIx 1 v16x46 v17x49) fun u => K51 u H50) H50 fun v18x52 H53 =>
      gop v14x44 true (fun K54 => ob (vLoad v18x52 H53) fun u => K54 u H53) H53 fun v19x55 H56 =>
      gop v14x44 true (fun K57 => K57 (σ42 0) H56) H56 fun v20x58 H59 =>
      gop v14x44 true (fun K60 => K60 (σ42 4) H59) H59 fun v21x61 H62 =>
      gop v14x44 true (fun K63 => ob (vIx 1 v20x58 v21x61) fun u => K63 u H62) H62 fun v22x64 H65 =>
      gop v14x44 true (fun K66 => ob (vLoad v22x64 H65) fun u => K66 u H65) H65 fun v23x67 H68 =>
      gop v14x44 true (fun K69 => ob (vInt .eql v19x55 v23x67) fun u => K69 u H68) H68 fun v24x70 H71 =>
      ob (vPick v14x44 v24x70 (.bool false)) fun v25x72 =>
      cnd v25x72
        (ob (vInt .add (σ42 5) (.int .i64 1)) fun v27x73 =>
      Q42 .normal (up (up (up (up (up (up (up (up (up (up (up (up (up (up (up (up (up (up σ42 11 (σ42 5)) 12 (σ42 0)) 13 v13x43) 14 v14x44) 15 v14x44) 16 v16x46) 17 v17x49) 18 v18x52) 19 v19x55) 20 v20x58) 21 v21x61) 22 v22x64) 23 v23x67) 24 v24x70) 25 v25x72) 26 (σ42 5)) 27 v27x73) 5 v27x73) H71)
        (Q42 (.exit 2) (up (up (up (up (up (up (up (up (up (up (up (up (up (up (up σ42 11 (σ42 5)) 12 (σ42 0)) 13 v13x43) 14 v14x44) 15 v14x44) 16 v16x46) 17 v17x49) 18 v18x52) 19 v19x55) 20 v20x58) 21 v21x61) 22 v22x64) 23 v23x67) 24 v24x70) 25 v25x72) H71)) (blkQ 2 (thenQ J5 (blkQ 1 Q2))) (up (up (up (up (up (up σ2 6 (σ2 4)) 7 (σ2 0)) 8 v8x3) 9 v9x4) 10 (σ2 4)) 5 (σ2 4)) H2)
      (Q2 (.exit 0) (up (up (up (up σ2 6 (σ2 4)) 7 (σ2 0)) 8 v8x3) 9 v9x4) H2)) (blkQ 0 (thenQ J1 (retQ prg [(.tmp 2)] K))) (up (up (up (S0 [a0]) 2 (.string ⟨#[]⟩)) 3 (.string ⟨#[]⟩)) 4 (.int .i64 0)) H
def O.impl_runsText : Nat → Nat × List Nat := fun i => bif Nat.beq i 10 then (0, [0, 1, 2, 3, 4, 5, 6, 7, 8, 9, 10, 11, 12]) else bif Nat.beq i 5 then (0, [0, 1, 2, 3, 4, 5, 6, 7, 8, 9, 10, 11, 12, 13, 14]) else (0, [])
theorem R.impl_runsText {a0 : Value} {H : Hp} {K : Value → Hp → Prop} (h : F.impl_runsText a0 H K) : HT prg I.impl_runsText [a0].toArray H K :=
  HT_of_fev O.impl_runsText mixed Tryz.func47 (by kernel_rfl) (Eq.mpr (by kernel_rfl : fev prg O.impl_runsText Tryz.f47 [a0] H K = F.impl_runsText a0 H K) h)

/-! (*strings.Builder).copyCheck: function 91 -/
def F.pstrings_Builder_copyCheck (a0 : Value) (H : Hp) (K : Value → Hp → Prop) : Prop :=
  ob (vNilC a0) fun v3x1 =>
  ob (vFa 0 v3x1) fun v4x2 =>
  ob (vLoad v4x2 H) fun v5x3 =>
  ob (val prg (do eqGuard .eql 99 (.tmp 5) (.const (.pointer none)) v5x3 (.pointer none); binOp .eql 99 v5x3 (.pointer none)) H) fun v6x4 =>
  cnd v6x4
    (hp prg (convert 99 138 a0) H fun v9x5 H6 =>
    hp prg (callFunc I.internal_abi_NoEscape [v9x5].toArray) H6 (nextH prg (fun v10x7 H8 =>
    hp prg (convert 138 99 v10x7) H8 fun v11x9 H10 =>
    ob (vNilC a0) fun v12x11 =>
    ob (vFa 0 v12x11) fun v13x12 =>
    st 1 v13x12 v11x9 H10 fun H13 =>
    K (.tuple #[]) H13)))
    (ob (vNilC a0) fun v15x14 =>
    ob (vFa 0 v15x14) fun v16x15 =>
    ob (vLoad v16x15 H) fun v17x16 =>
    ob (val prg (do eqGuard .neq 99 (.tmp 17) (.tmp 18) v17x16 a0; binOp .neq 99 v17x16 a0) H) fun v19x17 =>
    cnd v19x17
      (False)
      (K (.tuple #[]) H))
def O.pstrings_Builder_copyCheck : Nat → Nat × List Nat := fun i => (0, [])
theorem R.pstrings_Builder_copyCheck {a0 : Value} {H : Hp} {K : Value → Hp → Prop} (h : F.pstrings_Builder_copyCheck a0 H K) : HT prg I.pstrings_Builder_copyCheck [a0].toArray H K :=
  HT_of_fev O.pstrings_Builder_copyCheck mixed Tryz.func91 (by kernel_rfl) (Eq.mpr (by kernel_rfl : fev prg O.pstrings_Builder_copyCheck Tryz.f91 [a0] H K = F.pstrings_Builder_copyCheck a0 H K) h)

/-! (*strings.Builder).grow: function 92 -/
def F.pstrings_Builder_grow (a0 a1 : Value) (H : Hp) (K : Value → Hp → Prop) : Prop :=
  ob (vNilC a0) fun v6x1 =>
  ob (vFa 1 v6x1) fun v7x2 =>
  ob (vLoad v7x2 H) fun v8x3 =>
  ob (vCapSl v8x3) fun v9x4 =>
  ob (vInt .mul (.int .i64 2) v9x4) fun v10x5 =>
  ob (vInt .add v10x5 a1) fun v12x6 =>
  ob (vNilC a0) fun v15x7 =>
  ob (vFa 1 v15x7) fun v16x8 =>
  ob (vLoad v16x8 H) fun v17x9 =>
  ob (vLenSl v17x9) fun v18x10 =>
  hp prg (callFunc I.internal_bytealg_MakeNoZero [v12x6].toArray) H (nextH prg (fun v13x11 H12 =>
  Le H H12 ∧ (ob (vSl3 1 v13x11 none (some v18x10) none) fun v19x13 =>
  ob (vNilC a0) fun v22x14 =>
  ob (vFa 1 v22x14) fun v23x15 =>
  ob (vLoad v23x15 H12) fun v24x16 =>
  hp prg (builtin .copy #[22, 22] 3 #[false, false] [v19x13, v24x16].toArray) H12 (nextH prg (fun v25x17 H18 =>
  ob (vNilC a0) fun v28x19 =>
  ob (vFa 1 v28x19) fun v29x20 =>
  st 1 v29x20 v19x13 H18 fun H21 =>
  K (.tuple #[]) H21)))))
def O.pstrings_Builder_grow : Nat → Nat × List Nat := fun i => bif Nat.beq i 0 then (0, [0, 1, 2, 3, 4, 5, 6, 7, 9, 10, 11, 12, 13, 8, 14, 15]) else (0, [])
theorem R.pstrings_Builder_grow {a0 a1 : Value} {H : Hp} {K : Value → Hp → Prop} (h : F.pstrings_Builder_grow a0 a1 H K) : HT prg I.pstrings_Builder_grow [a0, a1].toArray H K :=
  HT_of_fev O.pstrings_Builder_grow mixed Tryz.func92 (by kernel_rfl) (Eq.mpr (by kernel_rfl : fev prg O.pstrings_Builder_grow Tryz.f92 [a0, a1] H K = F.pstrings_Builder_grow a0 a1 H K) h)

/-! (*strings.Builder).Grow: function 71 -/
def F.pstrings_Builder_Grow (a0 a1 : Value) (H : Hp) (K : Value → Hp → Prop) : Prop :=
  HT prg I.pstrings_Builder_copyCheck [a0].toArray H fun v5x1 H2 =>
  jn (fun σ3 H3 =>
    ob (vNilC (σ3 0)) fun v10x4 =>
    ob (vFa 1 v10x4) fun v11x5 =>
    ob (vLoad v11x5 H3) fun v12x6 =>
    ob (vCapSl v12x6) fun v13x7 =>
    ob (vNilC (σ3 0)) fun v15x8 =>
    ob (vFa 1 v15x8) fun v16x9 =>
    ob (vLoad v16x9 H3) fun v17x10 =>
    ob (vLenSl v17x10) fun v18x11 =>
    ob (vInt .sub v13x7 v18x11) fun v19x12 =>
    ob (vInt .lss v19x12 (σ3 1)) fun v21x13 =>
    cnd v21x13
      (HT prg I.pstrings_Builder_grow [(σ3 0), (σ3 1)].toArray H3 fun v24x14 H15 =>
      K (.tuple #[]) H15)
      (K (.tuple #[]) H3)) fun J3 =>
  ob (vInt .lss a1 (.int .i64 0)) fun v7x16 =>
  cnd v7x16
    (ob (val prg (Instr.makeInterface 9 (.string ⟨#[115, 116, 114, 105, 110, 103, 115, 46, 66, 117, 105, 108, 100, 101, 114, 46, 71, 114, 111, 119, 58, 32, 110, 101, 103, 97, 116, 105, 118, 101, 32, 99, 111, 117, 110, 116]⟩)) H2) fun v8x17 =>
    hp prg (do pure (Next.value (← Instr.panic v8x17))) H2 (nextH prg (fun _ H18 =>
    J3 (up (up (up (up (up (S0 [a0, a1]) 4 a0) 5 v5x1) 6 a1) 7 v7x16) 8 v8x17) H18)))
    (J3 (up (up (up (up (S0 [a0, a1]) 4 a0) 5 v5x1) 6 a1) 7 v7x16) H2)
def O.pstrings_Builder_Grow : Nat → Nat × List Nat := fun i => bif Nat.beq i 3 then (0, [0, 1, 2, 3, 4, 5, 6, 7, 8, 9, 10, 11, 12]) else (0, [])
theorem R.pstrings_Builder_Grow {a0 a1 : Value} {H : Hp} {K : Value → Hp → Prop} (h : F.pstrings_Builder_Grow a0 a1 H K) : HT prg I.pstrings_Builder_Grow [a0, a1].toArray H K :=
  HT_of_fev O.pstrings_Builder_Grow mixed Tryz.func71 (by kernel_rfl) (Eq.mpr (by kernel_rfl : fev prg O.pstrings_Builder_Grow Tryz.f71 [a0, a1] H K = F.pstrings_Builder_Grow a0 a1 H K) h)

/-! (*strings.Builder).WriteString: function 72 -/
def F.pstrings_Builder_WriteString (a0 a1 : Value) (H : Hp) (K : Value → Hp → Prop) : Prop :=
  HT prg I.pstrings_Builder_copyCheck [a0].toArray H fun v7x1 H2 =>
  ob (vNilC a0) fun v10x3 =>
  ob (vFa 1 v10x3) fun v11x4 =>
  ob (vLoad v11x4 H2) fun v12x5 =>
  apd 1 1 #[(.int .u8 0)] 5 v12x5 a1 H2 fun v14x6 H7 =>
  ob (vNilC a0) fun v15x8 =>
  ob (vFa 1 v15x8) fun v16x9 =>
  st 1 v16x9 v14x6 H7 fun H10 =>
  ob (vLenS a1) fun v18x11 =>
  K (.tuple #[v18x11, .nilIface]) H10
def O.pstrings_Builder_WriteString : Nat → Nat × List Nat := fun i => (0, [])
theorem R.pstrings_Builder_WriteString {a0 a1 : Value} {H : Hp} {K : Value → Hp → Prop} (h : F.pstrings_Builder_WriteString a0 a1 H K) : HT prg I.pstrings_Builder_WriteString [a0, a1].toArray H K :=
  HT_of_fev O.pstrings_Builder_WriteString mixed Tryz.func72 (by kernel_rfl) (Eq.mpr (by kernel_rfl : fev prg O.pstrings_Builder_WriteString Tryz.f72 [a0, a1] H K = F.pstrings_Builder_WriteString a0 a1 H K) h)

/-! (*strings.Builder).String: function 73 -/
def F.pstrings_Builder_String (a0 : Value) (H : Hp) (K : Value → Hp → Prop) : Prop :=
  (ob (vNilC a0) fun v4x1 =>
  ob (vFa 1 v4x1) fun v5x2 =>
  ob (vLoad v5x2 H) fun v6x3 =>
  ob (vNilC a0) fun v9x4 =>
  ob (vFa 1 v9x4) fun v10x5 =>
  ob (vLoad v10x5 H) fun v11x6 =>
  ob (vLenSl v11x6) fun v12x7 =>
  hp prg (builtin .unsafeSliceData #[22] 117 #[false] [v6x3].toArray) H (nextH prg (fun v7x8 H9 =>
  hp prg (builtin .unsafeString #[117, 3] 9 #[false, false] [v7x8, v12x7].toArray) H9 (nextH prg (fun v13x10 H11 =>
  K v13x10 H11))))) ∧ (ob (vNilC a0) fun v4x12 =>
  ob (vFa 1 v4x12) fun v5x13 =>
  ob (vLoad v5x13 H) fun v6x14 =>
  ob (vNilC a0) fun v9x15 =>
  ob (vFa 1 v9x15) fun v10x16 =>
  hp prg (builtin .unsafeSliceData #[22] 117 #[false] [v6x14].toArray) H (nextH prg (fun v7x17 H18 =>
  ob (vLoad v10x16 H18) fun v11x19 =>
  ob (vLenSl v11x19) fun v12x20 =>
  hp prg (builtin .unsafeString #[117, 3] 9 #[false, false] [v7x17, v12x20].toArray) H18 (nextH prg (fun v13x21 H22 =>
  K v13x21 H22)))))
def O.pstrings_Builder_String : Nat → Nat × List Nat := fun i => bif Nat.beq i 1 then (0, [1008, 1004, 0, 1, 2, 3, 5, 6, 7, 8, 9, 4, 10, 11, 0, 1, 2, 3, 5, 6, 7, 4, 8, 9, 10, 11]) else (0, [])
theorem R.pstrings_Builder_String {a0 : Value} {H : Hp} {K : Value → Hp → Prop} (h : F.pstrings_Builder_String a0 H K) : HT prg I.pstrings_Builder_String [a0].toArray H K :=
  HT_of_fev O.pstrings_Builder_String mixed Tryz.func73 (by kernel_rfl) (Eq.mpr (by kernel_rfl : fev prg O.pstrings_Builder_String Tryz.f73 [a0] H K = F.pstrings_Builder_String a0 H K) h)

/-! strings.Join: function 49 -/
def F.strings_Join (a0 a1 : Value) (H : Hp) (K : Value → Hp → Prop) : Prop :=
  ob (vLenSl a0) fun v12x1 =>
  ob (vInt .eql v12x1 (.int .i64 0)) fun v14x2 =>
  cnd v14x2
    (K (.string ⟨#[]⟩) H)
    (ob (vInt .eql v12x1 (.int .i64 1)) fun v16x3 =>
    cnd v16x3
      (ob (vIx 1 a0 (.int .i64 0)) fun v18x4 =>
      ob (vLoad v18x4 H) fun v19x5 =>
      K v19x5 H)
      (jn (fun σ6 H6 =>
    jn (fun σ7 H7 =>
      nw #[(.pointer none), (.slice none 0 0)] 101 H7 fun v8x8 H9 =>
      HT prg I.pstrings_Builder_Grow [v8x8, (σ7 5)].toArray H9 fun v57x10 H11 =>
      ob (vIx 1 (σ7 0) (.int .i64 0)) fun v59x12 =>
      ob (vLoad v59x12 H11) fun v60x13 =>
      HT prg I.pstrings_Builder_WriteString [v8x8, v60x13].toArray H11 fun v61x14 H15 =>
      jn (fun σ16 H16 =>
        HT prg I.pstrings_Builder_String [(σ16 8)].toArray H16 fun v74x17 H18 =>
        K v74x17 H18) fun J16 =>
      ob (vSl3 1 (σ7 0) (some (.int .i64 1)) none none) fun v63x19 =>
      ob (vLenSl v63x19) fun v64x20 =>
      lpE (fun Q21 σ21 H21 =>
        ob (vInt .lss (σ21 65) (σ21 64)) fun v66x22 =>
        cnd v66x22
          (ob (vIx 1 (σ21 63) (σ21 65)) fun v67x23 =>
        ob (vLoad v67x23 H21) fun v68x24 =>
        HT prg I.pstrings_Builder_WriteString [(σ21 8), (σ21 1)].toArray H21 fun v70x25 H26 =>
        HT prg I.pstrings_Builder_WriteString [(σ21 8), v68x24].toArray H26 fun v72x27 H28 =>
        ob (vInt .add (σ21 65) (.int .i64 1)) fun v73x29 =>
        Q21 .normal (up (up (up (up (up (up (up (up (up (up σ21 66 v66x22) 67 v67x23) 68 v68x24) 10 v68x24) 69 (σ21 1)) 70 v70x25) 71 v68x24) 72 v72x27) 73 v73x29) 65 v73x29) H28)
          (Q21 (.exit 3) (up σ21 66 v66x22) H21)) (blkQ 3 (thenQ J16 (retQ prg [(.tmp 4)] K))) (up (up (up (up (up (up (up (up (up (up (up σ7 8 v8x8) 56 (σ7 5)) 57 v57x10) 58 (σ7 0)) 59 v59x12) 60 v60x13) 61 v61x14) 62 (σ7 0)) 63 v63x19) 64 v64x20) 65 (.int .i64 0)) H15) fun J7 =>
    ob (vLenSl (σ6 0)) fun v40x30 =>
    lpE (fun Q31 σ31 H31 =>
      ob (vInt .lss (σ31 41) (σ31 40)) fun v42x32 =>
      cnd v42x32
        (ob (vIx 1 (σ31 39) (σ31 41)) fun v43x33 =>
      ob (vLoad v43x33 H31) fun v44x34 =>
      ob (vLenS v44x34) fun v46x35 =>
      ob (vInt .sub (.int .i64 9223372036854775807) (σ31 5)) fun v48x36 =>
      ob (vInt .gtr v46x35 v48x36) fun v49x37 =>
      cnd v49x37
        (ob (val prg (Instr.makeInterface 9 (.string ⟨#[115, 116, 114, 105, 110, 103, 115, 58, 32, 74, 111, 105, 110, 32, 111, 117, 116, 112, 117, 116, 32, 108, 101, 110, 103, 116, 104, 32, 111, 118, 101, 114, 102, 108, 111, 119]⟩)) H31) fun v50x38 =>
        hp prg (do pure (Next.value (← Instr.panic v50x38))) H31 (nextH prg (fun _ H39 =>
        ob (vLenS v44x34) fun v53x40 =>
      ob (vInt .add (σ31 5) v53x40) fun v54x41 =>
      ob (vInt .add (σ31 41) (.int .i64 1)) fun v55x42 =>
      Q31 .normal (up (up (up (up (up (up (up (up (up (up (up (up (up (up (up (up (up σ31 42 v42x32) 43 v43x33) 44 v44x34) 7 v44x34) 45 v44x34) 46 v46x35) 47 (σ31 5)) 48 v48x36) 49 v49x37) 50 v50x38) 51 (σ31 5)) 52 v44x34) 53 v53x40) 54 v54x41) 5 v54x41) 55 v55x42) 41 v55x42) H39)))
        (ob (vLenS v44x34) fun v53x43 =>
      ob (vInt .add (σ31 5) v53x43) fun v54x44 =>
      ob (vInt .add (σ31 41) (.int .i64 1)) fun v55x45 =>
      Q31 .normal (up (up (up (up (up (up (up (up (up (up (up (up (up (up (up (up σ31 42 v42x32) 43 v43x33) 44 v44x34) 7 v44x34) 45 v44x34) 46 v46x35) 47 (σ31 5)) 48 v48x36) 49 v49x37) 51 (σ31 5)) 52 v44x34) 53 v53x43) 54 v54x44) 5 v54x44) 55 v55x45) 41 v55x45) H31))
        (Q31 (.exit 1) (up σ31 42 v42x32) H31)) (blkQ 1 (thenQ J7 (retQ prg [(.tmp 4)] K))) (up (up (up σ6 39 (σ6 0)) 40 v40x30) 41 (.int .i64 0)) H6) fun J6 =>
  ob (vLenS a1) fun v21x46 =>
  ob (vInt .gtr v21x46 (.int .i64 0)) fun v22x47 =>
  cnd v22x47
    (ob (vLenS a1) fun v24x48 =>
    ob (vLenSl a0) fun v26x49 =>
    ob (vInt .sub v26x49 (.int .i64 1)) fun v27x50 =>
    ob (vInt .quo (.int .i64 9223372036854775807) v27x50) fun v28x51 =>
    ob (vInt .geq v24x48 v28x51) fun v29x52 =>
    cnd v29x52
      (ob (val prg (Instr.makeInterface 9 (.string ⟨#[115, 116, 114, 105, 110, 103, 115, 58, 32, 74, 111, 105, 110, 32, 111, 117, 116, 112, 117, 116, 32, 108, 101, 110, 103, 116, 104, 32, 111, 118, 101, 114, 102, 108, 111, 119]⟩)) H) fun v30x53 =>
      hp prg (do pure (Next.value (← Instr.panic v30x53))) H (nextH prg (fun _ H54 =>
      ob (vLenS a1) fun v33x55 =>
    ob (vLenSl a0) fun v35x56 =>
    ob (vInt .sub v35x56 (.int .i64 1)) fun v36x57 =>
    ob (vInt .mul v33x55 v36x57) fun v37x58 =>
    ob (vInt .add (.int .i64 0) v37x58) fun v38x59 =>
    J6 (up (up (up (up (up (up (up (up (up (up (up (up (up (up (up (up (up (up (up (up (up (up (up (up (up (up (up (up (S0 [a0, a1]) 4 (.string ⟨#[]⟩)) 11 a0) 12 v12x1) 14 v14x2) 13 v14x2) 16 v16x3) 15 v16x3) 5 (.int .i64 0)) 20 a1) 21 v21x46) 22 v22x47) 23 a1) 24 v24x48) 25 a0) 26 v26x49) 27 v27x50) 28 v28x51) 29 v29x52) 30 v30x53) 31 (.int .i64 0)) 32 a1) 33 v33x55) 34 a0) 35 v35x56) 36 v36x57) 37 v37x58) 38 v38x59) 5 v38x59) H54)))
      (ob (vLenS a1) fun v33x60 =>
    ob (vLenSl a0) fun v35x61 =>
    ob (vInt .sub v35x61 (.int .i64 1)) fun v36x62 =>
    ob (vInt .mul v33x60 v36x62) fun v37x63 =>
    ob (vInt .add (.int .i64 0) v37x63) fun v38x64 =>
    J6 (up (up (up (up (up (up (up (up (up (up (up (up (up (up (up (up (up (up (up (up (up (up (up (up (up (up (up (S0 [a0, a1]) 4 (.string ⟨#[]⟩)) 11 a0) 12 v12x1) 14 v14x2) 13 v14x2) 16 v16x3) 15 v16x3) 5 (.int .i64 0)) 20 a1) 21 v21x46) 22 v22x47) 23 a1) 24 v24x48) 25 a0) 26 v26x49) 27 v27x50) 28 v28x51) 29 v29x52) 31 (.int .i64 0)) 32 a1) 33 v33x60) 34 a0) 35 v35x61) 36 v36x62) 37 v37x63) 38 v38x64) 5 v38x64) H))
    (J6 (up (up (up (up (up (up (up (up (up (up (up (S0 [a0, a1]) 4 (.string ⟨#[]⟩)) 11 a0) 12 v12x1) 14 v14x2) 13 v14x2) 16 v16x3) 15 v16x3) 5 (.int .i64 0)) 20 a1) 21 v21x46) 22 v22x47) H)))
def O.strings_Join : Nat → Nat × List Nat := fun i => (0, [])
theorem R.strings_Join {a0 a1 : Value} {H : Hp} {K : Value → Hp → Prop} (h : F.strings_Join a0 a1 H K) : HT prg I.strings_Join [a0, a1].toArray H K :=
  HT_of_fev O.strings_Join mixed Tryz.func49 (by kernel_rfl) (Eq.mpr (by kernel_rfl : fev prg O.strings_Join Tryz.f49 [a0, a1] H K = F.strings_Join a0 a1 H K) h)

/-! (loop.example/g01381/impl.Field).text: function 22 -/
def F.impl_Field_text (a0 : Value) (H : Hp) (K : Value → Hp → Prop) : Prop :=
  nw (a0 : Value).cells 27 H fun v1x1 H2 =>
  bS 1 0 #[(.string ⟨#[]⟩)] 9 [] H2 fun v5x3 H4 =>
  nw #[(.slice none 0 0)] 59 H4 fun v3x5 H6 =>
  st 1 v3x5 v5x3 H6 fun H7 =>
  jn (fun σ8 H8 =>
    ob (vFa 1 (σ8 1)) fun v17x9 =>
    ob (vLoad v17x9 H8) fun v18x10 =>
    ob (vFa 0 (σ8 1)) fun v21x11 =>
    ob (vLoad v21x11 H8) fun v22x12 =>
    ob (vLoad (σ8 3) H8) fun v26x13 =>
    HT prg I.impl_Decimal [v18x10].toArray H8 fun v19x14 H15 =>
    Le H8 H15 ∧ (ob (vStr .add v19x14 (.string ⟨#[44]⟩)) fun v20x16 =>
    HT prg I.impl_Decimal [v22x12].toArray H15 fun v23x17 H18 =>
    Le H15 H18 ∧ (ob (vStr .add v20x16 v23x17) fun v24x19 =>
    ob (vStr .add v24x19 (.string ⟨#[58]⟩)) fun v25x20 =>
    HT prg I.strings_Join [v26x13, (.string ⟨#[36]⟩)].toArray H18 fun v27x21 H22 =>
    Le H18 H22 ∧ (ob (vStr .add v25x20 v27x21) fun v28x23 =>
    ob (vStr .add v28x23 (.string ⟨#[33]⟩)) fun v29x24 =>
    K v29x24 H22)))) fun J8 =>
  ob (vFa 2 v1x1) fun v6x25 =>
  ob (vLoad v6x25 H7) fun v7x26 =>
  ob (vFa 1 v1x1) fun v8x27 =>
  ob (vLoad v8x27 H7) fun v9x28 =>
  HT prg I.slices_Chunk_int64Zint64 [v7x26, v9x28].toArray H7 fun v10x29 H30 =>
  rgE prg v10x29 [11] (fun Q31 σ31 H31 =>
    ob (vLoad (σ31 3) H31) fun v12x32 =>
    HT prg I.impl_runsText [(σ31 11)].toArray H31 fun v14x33 H34 =>
    Le H31 H34 ∧ (bS 1 1 #[(.string ⟨#[]⟩)] 9 [(0, v14x33)] H34 fun v15x35 H36 =>
    apd 1 16 #[(.string ⟨#[]⟩)] 9 v12x32 v15x35 H36 fun v16x37 H38 =>
    st 1 (σ31 3) v16x37 H38 fun H39 =>
    Q31 .normal (up (up (up (up (up (up σ31 4 (σ31 11)) 12 v12x32) 13 (σ31 11)) 14 v14x33) 15 v15x35) 16 v16x37) H39)) (blkQ 0 (thenQ J8 (retQ prg [(.tmp 2)] K))) (up (up (up (up (up (up (up (up (up (S0 [a0]) 1 v1x1) 2 (.string ⟨#[]⟩)) 5 v5x3) 3 v3x5) 6 v6x25) 7 v7x26) 8 v8x27) 9 v9x28) 10 v10x29) H30
def O.impl_Field_text : Nat → Nat × List Nat := fun i => bif Nat.beq i 5 then (0, [0, 1, 4, 5, 9, 2, 3, 6, 7, 8, 10, 11, 12, 13]) else bif Nat.beq i 4 then (0, [0, 1, 2, 3, 4, 5]) else (0, [])
theorem R.impl_Field_text {a0 : Value} {H : Hp} {K : Value → Hp → Prop} (h : F.impl_Field_text a0 H K) : HT prg I.impl_Field_text [a0].toArray H K :=
  HT_of_fev O.impl_Field_text mixed Tryz.func22 (by kernel_rfl) (Eq.mpr (by kernel_rfl : fev prg O.impl_Field_text Tryz.f22 [a0] H K = F.impl_Field_text a0 H K) h)

/-! loop.example/g01381/impl.WriteRuns: function 7 -/
def F.impl_WriteRuns (a0 : Value) (H : Hp) (K : Value → Hp → Prop) : Prop :=
  nw (a0 : Value).cells 27 H fun v1x1 H2 =>
  ob (vLoadN 3 v1x1 H2) fun v4x3 =>
  HT prg I.impl_isPlain [v4x3].toArray H2 fun v5x4 H5 =>
  ob (vUn .not v5x4) fun v6x6 =>
  cnd v6x6
    (K (.tuple #[(.string ⟨#[]⟩), (.bool false)]) H5)
    (ob (vLoadN 3 v1x1 H5) fun v7x7 =>
  HT prg I.impl_Field_text [v7x7].toArray H5 fun v8x8 H9 =>
  K (.tuple #[v8x8, (.bool true)]) H9)
def O.impl_WriteRuns : Nat → Nat × List Nat := fun i => (0, [])
theorem R.impl_WriteRuns {a0 : Value} {H : Hp} {K : Value → Hp → Prop} (h : F.impl_WriteRuns a0 H K) : HT prg I.impl_WriteRuns [a0].toArray H K :=
  HT_of_fev O.impl_WriteRuns mixed Tryz.func7 (by kernel_rfl) (Eq.mpr (by kernel_rfl : fev prg O.impl_WriteRuns Tryz.f7 [a0] H K = F.impl_WriteRuns a0 H K) h)

/-! loop.example/g01381/spec.l00In: function 62 -/
def F.spec_l00In (a0 a1 a2 : Value) (H : Hp) (K : Value → Hp → Prop) : Prop :=
  ob (vInt .geq a0 a1) fun v9x1 =>
  gop v9x1 true (fun K2 => K2 a0 H) H fun v11x3 H4 =>
  gop v9x1 true (fun K5 => K5 a2 H4) H4 fun v12x6 H7 =>
  gop v9x1 true (fun K8 => ob (vInt .leq v11x3 v12x6) fun u => K8 u H7) H7 fun v13x9 H10 =>
  ob (vPick v9x1 v13x9 (.bool false)) fun v14x11 =>
  K v14x11 H10
def O.spec_l00In : Nat → Nat × List Nat := fun i => (0, [])
theorem R.spec_l00In {a0 a1 a2 : Value} {H : Hp} {K : Value → Hp → Prop} (h : F.spec_l00In a0 a1 a2 H K) : HT prg I.spec_l00In [a0, a1, a2].toArray H K :=
  HT_of_fev O.spec_l00In mixed Tryz.func62 (by kernel_rfl) (Eq.mpr (by kernel_rfl : fev prg O.spec_l00In Tryz.f62 [a0, a1, a2] H K = F.spec_l00In a0 a1 a2 H K) h)

/-! loop.example/g01381/spec.l04Is: function 33 -/
def F.spec_l04Is (a0 : Value) (H : Hp) (K : Value → Hp → Prop) : Prop :=
  ob (vNilC a0) fun v5x1 =>
  ob (vFa 0 v5x1) fun v6x2 =>
  ob (vLoad v6x2 H) fun v7x3 =>
  HT prg I.spec_l00In [v7x3, (.int .i64 1), (.int .i64 24)].toArray H fun v8x4 H5 =>
  Le H H5 ∧ (ob (vUn .not v8x4) fun v9x6 =>
  gop v9x6 false (fun K7 => K7 a0 H5) H5 fun v11x8 H9 =>
  gop v9x6 false (fun K10 => ob (vNilC v11x8) fun u => K10 u H9) H9 fun v12x11 H12 =>
  gop v9x6 false (fun K13 => ob (vFa 1 v12x11) fun u => K13 u H12) H12 fun v13x14 H15 =>
  gop v9x6 false (fun K16 => ob (vLoad v13x14 H15) fun u => K16 u H15) H15 fun v14x17 H18 =>
  gop v9x6 false (fun K19 => HT prg I.spec_l00In [v14x17, (.int .i64 1), (.int .i64 24)].toArray H18 fun v15x20 H21 =>
  Le H18 H21 ∧ K19 v15x20 H21) H18 fun v15x22 H23 =>
  gop v9x6 false (fun K24 => ob (vUn .not v15x22) fun u => K24 u H23) H23 fun v16x25 H26 =>
  ob (vPick v9x6 (.bool true) v16x25) fun v17x27 =>
  gop v17x27 false (fun K28 => K28 a0 H26) H26 fun v19x29 H30 =>
  gop v17x27 false (fun K31 => ob (vNilC v19x29) fun u => K31 u H30) H30 fun v20x32 H33 =>
  gop v17x27 false (fun K34 => ob (vFa 2 v20x32) fun u => K34 u H33) H33 fun v21x35 H36 =>
  gop v17x27 false (fun K37 => ob (vLoad v21x35 H36) fun u => K37 u H36) H36 fun v22x38 H39 =>
  gop v17x27 false (fun K40 => ob (vLenSl v22x38) fun u => K40 u H39) H39 fun v23x41 H42 =>
  gop v17x27 false (fun K43 => K43 a0 H42) H42 fun v24x44 H45 =>
  gop v17x27 false (fun K46 => ob (vNilC v24x44) fun u => K46 u H45) H45 fun v25x47 H48 =>
  gop v17x27 false (fun K49 => ob (vFa 0 v25x47) fun u => K49 u H48) H48 fun v26x50 H51 =>
  gop v17x27 false (fun K52 => ob (vLoad v26x50 H51) fun u => K52 u H51) H51 fun v27x53 H54 =>
  gop v17x27 false (fun K55 => K55 a0 H54) H54 fun v28x56 H57 =>
  gop v17x27 false (fun K58 => ob (vNilC v28x56) fun u => K58 u H57) H57 fun v29x59 H60 =>
  gop v17x27 false (fun K61 => ob (vFa 1 v29x59) fun u => K61 u H60) H60 fun v30x62 H63 =>
  gop v17x27 false (fun K64 => ob (vLoad v30x62 H63) fun u => K64 u H63) H63 fun v31x65 H66 =>
  gop v17x27 false (fun K67 => ob (vInt .mul v27x53 v31x65) fun u => K67 u H66) H66 fun v32x68 H69 =>
  gop v17x27 false (fun K70 => ob (vInt .neq v23x41 v32x68) fun u => K70 u H69) H69 fun v33x71 H72 =>
  ob (vPick v17x27 (.bool true) v33x71) fun v34x73 =>
  cnd v34x73
    (K (.bool false) H72)
    (jn (fun σ74 H74 =>
    K (.bool true) H74) fun J74 =>
  lpE (fun Q75 σ75 H75 =>
    ob (vNilC (σ75 0)) fun v37x76 =>
    ob (vFa 2 v37x76) fun v38x77 =>
    ob (vLoad v38x77 H75) fun v39x78 =>
    ob (vLenSl v39x78) fun v40x79 =>
    ob (vInt .lss (σ75 3) v40x79) fun v41x80 =>
    cnd v41x80
      (ob (vNilC (σ75 0)) fun v45x81 =>
    ob (vFa 2 v45x81) fun v46x82 =>
    ob (vLoad v46x82 H75) fun v47x83 =>
    ob (vIx 1 v47x83 (σ75 3)) fun v49x84 =>
    ob (vLoad v49x84 H75) fun v50x85 =>
    HT prg I.spec_l00In [v50x85, (.int .i64 0), (.int .i64 9)].toArray H75 fun v51x86 H87 =>
    ob (vUn .not v51x86) fun v52x88 =>
    cnd v52x88
      (Q75 .ret (up (up (up (up (up (up (up (up (up (up (up (up (up (up (up (up (up σ75 35 (σ75 3)) 36 (σ75 0)) 37 v37x76) 38 v38x77) 39 v39x78) 40 v40x79) 41 v41x80) 44 (σ75 0)) 45 v45x81) 46 v46x82) 47 v47x83) 48 (σ75 3)) 49 v49x84) 50 v50x85) 51 v51x86) 52 v52x88) 2 (.bool false)) H87)
      (ob (vInt .add (σ75 3) (.int .i64 1)) fun v43x89 =>
    Q75 .normal (up (up (up (up (up (up (up (up (up (up (up (up (up (up (up (up (up (up (up σ75 35 (σ75 3)) 36 (σ75 0)) 37 v37x76) 38 v38x77) 39 v39x78) 40 v40x79) 41 v41x80) 44 (σ75 0)) 45 v45x81) 46 v46x82) 47 v47x83) 48 (σ75 3)) 49 v49x84) 50 v50x85) 51 v51x86) 52 v52x88) 42 (σ75 3)) 43 v43x89) 3 v43x89) H87))
      (Q75 (.exit 0) (up (up (up (up (up (up (up σ75 35 (σ75 3)) 36 (σ75 0)) 37 v37x76) 38 v38x77) 39 v39x78) 40 v40x79) 41 v41x80) H75)) (blkQ 0 (thenQ J74 (retQ prg [(.tmp 2)] K))) (up (up (up (up (up (up (up (up (up (up (up (up (up (up (up (up (up (up (up (up (up (up (up (up (up (up (up (up (up (up (up (up (up (S0 [a0]) 2 (.bool false)) 4 a0) 5 v5x1) 6 v6x2) 7 v7x3) 8 v8x4) 9 v9x6) 10 v9x6) 11 v11x8) 12 v12x11) 13 v13x14) 14 v14x17) 15 v15x22) 16 v16x25) 17 v17x27) 18 v17x27) 19 v19x29) 20 v20x32) 21 v21x35) 22 v22x38) 23 v23x41) 24 v24x44) 25 v25x47) 26 v26x50) 27 v27x53) 28 v28x56) 29 v29x59) 30 v30x62) 31 v31x65) 32 v32x68) 33 v33x71) 34 v34x73) 3 (.int .i64 0)) H72))
def O.spec_l04Is : Nat → Nat × List Nat := fun i => bif Nat.beq i 1 then (0, [0, 1, 2, 3, 4, 5, 6, 7, 8, 9, 10, 11, 12, 13, 14, 15, 16, 17, 18, 19, 20, 21, 22, 23, 24, 25, 26, 27, 28, 29, 30]) else (0, [])
theorem R.spec_l04Is {a0 : Value} {H : Hp} {K : Value → Hp → Prop} (h : F.spec_l04Is a0 H K) : HT prg I.spec_l04Is [a0].toArray H K :=
  HT_of_fev O.spec_l04Is mixed Tryz.func33 (by kernel_rfl) (Eq.mpr (by kernel_rfl : fev prg O.spec_l04Is Tryz.f33 [a0] H K = F.spec_l04Is a0 H K) h)

/-! loop.example/g01381/spec.l04Plain: function 23 -/
def F.spec_l04Plain (a0 : Value) (H : Hp) (K : Value → Hp → Prop) : Prop :=
  HT prg I.spec_l04Is [a0].toArray H fun v5x1 H2 =>
  ob (vUn .not v5x1) fun v6x3 =>
  cnd v6x3
    (K (.bool false) H2)
    (jn (fun σ4 H4 =>
    K (.bool true) H4) fun J4 =>
  lpE (fun Q5 σ5 H5 =>
    ob (vNilC (σ5 0)) fun v9x6 =>
    ob (vFa 2 v9x6) fun v10x7 =>
    ob (vLoad v10x7 H5) fun v11x8 =>
    ob (vLenSl v11x8) fun v12x9 =>
    ob (vInt .lss (σ5 3) v12x9) fun v13x10 =>
    cnd v13x10
      (ob (vNilC (σ5 0)) fun v17x11 =>
    ob (vFa 2 v17x11) fun v18x12 =>
    ob (vLoad v18x12 H5) fun v19x13 =>
    ob (vIx 1 v19x13 (σ5 3)) fun v21x14 =>
    ob (vLoad v21x14 H5) fun v22x15 =>
    ob (vInt .gtr v22x15 (.int .i64 1)) fun v23x16 =>
    cnd v23x16
      (Q5 .ret (up (up (up (up (up (up (up (up (up (up (up (up (up (up (up (up σ5 7 (σ5 3)) 8 (σ5 0)) 9 v9x6) 10 v10x7) 11 v11x8) 12 v12x9) 13 v13x10) 16 (σ5 0)) 17 v17x11) 18 v18x12) 19 v19x13) 20 (σ5 3)) 21 v21x14) 22 v22x15) 23 v23x16) 2 (.bool false)) H5)
      (ob (vInt .add (σ5 3) (.int .i64 1)) fun v15x17 =>
    Q5 .normal (up (up (up (up (up (up (up (up (up (up (up (up (up (up (up (up (up (up σ5 7 (σ5 3)) 8 (σ5 0)) 9 v9x6) 10 v10x7) 11 v11x8) 12 v12x9) 13 v13x10) 16 (σ5 0)) 17 v17x11) 18 v18x12) 19 v19x13) 20 (σ5 3)) 21 v21x14) 22 v22x15) 23 v23x16) 14 (σ5 3)) 15 v15x17) 3 v15x17) H5))
      (Q5 (.exit 0) (up (up (up (up (up (up (up σ5 7 (σ5 3)) 8 (σ5 0)) 9 v9x6) 10 v10x7) 11 v11x8) 12 v12x9) 13 v13x10) H5)) (blkQ 0 (thenQ J4 (retQ prg [(.tmp 2)] K))) (up (up (up (up (up (S0 [a0]) 2 (.bool false)) 4 a0) 5 v5x1) 6 v6x3) 3 (.int .i64 0)) H2)
def O.spec_l04Plain : Nat → Nat × List Nat := fun i => (0, [])
theorem R.spec_l04Plain {a0 : Value} {H : Hp} {K : Value → Hp → Prop} (h : F.spec_l04Plain a0 H K) : HT prg I.spec_l04Plain [a0].toArray H K :=
  HT_of_fev O.spec_l04Plain mixed Tryz.func23 (by kernel_rfl) (Eq.mpr (by kernel_rfl : fev prg O.spec_l04Plain Tryz.f23 [a0] H K = F.spec_l04Plain a0 H K) h)

/-! loop.example/g01381/spec.l05Number: function 50 -/
def F.spec_l05Number (a0 : Value) (H : Hp) (K : Value → Hp → Prop) : Prop :=
  ob (vInt .lss a0 (.int .i64 10)) fun v4x1 =>
  cnd v4x1
    (ob (vInt .add (.int .i64 48) a0) fun v6x2 =>
    ob (vCI .u8 v6x2) fun v7x3 =>
    bS 1 1 #[(.int .u8 0)] 5 [(0, v7x3)] H fun v8x4 H5 =>
    ob (val prg (convert 22 9 v8x4) H5) fun v9x6 =>
    K v9x6 H5)
    ((ob (vInt .quo a0 (.int .i64 10)) fun v11x7 =>
  ob (vInt .rem a0 (.int .i64 10)) fun v14x8 =>
  ob (vInt .add (.int .i64 48) v14x8) fun v15x9 =>
  ob (vCI .u8 v15x9) fun v16x10 =>
  HT prg I.spec_l05Number [v11x7].toArray H fun v12x11 H12 =>
  Le H H12 ∧ (bS 1 1 #[(.int .u8 0)] 5 [(0, v16x10)] H12 fun v17x13 H14 =>
  ob (val prg (convert 22 9 v17x13) H14) fun v18x15 =>
  ob (vStr .add v12x11 v18x15) fun v19x16 =>
  K v19x16 H14)) ∧ (ob (vInt .quo a0 (.int .i64 10)) fun v11x17 =>
  ob (vInt .rem a0 (.int .i64 10)) fun v14x18 =>
  ob (vInt .add (.int .i64 48) v14x18) fun v15x19 =>
  ob (vCI .u8 v15x19) fun v16x20 =>
  bS 1 1 #[(.int .u8 0)] 5 [(0, v16x20)] H fun v17x21 H22 =>
  ob (val prg (convert 22 9 v17x21) H22) fun v18x23 =>
  HT prg I.spec_l05Number [v11x17].toArray H22 fun v12x24 H25 =>
  Le H22 H25 ∧ (ob (vStr .add v12x24 v18x23) fun v19x26 =>
  K v19x26 H25)))
def O.spec_l05Number : Nat → Nat × List Nat := fun i => bif Nat.beq i 3 then (0, [1002, 1008, 0, 1, 3, 4, 5, 6, 2, 7, 8, 9, 10, 0, 1, 3, 4, 5, 6, 7, 8, 2, 9, 10]) else (0, [])
theorem R.spec_l05Number {a0 : Value} {H : Hp} {K : Value → Hp → Prop} (h : F.spec_l05Number a0 H K) : HT prg I.spec_l05Number [a0].toArray H K :=
  HT_of_fev O.spec_l05Number mixed Tryz.func50 (by kernel_rfl) (Eq.mpr (by kernel_rfl : fev prg O.spec_l05Number Tryz.f50 [a0] H K = F.spec_l05Number a0 H K) h)

/-! loop.example/g01381/spec.l05Write: function 24 -/
def F.spec_l05Write (a0 : Value) (H : Hp) (K : Value → Hp → Prop) : Prop :=
  ob (vNilC a0) fun v10x1 =>
  ob (vFa 1 v10x1) fun v11x2 =>
  ob (vLoad v11x2 H) fun v12x3 =>
  ob (vNilC a0) fun v16x4 =>
  ob (vFa 0 v16x4) fun v17x5 =>
  ob (vLoad v17x5 H) fun v18x6 =>
  HT prg I.spec_l05Number [v12x3].toArray H fun v13x7 H8 =>
  Le H H8 ∧ (ob (vStr .add v13x7 (.string ⟨#[44]⟩)) fun v14x9 =>
  HT prg I.spec_l05Number [v18x6].toArray H8 fun v19x10 H11 =>
  Le H8 H11 ∧ (ob (vStr .add v14x9 v19x10) fun v20x12 =>
  ob (vStr .add v20x12 (.string ⟨#[58]⟩)) fun v21x13 =>
  jn (fun σ14 H14 =>
    ob (vStr .add (σ14 3) (.string ⟨#[33]⟩)) fun v108x15 =>
    K v108x15 H14) fun J14 =>
  lpE (fun Q16 σ16 H16 =>
    ob (vNilC (σ16 0)) fun v24x17 =>
    ob (vFa 0 v24x17) fun v25x18 =>
    ob (vLoad v25x18 H16) fun v26x19 =>
    ob (vInt .lss (σ16 4) v26x19) fun v27x20 =>
    cnd v27x20
      (jn (fun σ21 H21 =>
      ob (vInt .add (σ21 4) (.int .i64 1)) fun v29x22 =>
      Q16 .normal (up (up (up σ21 28 (σ21 4)) 29 v29x22) 4 v29x22) H21) fun J21 =>
    jn (fun σ23 H23 =>
      ob (vNilC (σ23 0)) fun v35x24 =>
      ob (vFa 2 v35x24) fun v36x25 =>
      ob (vLoad v36x25 H23) fun v37x26 =>
      ob (vNilC (σ23 0)) fun v40x27 =>
      ob (vFa 1 v40x27) fun v41x28 =>
      ob (vLoad v41x28 H23) fun v42x29 =>
      ob (vInt .mul (σ23 4) v42x29) fun v43x30 =>
      ob (vInt .add (σ23 4) (.int .i64 1)) fun v45x31 =>
      ob (vNilC (σ23 0)) fun v47x32 =>
      ob (vFa 1 v47x32) fun v48x33 =>
      ob (vLoad v48x33 H23) fun v49x34 =>
      ob (vInt .mul v45x31 v49x34) fun v50x35 =>
      ob (vSl3 1 v37x26 (some v43x30) (some v50x35) none) fun v51x36 =>
      ob (vLenSl v51x36) fun v53x37 =>
      jn (fun σ38 H38 =>
        lpE (fun Q39 σ39 H39 =>
          ob (vInt .lss (σ39 7) (σ39 6)) fun v68x40 =>
          cnd v68x40
            (jn (fun σ41 H41 =>
            ob (vInt .gtr (σ41 8) (.int .i64 1)) fun v90x42 =>
            cnd v90x42
              (HT prg I.spec_l05Number [(σ41 8)].toArray H41 fun v93x43 H44 =>
              ob (vStr .add (σ41 3) v93x43) fun v94x45 =>
              ob (vIx 1 (σ41 5) (σ41 7)) fun v97x46 =>
            ob (vLoad v97x46 H44) fun v98x47 =>
            ob (vInt .eql v98x47 (.int .i64 1)) fun v99x48 =>
            cnd v99x48
              (ob (vStr .add v94x45 (.string ⟨#[111]⟩)) fun v101x49 =>
              ob (vInt .add (σ41 7) (σ41 8)) fun v106x50 =>
            Q39 .normal (up (up (up (up (up (up (up (up (up (up (up (up (up (up (up (up (up (up (up σ41 89 (σ41 8)) 90 v90x42) 91 (σ41 3)) 92 (σ41 8)) 93 v93x43) 94 v94x45) 3 v94x45) 95 (σ41 5)) 96 (σ41 7)) 97 v97x46) 98 v98x47) 99 v99x48) 100 v94x45) 101 v101x49) 3 v101x49) 104 (σ41 7)) 105 (σ41 8)) 106 v106x50) 7 v106x50) H44)
              (ob (vStr .add v94x45 (.string ⟨#[98]⟩)) fun v103x51 =>
              ob (vInt .add (σ41 7) (σ41 8)) fun v106x52 =>
            Q39 .normal (up (up (up (up (up (up (up (up (up (up (up (up (up (up (up (up (up (up (up σ41 89 (σ41 8)) 90 v90x42) 91 (σ41 3)) 92 (σ41 8)) 93 v93x43) 94 v94x45) 3 v94x45) 95 (σ41 5)) 96 (σ41 7)) 97 v97x46) 98 v98x47) 99 v99x48) 102 v94x45) 103 v103x51) 3 v103x51) 104 (σ41 7)) 105 (σ41 8)) 106 v106x52) 7 v106x52) H44))
              (ob (vIx 1 (σ41 5) (σ41 7)) fun v97x53 =>
            ob (vLoad v97x53 H41) fun v98x54 =>
            ob (vInt .eql v98x54 (.int .i64 1)) fun v99x55 =>
            cnd v99x55
              (ob (vStr .add (σ41 3) (.string ⟨#[111]⟩)) fun v101x56 =>
              ob (vInt .add (σ41 7) (σ41 8)) fun v106x57 =>
            Q39 .normal (up (up (up (up (up (up (up (up (up (up (up (up (up (up σ41 89 (σ41 8)) 90 v90x42) 95 (σ41 5)) 96 (σ41 7)) 97 v97x53) 98 v98x54) 99 v99x55) 100 (σ41 3)) 101 v101x56) 3 v101x56) 104 (σ41 7)) 105 (σ41 8)) 106 v106x57) 7 v106x57) H41)
              (ob (vStr .add (σ41 3) (.string ⟨#[98]⟩)) fun v103x58 =>
              ob (vInt .add (σ41 7) (σ41 8)) fun v106x59 =>
            Q39 .normal (up (up (up (up (up (up (up (up (up (up (up (up (up (up σ41 89 (σ41 8)) 90 v90x42) 95 (σ41 5)) 96 (σ41 7)) 97 v97x53) 98 v98x54) 99 v99x55) 102 (σ41 3)) 103 v103x58) 3 v103x58) 104 (σ41 7)) 105 (σ41 8)) 106 v106x59) 7 v106x59) H41))) fun J41 =>
          lpE (fun Q60 σ60 H60 =>
            ob (vInt .add (σ60 7) (σ60 8)) fun v71x61 =>
            ob (vInt .lss v71x61 (σ60 6)) fun v73x62 =>
            gop v73x62 true (fun K63 => K63 (σ60 5) H60) H60 fun v75x64 H65 =>
            gop v73x62 true (fun K66 => K66 (σ60 7) H65) H65 fun v76x67 H68 =>
            gop v73x62 true (fun K69 => K69 (σ60 8) H68) H68 fun v77x70 H71 =>
            gop v73x62 true (fun K72 => ob (vInt .add v76x67 v77x70) fun u => K72 u H71) H71 fun v78x73 H74 =>
            gop v73x62 true (fun K75 => ob (vIx 1 v75x64 v78x73) fun u => K75 u H74) H74 fun v79x76 H77 =>
            gop v73x62 true (fun K78 => ob (vLoad v79x76 H77) fun u => K78 u H77) H77 fun v80x79 H80 =>
            gop v73x62 true (fun K81 => K81 (σ60 5) H80) H80 fun v81x82 H83 =>
            gop v73x62 true (fun K84 => K84 (σ60 7) H83) H83 fun v82x85 H86 =>
            gop v73x62 true (fun K87 => ob (vIx 1 v81x82 v82x85) fun u => K87 u H86) H86 fun v83x88 H89 =>
            gop v73x62 true (fun K90 => ob (vLoad v83x88 H89) fun u => K90 u H89) H89 fun v84x91 H92 =>
            gop v73x62 true (fun K93 => ob (vInt .eql v80x79 v84x91) fun u => K93 u H92) H92 fun v85x94 H95 =>
            ob (vPick v73x62 v85x94 (.bool false)) fun v86x96 =>
            cnd v86x96
              (ob (vInt .add (σ60 8) (.int .i64 1)) fun v88x97 =>
            Q60 .normal (up (up (up (up (up (up (up (up (up (up (up (up (up (up (up (up (up (up (up (up (up σ60 69 (σ60 7)) 70 (σ60 8)) 71 v71x61) 72 (σ60 6)) 73 v73x62) 74 v73x62) 75 v75x64) 76 v76x67) 77 v77x70) 78 v78x73) 79 v79x76) 80 v80x79) 81 v81x82) 82 v82x85) 83 v83x88) 84 v84x91) 85 v85x94) 86 v86x96) 87 (σ60 8)) 88 v88x97) 8 v88x97) H95)
              (Q60 (.exit 6) (up (up (up (up (up (up (up (up (up (up (up (up (up (up (up (up (up (up σ60 69 (σ60 7)) 70 (σ60 8)) 71 v71x61) 72 (σ60 6)) 73 v73x62) 74 v73x62) 75 v75x64) 76 v76x67) 77 v77x70) 78 v78x73) 79 v79x76) 80 v80x79) 81 v81x82) 82 v82x85) 83 v83x88) 84 v84x91) 85 v85x94) 86 v86x96) H95)) (blkQ 6 (thenQ J41 (blkQ 5 Q39))) (up (up (up (up σ39 66 (σ39 7)) 67 (σ39 6)) 68 v68x40) 8 (.int .i64 1)) H39)
            (Q39 (.exit 4) (up (up (up σ39 66 (σ39 7)) 67 (σ39 6)) 68 v68x40) H39)) (blkQ 4 (blkQ 1 (thenQ J21 Q16))) (up σ38 7 (.int .i64 0)) H38) fun J38 =>
      lpE (fun Q98 σ98 H98 =>
        ob (vInt .gtr (σ98 6) (.int .i64 0)) fun v55x99 =>
        gop v55x99 true (fun K100 => K100 (σ98 5) H98) H98 fun v57x101 H102 =>
        gop v55x99 true (fun K103 => K103 (σ98 6) H102) H102 fun v58x104 H105 =>
        gop v55x99 true (fun K106 => ob (vInt .sub v58x104 (.int .i64 1)) fun u => K106 u H105) H105 fun v59x107 H108 =>
        gop v55x99 true (fun K109 => ob (vIx 1 v57x101 v59x107) fun u => K109 u H108) H108 fun v60x110 H111 =>
        gop v55x99 true (fun K112 => ob (vLoad v60x110 H111) fun u => K112 u H111) H111 fun v61x113 H114 =>
        gop v55x99 true (fun K115 => ob (vInt .eql v61x113 (.int .i64 0)) fun u => K115 u H114) H114 fun v62x116 H117 =>
        ob (vPick v55x99 v62x116 (.bool false)) fun v63x118 =>
        cnd v63x118
          (ob (vInt .sub (σ98 6) (.int .i64 1)) fun v65x119 =>
        Q98 .normal (up (up (up (up (up (up (up (up (up (up (up (up (up σ98 54 (σ98 6)) 55 v55x99) 56 v55x99) 57 v57x101) 58 v58x104) 59 v59x107) 60 v60x110) 61 v61x113) 62 v62x116) 63 v63x118) 64 (σ98 6)) 65 v65x119) 6 v65x119) H117)
          (Q98 (.exit 2) (up (up (up (up (up (up (up (up (up (up σ98 54 (σ98 6)) 55 v55x99) 56 v55x99) 57 v57x101) 58 v58x104) 59 v59x107) 60 v60x110) 61 v61x113) 62 v62x116) 63 v63x118) H117)) (blkQ 2 (thenQ J38 (blkQ 1 (thenQ J21 Q16)))) (up (up (up (up (up (up (up (up (up (up (up (up (up (up (up (up (up (up (up (up (up (up σ23 34 (σ23 0)) 35 v35x24) 36 v36x25) 37 v37x26) 38 (σ23 4)) 39 (σ23 0)) 40 v40x27) 41 v41x28) 42 v42x29) 43 v43x30) 44 (σ23 4)) 45 v45x31) 46 (σ23 0)) 47 v47x32) 48 v48x33) 49 v49x34) 50 v50x35) 51 v51x36) 5 v51x36) 52 v51x36) 53 v53x37) 6 v53x37) H23) fun J23 =>
    ob (vInt .gtr (σ16 4) (.int .i64 0)) fun v31x120 =>
    cnd v31x120
      (ob (vStr .add (σ16 3) (.string ⟨#[36]⟩)) fun v33x121 =>
      J23 (up (up (up (up (up (up (up (up (up (up (up σ16 22 (σ16 4)) 23 (σ16 0)) 24 v24x17) 25 v25x18) 26 v26x19) 27 v27x20) 30 (σ16 4)) 31 v31x120) 32 (σ16 3)) 33 v33x121) 3 v33x121) H16)
      (J23 (up (up (up (up (up (up (up (up σ16 22 (σ16 4)) 23 (σ16 0)) 24 v24x17) 25 v25x18) 26 v26x19) 27 v27x20) 30 (σ16 4)) 31 v31x120) H16))
      (Q16 (.exit 0) (up (up (up (up (up (up σ16 22 (σ16 4)) 23 (σ16 0)) 24 v24x17) 25 v25x18) 26 v26x19) 27 v27x20) H16)) (blkQ 0 (thenQ J14 (retQ prg [(.tmp 2)] K))) (up (up (up (up (up (up (up (up (up (up (up (up (up (up (up (up (S0 [a0]) 2 (.string ⟨#[]⟩)) 9 a0) 10 v10x1) 11 v11x2) 12 v12x3) 15 a0) 16 v16x4) 17 v17x5) 18 v18x6) 13 v13x7) 14 v14x9) 19 v19x10) 20 v20x12) 21 v21x13) 3 v21x13) 4 (.int .i64 0)) H11))
def O.spec_l05Write : Nat → Nat × List Nat := fun i => bif Nat.beq i 1 then (0, [0, 1, 2, 3, 6, 7, 8, 9, 4, 5, 10, 11, 12, 13]) else bif Nat.beq i 7 then (0, [0, 1, 2, 3, 4, 5, 6, 7, 8, 9, 10, 11, 12, 13, 14, 15, 16, 17, 18]) else bif Nat.beq i 14 then (0, [0, 1, 2, 3, 4, 5, 6, 7, 8, 9, 10, 11, 12, 13, 14, 15, 16, 17]) else (0, [])
theorem R.spec_l05Write {a0 : Value} {H : Hp} {K : Value → Hp → Prop} (h : F.spec_l05Write a0 H K) : HT prg I.spec_l05Write [a0].toArray H K :=
  HT_of_fev O.spec_l05Write mixed Tryz.func24 (by kernel_rfl) (Eq.mpr (by kernel_rfl : fev prg O.spec_l05Write Tryz.f24 [a0] H K = F.spec_l05Write a0 H K) h)

/-! loop.example/g01381/spec.WriteRuns: function 8 -/
def F.spec_WriteRuns (a0 : Value) (H : Hp) (K : Value → Hp → Prop) : Prop :=
  nw (a0 : Value).cells 27 H fun v1x1 H2 =>
  HT prg I.spec_l04Plain [v1x1].toArray H2 fun v4x3 H4 =>
  ob (vUn .not v4x3) fun v5x5 =>
  cnd v5x5
    (K (.tuple #[(.string ⟨#[]⟩), (.bool false)]) H4)
    (HT prg I.spec_l05Write [v1x1].toArray H4 fun v6x6 H7 =>
  K (.tuple #[v6x6, (.bool true)]) H7)
def O.spec_WriteRuns : Nat → Nat × List Nat := fun i => (0, [])
theorem R.spec_WriteRuns {a0 : Value} {H : Hp} {K : Value → Hp → Prop} (h : F.spec_WriteRuns a0 H K) : HT prg I.spec_WriteRuns [a0].toArray H K :=
  HT_of_fev O.spec_WriteRuns mixed Tryz.func8 (by kernel_rfl) (Eq.mpr (by kernel_rfl : fev prg O.spec_WriteRuns Tryz.f8 [a0] H K = F.spec_WriteRuns a0 H K) h)

end Go.Proofs.YtijmoehbgkibnaaGreatDoor
/- Functions' texts over a partial heap. -/
namespace Go.Proofs.YtijmoehbgkibnaaGreatDoor
open HL
set_option linter.unusedVariables false
set_option maxRecDepth 100000
set_option maxHeartbeats 4000000
/-! loop.example/g01381/impl.isValue: function 53 -/
def F.impl_isValue (a0 : Value) (H : Hp) (K : Value → Hp → Prop) : Prop :=
  HT prg I.impl_within [a0, (.int .i64 (-1000000000000000)), (.int .i64 1000000000000000)].toArray H fun v4x1 H2 =>
  K v4x1 H2
def O.impl_isValue : Nat → Nat × List Nat := fun i => (0, [])
theorem R.impl_isValue {a0 : Value} {H : Hp} {K : Value → Hp → Prop} (h : F.impl_isValue a0 H K) : HT prg I.impl_isValue [a0].toArray H K :=
  HT_of_fev O.impl_isValue mixed Tryz.func53 (by kernel_rfl) (Eq.mpr (by kernel_rfl : fev prg O.impl_isValue Tryz.f53 [a0] H K = F.impl_isValue a0 H K) h)

/-! loop.example/g01381/impl.ReadDecimal: function 26 -/
def F.impl_ReadDecimal (a0 : Value) (H : Hp) (K : Value → Hp → Prop) : Prop :=
  HT prg I.strconv_ParseInt [a0, (.int .i64 10), (.int .i64 64)].toArray H fun v8x1 H2 =>
  ob (vExt v8x1 0) fun v9x3 =>
  ob (vExt v8x1 1) fun v10x4 =>
  ob (val prg (do eqGuard .neq 85 (.tmp 11) (.const .nilIface) v10x4 .nilIface; binOp .neq 85 v10x4 .nilIface) H2) fun v12x5 =>
  gop v12x5 false (fun K6 => K6 v9x3 H2) H2 fun v14x7 H8 =>
  gop v12x5 false (fun K9 => HT prg I.impl_isValue [v14x7].toArray H8 K9) H8 fun v15x10 H11 =>
  gop v12x5 false (fun K12 => ob (vUn .not v15x10) fun u => K12 u H11) H11 fun v16x13 H14 =>
  ob (vPick v12x5 (.bool true) v16x13) fun v17x15 =>
  gop v17x15 false (fun K16 => K16 v9x3 H14) H14 fun v19x17 H18 =>
  gop v17x15 false (fun K19 => HT prg I.impl_Decimal [v19x17].toArray H18 K19) H18 fun v20x20 H21 =>
  gop v17x15 false (fun K22 => K22 a0 H21) H21 fun v21x23 H24 =>
  gop v17x15 false (fun K25 => ob (vStr .neq v20x20 v21x23) fun u => K25 u H24) H24 fun v22x26 H27 =>
  ob (vPick v17x15 (.bool true) v22x26) fun v23x28 =>
  cnd v23x28
    (K (.tuple #[(.int .i64 0), (.bool false)]) H27)
    (K (.tuple #[v9x3, (.bool true)]) H27)
def O.impl_ReadDecimal : Nat → Nat × List Nat := fun i => (0, [])
theorem R.impl_ReadDecimal {a0 : Value} {H : Hp} {K : Value → Hp → Prop} (h : F.impl_ReadDecimal a0 H K) : HT prg I.impl_ReadDecimal [a0].toArray H K :=
  HT_of_fev O.impl_ReadDecimal mixed Tryz.func26 (by kernel_rfl) (Eq.mpr (by kernel_rfl : fev prg O.impl_ReadDecimal Tryz.f26 [a0] H K = F.impl_ReadDecimal a0 H K) h)

/-! loop.example/g01381/impl.bit: function 57 -/
def F.impl_bit (a0 : Value) (H : Hp) (K : Value → Hp → Prop) : Prop :=
  cnd a0
    (K (.int .i64 1) H)
    (K (.int .i64 0) H)
def O.impl_bit : Nat → Nat × List Nat := fun i => (0, [])
theorem R.impl_bit {a0 : Value} {H : Hp} {K : Value → Hp → Prop} (h : F.impl_bit a0 H K) : HT prg I.impl_bit [a0].toArray H K :=
  HT_of_fev O.impl_bit mixed Tryz.func57 (by kernel_rfl) (Eq.mpr (by kernel_rfl : fev prg O.impl_bit Tryz.f57 [a0] H K = F.impl_bit a0 H K) h)

/-! loop.example/g01381/impl.readRow: function 30 -/
def F.impl_readRow (a0 a1 : Value) (H : Hp) (K : Value → Hp → Prop) : Prop :=
  bS 1 0 #[(.int .i64 0)] 2 [] H fun v11x1 H2 =>
  jn (fun σ3 H3 =>
    ob (vLenSl (σ3 6)) fun v53x4 =>
    ob (vInt .gtr v53x4 (σ3 1)) fun v55x5 =>
    cnd v55x5
      (K (.tuple #[(.slice none 0 0), (.bool false)]) H3)
      (ob (vLenSl (σ3 6)) fun v59x6 =>
    ob (vInt .sub (σ3 1) v59x6) fun v60x7 =>
    apm 1 8 #[(.int .i64 0)] 2 (σ3 6) v60x7 H3 fun v61x8 H9 =>
    K (.tuple #[v61x8, (.bool true)]) H9)) fun J3 =>
  lpE (fun Q10 σ10 H10 =>
    ob (vStr .neq (σ10 0) (.string ⟨#[]⟩)) fun v13x11 =>
    cnd v13x11
      (HT prg I.strings_IndexAny [(σ10 0), (.string ⟨#[98, 111]⟩)].toArray H10 fun v15x12 H13 =>
    ob (vInt .lss v15x12 (.int .i64 0)) fun v17x14 =>
    cnd v17x14
      (Q10 .ret (up (up (up (up (up (up (up (up (up σ10 12 (σ10 0)) 13 v13x11) 14 (σ10 0)) 15 v15x12) 7 v15x12) 16 v15x12) 17 v17x14) 4 (.slice none 0 0)) 5 (.bool false)) H13)
      (jn (fun σ15 H15 =>
      jn (fun σ16 H16 =>
        ob (vInt .add (σ16 7) (.int .i64 1)) fun v50x17 =>
        ob (vSlS (σ16 0) (some v50x17) none) fun v51x18 =>
        Q10 .normal (up (up (up (up (up σ16 48 (σ16 0)) 49 (σ16 7)) 50 v50x17) 51 v51x18) 0 v51x18) H16) fun J16 =>
      lpE (fun Q19 σ19 H19 =>
        ob (vInt .lss (σ19 37) (σ19 36)) fun v38x20 =>
        cnd v38x20
          (ob (vIndexS (σ19 0) (σ19 7)) fun v42x21 =>
        ob (vInt .eql v42x21 (.int .u8 111)) fun v43x22 =>
        HT prg I.impl_bit [v43x22].toArray H19 fun v44x23 H24 =>
        bS 1 1 #[(.int .i64 0)] 2 [(0, v44x23)] H24 fun v45x25 H26 =>
        apd 1 8 #[(.int .i64 0)] 2 (σ19 6) v45x25 H26 fun v46x27 H28 =>
        ob (vInt .add (σ19 37) (.int .i64 1)) fun v47x29 =>
        Q19 .normal (up (up (up (up (up (up (up (up (up (up (up (up σ19 38 v38x20) 39 (σ19 6)) 40 (σ19 0)) 41 (σ19 7)) 42 v42x21) 43 v43x22) 44 v44x23) 45 v45x25) 46 v46x27) 6 v46x27) 47 v47x29) 37 v47x29) H28)
          (Q19 (.exit 2) (up σ19 38 v38x20) H19)) (blkQ 2 (thenQ J16 (blkQ 1 Q10))) (up (up σ15 36 (σ15 8)) 37 (.int .i64 0)) H15) fun J15 =>
    ob (vInt .gtr v15x12 (.int .i64 0)) fun v19x30 =>
    cnd v19x30
      (ob (vSlS (σ10 0) none (some v15x12)) fun v23x31 =>
      HT prg I.impl_ReadDecimal [v23x31].toArray H13 fun v24x32 H33 =>
      ob (vExt v24x32 0) fun v25x34 =>
      ob (vExt v24x32 1) fun v26x35 =>
      ob (vUn .not v26x35) fun v28x36 =>
      gop v28x36 false (fun K37 => K37 v25x34 H33) H33 fun v30x38 H39 =>
      gop v28x36 false (fun K40 => K40 (σ10 1) H39) H39 fun v31x41 H42 =>
      gop v28x36 false (fun K43 => HT prg I.impl_within [v30x38, (.int .i64 2), v31x41].toArray H42 K43) H42 fun v32x44 H45 =>
      gop v28x36 false (fun K46 => ob (vUn .not v32x44) fun u => K46 u H45) H45 fun v33x47 H48 =>
      ob (vPick v28x36 (.bool true) v33x47) fun v34x49 =>
      cnd v34x49
        (Q10 .ret (up (up (up (up (up (up (up (up (up (up (up (up (up (up (up (up (up (up (up (up (up (up (up (up (up (up (up (up (up σ10 12 (σ10 0)) 13 v13x11) 14 (σ10 0)) 15 v15x12) 7 v15x12) 16 v15x12) 17 v17x14) 8 (.int .i64 1)) 18 v15x12) 19 v19x30) 21 (σ10 0)) 22 v15x12) 23 v23x31) 24 v24x32) 20 v24x32) 25 v25x34) 26 v26x35) 9 v25x34) 10 v26x35) 27 v26x35) 28 v28x36) 29 v28x36) 30 v30x38) 31 v31x41) 32 v32x44) 33 v33x47) 34 v34x49) 4 (.slice none 0 0)) 5 (.bool false)) H48)
        (J15 (up (up (up (up (up (up (up (up (up (up (up (up (up (up (up (up (up (up (up (up (up (up (up (up (up (up (up (up (up σ10 12 (σ10 0)) 13 v13x11) 14 (σ10 0)) 15 v15x12) 7 v15x12) 16 v15x12) 17 v17x14) 8 (.int .i64 1)) 18 v15x12) 19 v19x30) 21 (σ10 0)) 22 v15x12) 23 v23x31) 24 v24x32) 20 v24x32) 25 v25x34) 26 v26x35) 9 v25x34) 10 v26x35) 27 v26x35) 28 v28x36) 29 v28x36) 30 v30x38) 31 v31x41) 32 v32x44) 33 v33x47) 34 v34x49) 35 v25x34) 8 v25x34) H48))
      (J15 (up (up (up (up (up (up (up (up (up (up σ10 12 (σ10 0)) 13 v13x11) 14 (σ10 0)) 15 v15x12) 7 v15x12) 16 v15x12) 17 v17x14) 8 (.int .i64 1)) 18 v15x12) 19 v19x30) H13)))
      (Q10 (.exit 0) (up (up σ10 12 (σ10 0)) 13 v13x11) H10)) (blkQ 0 (thenQ J3 (retQ prg [(.tmp 4), (.tmp 5)] K))) (up (up (up (up (S0 [a0, a1]) 4 (.slice none 0 0)) 5 (.bool false)) 11 v11x1) 6 v11x1) H2
def O.impl_readRow : Nat → Nat × List Nat := fun i => (0, [])
theorem R.impl_readRow {a0 a1 : Value} {H : Hp} {K : Value → Hp → Prop} (h : F.impl_readRow a0 a1 H K) : HT prg I.impl_readRow [a0, a1].toArray H K :=
  HT_of_fev O.impl_readRow mixed Tryz.func30 (by kernel_rfl) (Eq.mpr (by kernel_rfl : fev prg O.impl_readRow Tryz.f30 [a0, a1] H K = F.impl_readRow a0 a1 H K) h)

/-! loop.example/g01381/impl.ReadRuns: function 9 -/
def F.impl_ReadRuns (a0 : Value) (H : Hp) (K : Value → Hp → Prop) : Prop :=
  nw #[(.int .i64 0), (.int .i64 0), (.slice none 0 0)] 27 H fun v2x1 H2 =>
  ob (vLenS a0) fun v21x3 =>
  ob (vInt .gtr v21x3 (.int .i64 1200)) fun v22x4 =>
  cnd v22x4
    (ob (vBuild [(0, 1), (1, 1), (2, 1)] (.agg #[(.int .i64 0), (.int .i64 0), (.slice none 0 0)]) []) fun v23x5 =>
    st 3 v2x1 v23x5 H2 fun H6 =>
    ob (vLoadN 3 v2x1 H6) fun u7 => K (.tuple #[u7, (.bool false)]) H6)
    (HT prg I.strings_Cut [a0, (.string ⟨#[58]⟩)].toArray H2 fun v26x8 H9 =>
  ob (vExt v26x8 0) fun v27x10 =>
  ob (vExt v26x8 1) fun v28x11 =>
  ob (vExt v26x8 2) fun v29x12 =>
  HT prg I.strings_Cut [v27x10, (.string ⟨#[44]⟩)].toArray H9 fun v32x13 H14 =>
  ob (vExt v32x13 0) fun v33x15 =>
  ob (vExt v32x13 1) fun v34x16 =>
  ob (vExt v32x13 2) fun v35x17 =>
  HT prg I.impl_ReadDecimal [v33x15].toArray H14 fun v38x18 H19 =>
  ob (vExt v38x18 0) fun v39x20 =>
  ob (vExt v38x18 1) fun v40x21 =>
  HT prg I.impl_ReadDecimal [v34x16].toArray H19 fun v43x22 H23 =>
  ob (vExt v43x22 0) fun v44x24 =>
  ob (vExt v43x22 1) fun v45x25 =>
  HT prg I.strings_CutSuffix [v28x11, (.string ⟨#[33]⟩)].toArray H23 fun v48x26 H27 =>
  ob (vExt v48x26 0) fun v49x28 =>
  ob (vExt v48x26 1) fun v50x29 =>
  ob (vUn .not v40x21) fun v52x30 =>
  gop v52x30 false (fun K31 => K31 v45x25 H27) H27 fun v54x32 H33 =>
  gop v52x30 false (fun K34 => ob (vUn .not v54x32) fun u => K34 u H33) H33 fun v55x35 H36 =>
  ob (vPick v52x30 (.bool true) v55x35) fun v56x37 =>
  gop v56x37 false (fun K38 => K38 v50x29 H36) H36 fun v58x39 H40 =>
  gop v56x37 false (fun K41 => ob (vUn .not v58x39) fun u => K41 u H40) H40 fun v59x42 H43 =>
  ob (vPick v56x37 (.bool true) v59x42) fun v60x44 =>
  gop v60x44 false (fun K45 => K45 v44x24 H43) H43 fun v62x46 H47 =>
  gop v60x44 false (fun K48 => HT prg I.impl_isSide [v62x46].toArray H47 K48) H47 fun v63x49 H50 =>
  gop v60x44 false (fun K51 => ob (vUn .not v63x49) fun u => K51 u H50) H50 fun v64x52 H53 =>
  ob (vPick v60x44 (.bool true) v64x52) fun v65x54 =>
  gop v65x54 false (fun K55 => K55 v39x20 H53) H53 fun v67x56 H57 =>
  gop v65x54 false (fun K58 => HT prg I.impl_isSide [v67x56].toArray H57 K58) H57 fun v68x59 H60 =>
  gop v65x54 false (fun K61 => ob (vUn .not v68x59) fun u => K61 u H60) H60 fun v69x62 H63 =>
  ob (vPick v65x54 (.bool true) v69x62) fun v70x64 =>
  cnd v70x64
    (ob (vBuild [(0, 1), (1, 1), (2, 1)] (.agg #[(.int .i64 0), (.int .i64 0), (.slice none 0 0)]) []) fun v71x65 =>
    st 3 v2x1 v71x65 H63 fun H66 =>
    ob (vLoadN 3 v2x1 H66) fun u67 => K (.tuple #[u67, (.bool false)]) H66)
    (ob (vBuild [(0, 1), (1, 1), (2, 1)] (.agg #[(.int .i64 0), (.int .i64 0), (.slice none 0 0)]) [(0, v44x24), (1, v39x20)]) fun v74x68 =>
  nw #[(.int .i64 0), (.int .i64 0), (.slice none 0 0)] 27 H63 fun v15x69 H70 =>
  st 3 v15x69 v74x68 H70 fun H71 =>
  jn (fun σ72 H72 =>
    ob (vLoadN 3 (σ72 15) H72) fun v97x73 =>
    HT prg I.impl_isPlain [v97x73].toArray H72 fun v98x74 H75 =>
    ob (vUn .not v98x74) fun v99x76 =>
    gop v99x76 false (fun K77 => ob (vLoadN 3 (σ72 15) H75) fun u => K77 u H75) H75 fun v101x78 H79 =>
    gop v99x76 false (fun K80 => HT prg I.impl_Field_text [v101x78].toArray H79 K80) H79 fun v102x81 H82 =>
    gop v99x76 false (fun K83 => K83 (σ72 0) H82) H82 fun v103x84 H85 =>
    gop v99x76 false (fun K86 => ob (vStr .neq v102x81 v103x84) fun u => K86 u H85) H85 fun v104x87 H88 =>
    ob (vPick v99x76 (.bool true) v104x87) fun v105x89 =>
    cnd v105x89
      (ob (vBuild [(0, 1), (1, 1), (2, 1)] (.agg #[(.int .i64 0), (.int .i64 0), (.slice none 0 0)]) []) fun v106x90 =>
      st 3 (σ72 2) v106x90 H88 fun H91 =>
      ob (vLoadN 3 (σ72 2) H91) fun u92 => K (.tuple #[u92, (.bool false)]) H91)
      (ob (vLoadN 3 (σ72 15) H88) fun v107x93 =>
    st 3 (σ72 2) v107x93 H88 fun H94 =>
    ob (vLoadN 3 (σ72 2) H94) fun u95 => K (.tuple #[u95, (.bool true)]) H94)) fun J72 =>
  HT prg I.strings_Split [v49x28, (.string ⟨#[36]⟩)].toArray H71 fun v76x96 H97 =>
  ob (vLenSl v76x96) fun v77x98 =>
  lpE (fun Q99 σ99 H99 =>
    ob (vInt .lss (σ99 78) (σ99 77)) fun v79x100 =>
    cnd v79x100
      (ob (vIx 1 (σ99 76) (σ99 78)) fun v80x101 =>
    ob (vLoad v80x101 H99) fun v81x102 =>
    HT prg I.impl_readRow [v81x102, (σ99 10)].toArray H99 fun v85x103 H104 =>
    ob (vExt v85x103 0) fun v86x105 =>
    ob (vExt v85x103 1) fun v87x106 =>
    ob (vUn .not v87x106) fun v89x107 =>
    cnd v89x107
      (ob (vBuild [(0, 1), (1, 1), (2, 1)] (.agg #[(.int .i64 0), (.int .i64 0), (.slice none 0 0)]) []) fun v90x108 =>
      st 3 (σ99 2) v90x108 H104 fun H109 =>
      Q99 .ret (up (up (up (up (up (up (up (up (up (up (up (up (up (up (up (up σ99 79 v79x100) 80 v80x101) 81 v81x102) 17 v81x102) 83 v81x102) 84 (σ99 10)) 85 v85x103) 82 v85x103) 86 v86x105) 87 v87x106) 18 v86x105) 19 v87x106) 88 v87x106) 89 v89x107) 90 v90x108) 3 (.bool false)) H109)
      (ob (vFa 2 (σ99 15)) fun v91x110 =>
    ob (vLoad v91x110 H104) fun v92x111 =>
    apd 1 8 #[(.int .i64 0)] 2 v92x111 v86x105 H104 fun v94x112 H113 =>
    ob (vFa 2 (σ99 15)) fun v95x114 =>
    st 1 v95x114 v94x112 H113 fun H115 =>
    ob (vInt .add (σ99 78) (.int .i64 1)) fun v96x116 =>
    Q99 .normal (up (up (up (up (up (up (up (up (up (up (up (up (up (up (up (up (up (up (up (up (up σ99 79 v79x100) 80 v80x101) 81 v81x102) 17 v81x102) 83 v81x102) 84 (σ99 10)) 85 v85x103) 82 v85x103) 86 v86x105) 87 v87x106) 18 v86x105) 19 v87x106) 88 v87x106) 89 v89x107) 91 v91x110) 92 v92x111) 93 v86x105) 94 v94x112) 95 v95x114) 96 v96x116) 78 v96x116) H115))
      (Q99 (.exit 0) (up σ99 79 v79x100) H99)) (blkQ 0 (thenQ J72 (retQ prg [(.cell 2 27), (.tmp 3)] K))) (up (up (up (up (up (up (up (up (up (up (up (up (up (up (up (up (up (up (up (up (up (up (up (up (up (up (up (up (up (up (up (up (up (up (up (up (up (up (up (up (up (up (up (up (up (up (up (up (up (up (up (up (up (up (up (up (up (up (up (up (up (up (up (up (up (up (up (up (up (up (up (up (S0 [a0]) 2 v2x1) 3 (.bool false)) 20 a0) 21 v21x3) 22 v22x4) 25 a0) 26 v26x8) 24 v26x8) 27 v27x10) 28 v28x11) 29 v29x12) 4 v27x10) 5 v28x11) 6 v29x12) 31 v27x10) 32 v32x13) 30 v32x13) 33 v33x15) 34 v34x16) 35 v35x17) 7 v33x15) 8 v34x16) 9 v35x17) 37 v33x15) 38 v38x18) 36 v38x18) 39 v39x20) 40 v40x21) 10 v39x20) 11 v40x21) 42 v34x16) 43 v43x22) 41 v43x22) 44 v44x24) 45 v45x25) 12 v44x24) 13 v45x25) 47 v28x11) 48 v48x26) 46 v48x26) 49 v49x28) 50 v50x29) 5 v49x28) 14 v50x29) 51 v40x21) 52 v52x30) 53 v52x30) 54 v54x32) 55 v55x35) 56 v56x37) 57 v56x37) 58 v58x39) 59 v59x42) 60 v60x44) 61 v60x44) 62 v62x46) 63 v63x49) 64 v64x52) 65 v65x54) 66 v65x54) 67 v67x56) 68 v68x59) 69 v69x62) 70 v70x64) 72 v44x24) 73 v39x20) 74 v74x68) 15 v15x69) 75 v49x28) 76 v76x96) 77 v77x98) 78 (.int .i64 0)) H97))
def O.impl_ReadRuns : Nat → Nat × List Nat := fun i => (0, [])
theorem R.impl_ReadRuns {a0 : Value} {H : Hp} {K : Value → Hp → Prop} (h : F.impl_ReadRuns a0 H K) : HT prg I.impl_ReadRuns [a0].toArray H K :=
  HT_of_fev O.impl_ReadRuns mixed Tryz.func9 (by kernel_rfl) (Eq.mpr (by kernel_rfl : fev prg O.impl_ReadRuns Tryz.f9 [a0] H K = F.impl_ReadRuns a0 H K) h)

/-! loop.example/g01381/laws.b10Ints: function 10 -/
def F.laws_b10Ints (a0 a1 : Value) (H : Hp) (K : Value → Hp → Prop) : Prop :=
  ob (vLenSl a0) fun v7x1 =>
  ob (vLenSl a1) fun v9x2 =>
  ob (vInt .neq v7x1 v9x2) fun v10x3 =>
  cnd v10x3
    (K (.bool false) H)
    (jn (fun σ4 H4 =>
    K (.bool true) H4) fun J4 =>
  ob (vLenSl a0) fun v12x5 =>
  lpE (fun Q6 σ6 H6 =>
    ob (vInt .lss (σ6 13) (σ6 12)) fun v14x7 =>
    cnd v14x7
      (ob (vIx 1 (σ6 0) (σ6 13)) fun v18x8 =>
    ob (vLoad v18x8 H6) fun v19x9 =>
    ob (vIx 1 (σ6 1) (σ6 13)) fun v22x10 =>
    ob (vLoad v22x10 H6) fun v23x11 =>
    ob (vInt .neq v19x9 v23x11) fun v24x12 =>
    cnd v24x12
      (Q6 .ret (up (up (up (up (up (up (up (up (up (up (up (up (up σ6 14 v14x7) 15 (σ6 13)) 5 (σ6 13)) 16 (σ6 0)) 17 (σ6 13)) 18 v18x8) 19 v19x9) 20 (σ6 1)) 21 (σ6 13)) 22 v22x10) 23 v23x11) 24 v24x12) 4 (.bool false)) H6)
      (ob (vInt .add (σ6 13) (.int .i64 1)) fun v25x13 =>
    Q6 .normal (up (up (up (up (up (up (up (up (up (up (up (up (up (up σ6 14 v14x7) 15 (σ6 13)) 5 (σ6 13)) 16 (σ6 0)) 17 (σ6 13)) 18 v18x8) 19 v19x9) 20 (σ6 1)) 21 (σ6 13)) 22 v22x10) 23 v23x11) 24 v24x12) 25 v25x13) 13 v25x13) H6))
      (Q6 (.exit 0) (up σ6 14 v14x7) H6)) (blkQ 0 (thenQ J4 (retQ prg [(.tmp 4)] K))) (up (up (up (up (up (up (up (up (up (S0 [a0, a1]) 4 (.bool false)) 6 a0) 7 v7x1) 8 a1) 9 v9x2) 10 v10x3) 11 a0) 12 v12x5) 13 (.int .i64 0)) H)
def O.laws_b10Ints : Nat → Nat × List Nat := fun i => bif Nat.beq i 6 then (0, [0, 1, 2, 3, 4, 5, 6, 7, 8]) else (0, [])
theorem R.laws_b10Ints {a0 a1 : Value} {H : Hp} {K : Value → Hp → Prop} (h : F.laws_b10Ints a0 a1 H K) : HT prg I.laws_b10Ints [a0, a1].toArray H K :=
  HT_of_fev O.laws_b10Ints mixed Tryz.func10 (by kernel_rfl) (Eq.mpr (by kernel_rfl : fev prg O.laws_b10Ints Tryz.f10 [a0, a1] H K = F.laws_b10Ints a0 a1 H K) h)

/-! slices.Clone[[]int64,int64]: function 85 -/
def F.slices_Clone_int64Zint64 (a0 : Value) (H : Hp) (K : Value → Hp → Prop) : Prop :=
  ob (vSlEq .eql a0 (.slice none 0 0)) fun v4x1 =>
  cnd v4x1
    (K (.slice none 0 0) H)
    (bS 1 0 #[(.int .i64 0)] 2 [] H fun v5x2 H3 =>
  apd 1 8 #[(.int .i64 0)] 2 v5x2 a0 H3 fun v7x4 H5 =>
  K v7x4 H5)
def O.slices_Clone_int64Zint64 : Nat → Nat × List Nat := fun i => (0, [])
theorem R.slices_Clone_int64Zint64 {a0 : Value} {H : Hp} {K : Value → Hp → Prop} (h : F.slices_Clone_int64Zint64 a0 H K) : HT prg I.slices_Clone_int64Zint64 [a0].toArray H K :=
  HT_of_fev O.slices_Clone_int64Zint64 mixed Tryz.func85 (by kernel_rfl) (Eq.mpr (by kernel_rfl : fev prg O.slices_Clone_int64Zint64 Tryz.f85 [a0] H K = F.slices_Clone_int64Zint64 a0 H K) h)

/-! loop.example/g01381/impl.copyField: function 58 -/
def F.impl_copyField (a0 : Value) (H : Hp) (K : Value → Hp → Prop) : Prop :=
  nw (a0 : Value).cells 27 H fun v1x1 H2 =>
  nw #[(.int .i64 0), (.int .i64 0), (.slice none 0 0)] 27 H2 fun v2x3 H4 =>
  ob (vFa 2 v1x1) fun v3x5 =>
  ob (vLoad v3x5 H4) fun v4x6 =>
  HT prg I.slices_Clone_int64Zint64 [v4x6].toArray H4 fun v5x7 H8 =>
  ob (vFa 2 v1x1) fun v6x9 =>
  st 1 v6x9 v5x7 H8 fun H10 =>
  ob (vLoadN 3 v1x1 H10) fun v7x11 =>
  st 3 v2x3 v7x11 H10 fun H12 =>
  ob (vLoadN 3 v2x3 H12) fun u13 => K u13 H12
def O.impl_copyField : Nat → Nat × List Nat := fun i => (0, [])
theorem R.impl_copyField {a0 : Value} {H : Hp} {K : Value → Hp → Prop} (h : F.impl_copyField a0 H K) : HT prg I.impl_copyField [a0].toArray H K :=
  HT_of_fev O.impl_copyField mixed Tryz.func58 (by kernel_rfl) (Eq.mpr (by kernel_rfl : fev prg O.impl_copyField Tryz.f58 [a0] H K = F.impl_copyField a0 H K) h)

end Go.Proofs.YtijmoehbgkibnaaGreatDoor
/- Functions' texts over a partial heap. -/
namespace Go.Proofs.YtijmoehbgkibnaaGreatDoor
open HL
set_option linter.unusedVariables false
set_option maxRecDepth 100000
set_option maxHeartbeats 4000000
/-! loop.example/g01381/impl.madeField: function 40 -/
def F.impl_madeField (a0 a1 a2 : Value) (H : Hp) (K : Value → Hp → Prop) : Prop :=
  nw #[(.int .i64 0), (.int .i64 0), (.slice none 0 0)] 27 H fun v6x1 H2 =>
  ob (vBuild [(0, 1), (1, 1), (2, 1)] (.agg #[(.int .i64 0), (.int .i64 0), (.slice none 0 0)]) [(0, a0), (1, a1)]) fun v12x3 =>
  nw #[(.int .i64 0), (.int .i64 0), (.slice none 0 0)] 27 H2 fun v7x4 H5 =>
  st 3 v7x4 v12x3 H5 fun H6 =>
  jn (fun σ7 H7 =>
    ob (vLoadN 3 (σ7 7) H7) fun v32x8 =>
    st 3 (σ7 6) v32x8 H7 fun H9 =>
    ob (vLoadN 3 (σ7 6) H9) fun u10 => K u10 H9) fun J7 =>
  lpE (fun Q11 σ11 H11 =>
    ob (vInt .lss (σ11 14) (σ11 13)) fun v15x12 =>
    cnd v15x12
      (jn (fun σ13 H13 =>
      ob (vInt .add (σ13 14) (.int .i64 1)) fun v31x14 =>
      Q11 .normal (up (up σ13 31 v31x14) 14 v31x14) H13) fun J13 =>
    lpE (fun Q15 σ15 H15 =>
      ob (vInt .lss (σ15 18) (σ15 17)) fun v19x16 =>
      cnd v19x16
        (ob (vFa 2 (σ15 7)) fun v21x17 =>
      ob (vLoad v21x17 H15) fun v22x18 =>
      callV prg (σ15 2) [(σ15 8), (σ15 18)] H15 fun v26x19 H20 =>
      Le H15 H20 ∧ (bS 1 1 #[(.int .i64 0)] 2 [(0, v26x19)] H20 fun v27x21 H22 =>
      apd 1 8 #[(.int .i64 0)] 2 v22x18 v27x21 H22 fun v28x23 H24 =>
      ob (vFa 2 (σ15 7)) fun v29x25 =>
      st 1 v29x25 v28x23 H24 fun H26 =>
      ob (vInt .add (σ15 18) (.int .i64 1)) fun v30x27 =>
      Q15 .normal (up (up (up (up (up (up (up (up (up (up (up (up (up (up σ15 19 v19x16) 20 (σ15 18)) 9 (σ15 18)) 21 v21x17) 22 v22x18) 23 (σ15 2)) 24 (σ15 8)) 25 (σ15 18)) 26 v26x19) 27 v27x21) 28 v28x23) 29 v29x25) 30 v30x27) 18 v30x27) H26))
        (Q15 (.exit 2) (up σ15 19 v19x16) H15)) (blkQ 2 (blkQ 1 (thenQ J13 Q11))) (up (up (up (up (up σ11 15 v15x12) 16 (σ11 14)) 8 (σ11 14)) 17 (σ11 1)) 18 (.int .i64 0)) H11)
      (Q11 (.exit 0) (up σ11 15 v15x12) H11)) (blkQ 0 (thenQ J7 (retQ prg [(.cell 6 27)] K))) (up (up (up (up (up (up (up (S0 [a0, a1, a2]) 6 v6x1) 10 a0) 11 a1) 12 v12x3) 7 v7x4) 13 a0) 14 (.int .i64 0)) H6
def O.impl_madeField : Nat → Nat × List Nat := fun i => bif Nat.beq i 8 then (0, [0, 1, 2, 3, 4, 5, 6, 7, 8, 9]) else (0, [])
theorem R.impl_madeField {a0 a1 a2 : Value} {H : Hp} {K : Value → Hp → Prop} (h : F.impl_madeField a0 a1 a2 H K) : HT prg I.impl_madeField [a0, a1, a2].toArray H K :=
  HT_of_fev O.impl_madeField mixed Tryz.func40 (by kernel_rfl) (Eq.mpr (by kernel_rfl : fev prg O.impl_madeField Tryz.f40 [a0, a1, a2] H K = F.impl_madeField a0 a1 a2 H K) h)

/-! (loop.example/g01381/impl.Field).at: function 64 -/
def F.impl_Field_at (a0 a1 a2 : Value) (H : Hp) (K : Value → Hp → Prop) : Prop :=
  nw (a0 : Value).cells 27 H fun v3x1 H2 =>
  ob (vFa 2 v3x1) fun v7x3 =>
  ob (vLoad v7x3 H2) fun v8x4 =>
  ob (vFa 1 v3x1) fun v10x5 =>
  ob (vLoad v10x5 H2) fun v11x6 =>
  ob (vInt .mul a1 v11x6) fun v12x7 =>
  ob (vInt .add v12x7 a2) fun v14x8 =>
  ob (vIx 1 v8x4 v14x8) fun v15x9 =>
  ob (vLoad v15x9 H2) fun v16x10 =>
  K v16x10 H2
def O.impl_Field_at : Nat → Nat × List Nat := fun i => (0, [])
theorem R.impl_Field_at {a0 a1 a2 : Value} {H : Hp} {K : Value → Hp → Prop} (h : F.impl_Field_at a0 a1 a2 H K) : HT prg I.impl_Field_at [a0, a1, a2].toArray H K :=
  HT_of_fev O.impl_Field_at mixed Tryz.func64 (by kernel_rfl) (Eq.mpr (by kernel_rfl : fev prg O.impl_Field_at Tryz.f64 [a0, a1, a2] H K = F.impl_Field_at a0 a1 a2 H K) h)

/-! (loop.example/g01381/impl.Field).mirrored$1: function 86 -/
def F.impl_Field_mirrored_1 (a0 a1 a2 : Value) (H : Hp) (K : Value → Hp → Prop) : Prop :=
  ob (vLoadN 3 a2 H) fun v6x1 =>
  ob (vFa 1 a2) fun v8x2 =>
  ob (vLoad v8x2 H) fun v9x3 =>
  ob (vInt .sub v9x3 (.int .i64 1)) fun v10x4 =>
  ob (vInt .sub v10x4 a1) fun v12x5 =>
  HT prg I.impl_Field_at [v6x1, a0, v12x5].toArray H fun v13x6 H7 =>
  K v13x6 H7
def O.impl_Field_mirrored_1 : Nat → Nat × List Nat := fun i => (0, [])
theorem R.impl_Field_mirrored_1 {a0 a1 a2 : Value} {H : Hp} {K : Value → Hp → Prop} (h : F.impl_Field_mirrored_1 a0 a1 a2 H K) : HT prg I.impl_Field_mirrored_1 [a0, a1, a2].toArray H K :=
  HT_of_fev O.impl_Field_mirrored_1 mixed Tryz.func86 (by kernel_rfl) (Eq.mpr (by kernel_rfl : fev prg O.impl_Field_mirrored_1 Tryz.f86 [a0, a1, a2] H K = F.impl_Field_mirrored_1 a0 a1 a2 H K) h)

/-! (loop.example/g01381/impl.Field).mirrored: function 59 -/
def F.impl_Field_mirrored (a0 : Value) (H : Hp) (K : Value → Hp → Prop) : Prop :=
  nw (a0 : Value).cells 27 H fun v1x1 H2 =>
  nw #[(.int .i64 0), (.int .i64 0), (.slice none 0 0)] 27 H2 fun v2x3 H4 =>
  ob (vFa 0 v1x1) fun v3x5 =>
  ob (vLoad v3x5 H4) fun v4x6 =>
  ob (vFa 1 v1x1) fun v5x7 =>
  ob (vLoad v5x7 H4) fun v6x8 =>
  HT prg I.impl_madeField [v4x6, v6x8, (.func (.func I.impl_Field_mirrored_1) #[] #[v1x1])].toArray H4 fun v8x9 H10 =>
  st 3 v2x3 v8x9 H10 fun H11 =>
  ob (vLoadN 3 v2x3 H11) fun u12 => K u12 H11
def O.impl_Field_mirrored : Nat → Nat × List Nat := fun i => (0, [])
theorem R.impl_Field_mirrored {a0 : Value} {H : Hp} {K : Value → Hp → Prop} (h : F.impl_Field_mirrored a0 H K) : HT prg I.impl_Field_mirrored [a0].toArray H K :=
  HT_of_fev O.impl_Field_mirrored mixed Tryz.func59 (by kernel_rfl) (Eq.mpr (by kernel_rfl : fev prg O.impl_Field_mirrored Tryz.f59 [a0] H K = F.impl_Field_mirrored a0 H K) h)

/-! (loop.example/g01381/impl.Field).right$1: function 87 -/
def F.impl_Field_right_1 (a0 a1 a2 : Value) (H : Hp) (K : Value → Hp → Prop) : Prop :=
  ob (vLoadN 3 a2 H) fun v6x1 =>
  ob (vFa 0 a2) fun v7x2 =>
  ob (vLoad v7x2 H) fun v8x3 =>
  ob (vInt .sub v8x3 (.int .i64 1)) fun v9x4 =>
  ob (vInt .sub v9x4 a1) fun v11x5 =>
  HT prg I.impl_Field_at [v6x1, v11x5, a0].toArray H fun v13x6 H7 =>
  K v13x6 H7
def O.impl_Field_right_1 : Nat → Nat × List Nat := fun i => (0, [])
theorem R.impl_Field_right_1 {a0 a1 a2 : Value} {H : Hp} {K : Value → Hp → Prop} (h : F.impl_Field_right_1 a0 a1 a2 H K) : HT prg I.impl_Field_right_1 [a0, a1, a2].toArray H K :=
  HT_of_fev O.impl_Field_right_1 mixed Tryz.func87 (by kernel_rfl) (Eq.mpr (by kernel_rfl : fev prg O.impl_Field_right_1 Tryz.f87 [a0, a1, a2] H K = F.impl_Field_right_1 a0 a1 a2 H K) h)

/-! (loop.example/g01381/impl.Field).right: function 60 -/
def F.impl_Field_right (a0 : Value) (H : Hp) (K : Value → Hp → Prop) : Prop :=
  nw (a0 : Value).cells 27 H fun v1x1 H2 =>
  nw #[(.int .i64 0), (.int .i64 0), (.slice none 0 0)] 27 H2 fun v2x3 H4 =>
  ob (vFa 1 v1x1) fun v3x5 =>
  ob (vLoad v3x5 H4) fun v4x6 =>
  ob (vFa 0 v1x1) fun v5x7 =>
  ob (vLoad v5x7 H4) fun v6x8 =>
  HT prg I.impl_madeField [v4x6, v6x8, (.func (.func I.impl_Field_right_1) #[] #[v1x1])].toArray H4 fun v8x9 H10 =>
  st 3 v2x3 v8x9 H10 fun H11 =>
  ob (vLoadN 3 v2x3 H11) fun u12 => K u12 H11
def O.impl_Field_right : Nat → Nat × List Nat := fun i => (0, [])
theorem R.impl_Field_right {a0 : Value} {H : Hp} {K : Value → Hp → Prop} (h : F.impl_Field_right a0 H K) : HT prg I.impl_Field_right [a0].toArray H K :=
  HT_of_fev O.impl_Field_right mixed Tryz.func60 (by kernel_rfl) (Eq.mpr (by kernel_rfl : fev prg O.impl_Field_right Tryz.f60 [a0] H K = F.impl_Field_right a0 H K) h)

/-! (loop.example/g01381/impl.Field).images: function 31 -/
def F.impl_Field_images (a0 : Value) (H : Hp) (K : Value → Hp → Prop) : Prop :=
  nw (a0 : Value).cells 27 H fun v1x1 H2 =>
  bS 3 0 #[(.int .i64 0), (.int .i64 0), (.slice none 0 0)] 27 [] H2 fun v6x3 H4 =>
  jn (fun σ5 H5 =>
    K (σ5 3) H5) fun J5 =>
  ob (vLoadN 3 v1x1 H4) fun v7x6 =>
  ob (vLoadN 3 v1x1 H4) fun v9x7 =>
  HT prg I.impl_copyField [v7x6].toArray H4 fun v8x8 H9 =>
  Le H4 H9 ∧ (HT prg I.impl_Field_mirrored [v9x7].toArray H9 fun v10x10 H11 =>
  Le H9 H11 ∧ (bS 3 2 #[(.int .i64 0), (.int .i64 0), (.slice none 0 0)] 27 [(0, v8x8), (1, v10x10)] H11 fun v11x12 H13 =>
  ob (vLenSl v11x12) fun v12x14 =>
  lpE (fun Q15 σ15 H15 =>
    ob (vInt .lss (σ15 13) (σ15 12)) fun v14x16 =>
    cnd v14x16
      (jn (fun σ17 H17 =>
      ob (vInt .add (σ17 13) (.int .i64 1)) fun v26x18 =>
      Q15 .normal (up (up σ17 26 v26x18) 13 v26x18) H17) fun J17 =>
    ob (vIx 3 (σ15 11) (σ15 13)) fun v15x19 =>
    ob (vLoadN 3 v15x19 H15) fun v16x20 =>
    nw #[(.int .i64 0), (.int .i64 0), (.slice none 0 0)] 27 H15 fun v5x21 H22 =>
    st 3 v5x21 v16x20 H22 fun H23 =>
    lpE (fun Q24 σ24 H24 =>
      ob (vInt .lss (σ24 17) (.int .i64 4)) fun v18x25 =>
      cnd v18x25
        (ob (vLoadN 3 (σ24 5) H24) fun v20x26 =>
      bS 3 1 #[(.int .i64 0), (.int .i64 0), (.slice none 0 0)] 27 [(0, v20x26)] H24 fun v21x27 H28 =>
      apd 3 40 #[(.int .i64 0), (.int .i64 0), (.slice none 0 0)] 27 (σ24 3) v21x27 H28 fun v22x29 H30 =>
      ob (vLoadN 3 (σ24 5) H30) fun v23x31 =>
      HT prg I.impl_Field_right [v23x31].toArray H30 fun v24x32 H33 =>
      st 3 (σ24 5) v24x32 H33 fun H34 =>
      ob (vInt .add (σ24 17) (.int .i64 1)) fun v25x35 =>
      Q24 .normal (up (up (up (up (up (up (up (up (up (up σ24 18 v18x25) 19 (σ24 3)) 20 v20x26) 21 v21x27) 22 v22x29) 3 v22x29) 23 v23x31) 24 v24x32) 25 v25x35) 17 v25x35) H34)
        (Q24 (.exit 2) (up σ24 18 v18x25) H24)) (blkQ 2 (blkQ 1 (thenQ J17 Q15))) (up (up (up (up (up σ15 14 v14x16) 15 v15x19) 16 v16x20) 5 v5x21) 17 (.int .i64 0)) H23)
      (Q15 (.exit 0) (up σ15 14 v14x16) H15)) (blkQ 0 (thenQ J5 (retQ prg [(.tmp 2)] K))) (up (up (up (up (up (up (up (up (up (up (up (S0 [a0]) 1 v1x1) 2 (.slice none 0 0)) 6 v6x3) 3 v6x3) 7 v7x6) 9 v9x7) 13 (.int .i64 0)) 8 v8x8) 10 v10x10) 11 v11x12) 12 v12x14) H13))
def O.impl_Field_images : Nat → Nat × List Nat := fun i => bif Nat.beq i 2 then (0, [0, 2, 6, 1, 3, 4, 5]) else (0, [])
theorem R.impl_Field_images {a0 : Value} {H : Hp} {K : Value → Hp → Prop} (h : F.impl_Field_images a0 H K) : HT prg I.impl_Field_images [a0].toArray H K :=
  HT_of_fev O.impl_Field_images mixed Tryz.func31 (by kernel_rfl) (Eq.mpr (by kernel_rfl : fev prg O.impl_Field_images Tryz.f31 [a0] H K = F.impl_Field_images a0 H K) h)

/-! loop.example/g01381/impl.ImagesOfField: function 11 -/
def F.impl_ImagesOfField (a0 : Value) (H : Hp) (K : Value → Hp → Prop) : Prop :=
  nw (a0 : Value).cells 27 H fun v1x1 H2 =>
  ob (vLoadN 3 v1x1 H2) fun v4x3 =>
  HT prg I.impl_isPlain [v4x3].toArray H2 fun v5x4 H5 =>
  ob (vUn .not v5x4) fun v6x6 =>
  cnd v6x6
    (K (.tuple #[(.slice none 0 0), (.bool false)]) H5)
    (ob (vLoadN 3 v1x1 H5) fun v7x7 =>
  HT prg I.impl_Field_images [v7x7].toArray H5 fun v8x8 H9 =>
  K (.tuple #[v8x8, (.bool true)]) H9)
def O.impl_ImagesOfField : Nat → Nat × List Nat := fun i => (0, [])
theorem R.impl_ImagesOfField {a0 : Value} {H : Hp} {K : Value → Hp → Prop} (h : F.impl_ImagesOfField a0 H K) : HT prg I.impl_ImagesOfField [a0].toArray H K :=
  HT_of_fev O.impl_ImagesOfField mixed Tryz.func11 (by kernel_rfl) (Eq.mpr (by kernel_rfl : fev prg O.impl_ImagesOfField Tryz.f11 [a0] H K = F.impl_ImagesOfField a0 H K) h)

/-! (loop.example/g01381/impl.Field).cut$1: function 88 -/
def F.impl_Field_cut_1 (a0 a1 a2 a3 a4 : Value) (H : Hp) (K : Value → Hp → Prop) : Prop :=
  ob (vLoadN 3 a2 H) fun v8x1 =>
  ob (vLoad a3 H) fun v9x2 =>
  ob (vInt .add v9x2 a0) fun v11x3 =>
  ob (vLoad a4 H) fun v12x4 =>
  ob (vInt .add v12x4 a1) fun v14x5 =>
  HT prg I.impl_Field_at [v8x1, v11x3, v14x5].toArray H fun v15x6 H7 =>
  K v15x6 H7
def O.impl_Field_cut_1 : Nat → Nat × List Nat := fun i => (0, [])
theorem R.impl_Field_cut_1 {a0 a1 a2 a3 a4 : Value} {H : Hp} {K : Value → Hp → Prop} (h : F.impl_Field_cut_1 a0 a1 a2 a3 a4 H K) : HT prg I.impl_Field_cut_1 [a0, a1, a2, a3, a4].toArray H K :=
  HT_of_fev O.impl_Field_cut_1 mixed Tryz.func88 (by kernel_rfl) (Eq.mpr (by kernel_rfl : fev prg O.impl_Field_cut_1 Tryz.f88 [a0, a1, a2, a3, a4] H K = F.impl_Field_cut_1 a0 a1 a2 a3 a4 H K) h)

/-! (loop.example/g01381/impl.Field).cut: function 63 -/
def F.impl_Field_cut (a0 a1 a2 a3 a4 : Value) (H : Hp) (K : Value → Hp → Prop) : Prop :=
  nw (a0 : Value).cells 27 H fun v5x1 H2 =>
  nw (a1 : Value).cells 2 H2 fun v6x3 H4 =>
  nw (a2 : Value).cells 2 H4 fun v7x5 H6 =>
  nw #[(.int .i64 0), (.int .i64 0), (.slice none 0 0)] 27 H6 fun v10x7 H8 =>
  HT prg I.impl_madeField [a3, a4, (.func (.func I.impl_Field_cut_1) #[] #[v5x1, v6x3, v7x5])].toArray H8 fun v14x9 H10 =>
  st 3 v10x7 v14x9 H10 fun H11 =>
  ob (vLoadN 3 v10x7 H11) fun u12 => K u12 H11
def O.impl_Field_cut : Nat → Nat × List Nat := fun i => (0, [])
theorem R.impl_Field_cut {a0 a1 a2 a3 a4 : Value} {H : Hp} {K : Value → Hp → Prop} (h : F.impl_Field_cut a0 a1 a2 a3 a4 H K) : HT prg I.impl_Field_cut [a0, a1, a2, a3, a4].toArray H K :=
  HT_of_fev O.impl_Field_cut mixed Tryz.func63 (by kernel_rfl) (Eq.mpr (by kernel_rfl : fev prg O.impl_Field_cut Tryz.f63 [a0, a1, a2, a3, a4] H K = F.impl_Field_cut a0 a1 a2 a3 a4 H K) h)

/-! (loop.example/g01381/impl.Field).trimmed: function 34 -/
def F.impl_Field_trimmed (a0 : Value) (H : Hp) (K : Value → Hp → Prop) : Prop :=
  nw (a0 : Value).cells 27 H fun v1x1 H2 =>
  nw #[(.int .i64 0), (.int .i64 0), (.slice none 0 0)] 27 H2 fun v2x3 H4 =>
  ob (vFa 0 v1x1) fun v14x5 =>
  ob (vLoad v14x5 H4) fun v15x6 =>
  ob (vFa 1 v1x1) fun v16x7 =>
  ob (vLoad v16x7 H4) fun v17x8 =>
  jn (fun σ9 H9 =>
    ob (vInt .lss (σ9 8) (.int .i64 0)) fun v50x10 =>
    cnd v50x10
      (ob (vBuild [(0, 1), (1, 1), (2, 1)] (.agg #[(.int .i64 0), (.int .i64 0), (.slice none 0 0)]) []) fun v51x11 =>
      st 3 (σ9 2) v51x11 H9 fun H12 =>
      ob (vLoadN 3 (σ9 2) H12) fun u13 => K (.tuple #[u13, (.int .i64 0), (.int .i64 0), (.bool false)]) H12)
      (ob (vLoadN 3 (σ9 1) H9) fun v52x14 =>
    ob (vInt .sub (σ9 8) (σ9 6)) fun v57x15 =>
    ob (vInt .add v57x15 (.int .i64 1)) fun v58x16 =>
    ob (vInt .sub (σ9 9) (σ9 7)) fun v61x17 =>
    ob (vInt .add v61x17 (.int .i64 1)) fun v62x18 =>
    HT prg I.impl_Field_cut [v52x14, (σ9 6), (σ9 7), v58x16, v62x18].toArray H9 fun v63x19 H20 =>
    st 3 (σ9 2) v63x19 H20 fun H21 =>
    ob (vLoadN 3 (σ9 2) H21) fun u22 => K (.tuple #[u22, (σ9 6), (σ9 7), (.bool true)]) H21)) fun J9 =>
  ob (vFa 2 v1x1) fun v18x23 =>
  ob (vLoad v18x23 H4) fun v19x24 =>
  ob (vLenSl v19x24) fun v20x25 =>
  lpE (fun Q26 σ26 H26 =>
    ob (vInt .lss (σ26 21) (σ26 20)) fun v22x27 =>
    cnd v22x27
      (ob (vIx 1 (σ26 19) (σ26 21)) fun v24x28 =>
    ob (vLoad v24x28 H26) fun v25x29 =>
    ob (vInt .eql v25x29 (.int .i64 1)) fun v27x30 =>
    cnd v27x30
      (ob (vFa 1 (σ26 1)) fun v29x31 =>
      ob (vLoad v29x31 H26) fun v30x32 =>
      ob (vInt .quo (σ26 21) v30x32) fun v31x33 =>
      ob (vFa 1 (σ26 1)) fun v33x34 =>
      ob (vLoad v33x34 H26) fun v34x35 =>
      ob (vInt .rem (σ26 21) v34x35) fun v35x36 =>
      ob (vMx false (σ26 6) [v31x33]) fun v38x37 =>
      ob (vMx false (σ26 7) [v35x36]) fun v41x38 =>
      ob (vMx true (σ26 8) [v31x33]) fun v44x39 =>
      ob (vMx true (σ26 9) [v35x36]) fun v47x40 =>
      ob (vInt .add (σ26 21) (.int .i64 1)) fun v48x41 =>
    Q26 .normal (up (up (up (up (up (up (up (up (up (up (up (up (up (up (up (up (up (up (up (up (up (up (up (up (up (up (up (up (up (up (up (up (up (up (up (up σ26 22 v22x27) 23 (σ26 21)) 24 v24x28) 25 v25x29) 10 (σ26 21)) 11 v25x29) 26 v25x29) 27 v27x30) 28 (σ26 21)) 29 v29x31) 30 v30x32) 31 v31x33) 32 (σ26 21)) 33 v33x34) 34 v34x35) 35 v35x36) 12 v31x33) 13 v35x36) 36 (σ26 6)) 37 v31x33) 38 v38x37) 39 (σ26 7)) 40 v35x36) 41 v41x38) 42 (σ26 8)) 43 v31x33) 44 v44x39) 45 (σ26 9)) 46 v35x36) 47 v47x40) 6 v38x37) 7 v41x38) 8 v44x39) 9 v47x40) 48 v48x41) 21 v48x41) H26)
      (ob (vInt .add (σ26 21) (.int .i64 1)) fun v48x42 =>
    Q26 .normal (up (up (up (up (up (up (up (up (up (up σ26 22 v22x27) 23 (σ26 21)) 24 v24x28) 25 v25x29) 10 (σ26 21)) 11 v25x29) 26 v25x29) 27 v27x30) 48 v48x42) 21 v48x42) H26))
      (Q26 (.exit 0) (up σ26 22 v22x27) H26)) (blkQ 0 (thenQ J9 (retQ prg [(.cell 2 27), (.tmp 3), (.tmp 4), (.tmp 5)] K))) (up (up (up (up (up (up (up (up (up (up (up (up (up (up (up (up (up (S0 [a0]) 1 v1x1) 2 v2x3) 3 (.int .i64 0)) 4 (.int .i64 0)) 5 (.bool false)) 14 v14x5) 15 v15x6) 16 v16x7) 17 v17x8) 6 v15x6) 7 v17x8) 8 (.int .i64 (-1))) 9 (.int .i64 (-1))) 18 v18x23) 19 v19x24) 20 v20x25) 21 (.int .i64 0)) H4
def O.impl_Field_trimmed : Nat → Nat × List Nat := fun i => bif Nat.beq i 1 then (0, [0, 1, 2, 3, 4, 5, 6, 7]) else bif Nat.beq i 6 then (0, [0, 1, 2, 3, 4, 5, 6, 7, 8, 9]) else (0, [])
theorem R.impl_Field_trimmed {a0 : Value} {H : Hp} {K : Value → Hp → Prop} (h : F.impl_Field_trimmed a0 H K) : HT prg I.impl_Field_trimmed [a0].toArray H K :=
  HT_of_fev O.impl_Field_trimmed mixed Tryz.func34 (by kernel_rfl) (Eq.mpr (by kernel_rfl : fev prg O.impl_Field_trimmed Tryz.f34 [a0] H K = F.impl_Field_trimmed a0 H K) h)

/-! slices.Min[[]string,string]: function 61 -/
def F.slices_Min_string_string (a0 : Value) (H : Hp) (K : Value → Hp → Prop) : Prop :=
  jn (fun σ1 H1 =>
    ob (vIx 1 (σ1 0) (.int .i64 0)) fun v10x2 =>
    ob (vLoad v10x2 H1) fun v11x3 =>
    jn (fun σ4 H4 =>
      K (σ4 3) H4) fun J4 =>
    lpE (fun Q5 σ5 H5 =>
      ob (vLenSl (σ5 0)) fun v14x6 =>
      ob (vInt .lss (σ5 4) v14x6) fun v15x7 =>
      cnd v15x7
        (ob (vIx 1 (σ5 0) (σ5 4)) fun v21x8 =>
      ob (vLoad v21x8 H5) fun v22x9 =>
      hp prg (builtin .min #[9, 9] 9 #[false, false] [(σ5 3), v22x9].toArray) H5 (nextH prg (fun v23x10 H11 =>
      ob (vInt .add (σ5 4) (.int .i64 1)) fun v17x12 =>
      Q5 .normal (up (up (up (up (up (up (up (up (up (up (up (up (up (up σ5 12 (σ5 4)) 13 (σ5 0)) 14 v14x6) 15 v15x7) 18 (σ5 3)) 19 (σ5 0)) 20 (σ5 4)) 21 v21x8) 22 v22x9) 23 v23x10) 3 v23x10) 16 (σ5 4)) 17 v17x12) 4 v17x12) H11)))
        (Q5 (.exit 0) (up (up (up (up σ5 12 (σ5 4)) 13 (σ5 0)) 14 v14x6) 15 v15x7) H5)) (blkQ 0 (thenQ J4 (retQ prg [(.tmp 2)] K))) (up (up (up (up (up σ1 9 (σ1 0)) 10 v10x2) 11 v11x3) 3 v11x3) 4 (.int .i64 1)) H1) fun J1 =>
  ob (vLenSl a0) fun v6x13 =>
  ob (vInt .lss v6x13 (.int .i64 1)) fun v7x14 =>
  cnd v7x14
    (ob (val prg (Instr.makeInterface 9 (.string ⟨#[115, 108, 105, 99, 101, 115, 46, 77, 105, 110, 58, 32, 101, 109, 112, 116, 121, 32, 108, 105, 115, 116]⟩)) H) fun v8x15 =>
    hp prg (do pure (Next.value (← Instr.panic v8x15))) H (nextH prg (fun _ H16 =>
    J1 (up (up (up (up (up (S0 [a0]) 2 (.string ⟨#[]⟩)) 5 a0) 6 v6x13) 7 v7x14) 8 v8x15) H16)))
    (J1 (up (up (up (up (S0 [a0]) 2 (.string ⟨#[]⟩)) 5 a0) 6 v6x13) 7 v7x14) H)
def O.slices_Min_string_string : Nat → Nat × List Nat := fun i => (0, [])
theorem R.slices_Min_string_string {a0 : Value} {H : Hp} {K : Value → Hp → Prop} (h : F.slices_Min_string_string a0 H K) : HT prg I.slices_Min_string_string [a0].toArray H K :=
  HT_of_fev O.slices_Min_string_string mixed Tryz.func61 (by kernel_rfl) (Eq.mpr (by kernel_rfl : fev prg O.slices_Min_string_string Tryz.f61 [a0] H K = F.slices_Min_string_string a0 H K) h)

/-! (loop.example/g01381/impl.Field).name: function 32 -/
def F.impl_Field_name (a0 : Value) (H : Hp) (K : Value → Hp → Prop) : Prop :=
  nw (a0 : Value).cells 27 H fun v1x1 H2 =>
  ob (vLoadN 3 v1x1 H2) fun v11x3 =>
  HT prg I.impl_Field_trimmed [v11x3].toArray H2 fun v12x4 H5 =>
  ob (vExt v12x4 0) fun v13x6 =>
  ob (vExt v12x4 1) fun v14x7 =>
  ob (vExt v12x4 2) fun v15x8 =>
  ob (vExt v12x4 3) fun v16x9 =>
  nw #[(.int .i64 0), (.int .i64 0), (.slice none 0 0)] 27 H5 fun v3x10 H11 =>
  st 3 v3x10 v13x6 H11 fun H12 =>
  ob (vUn .not v16x9) fun v18x13 =>
  cnd v18x13
    (K (.string ⟨#[]⟩) H12)
    (bS 1 0 #[(.string ⟨#[]⟩)] 9 [] H12 fun v19x14 H15 =>
  jn (fun σ16 H16 =>
    HT prg I.slices_Min_string_string [(σ16 7)].toArray H16 fun v34x17 H18 =>
    K v34x17 H18) fun J16 =>
  ob (vLoadN 3 v3x10 H15) fun v20x19 =>
  HT prg I.impl_Field_images [v20x19].toArray H15 fun v21x20 H21 =>
  ob (vLenSl v21x20) fun v22x22 =>
  lpE (fun Q23 σ23 H23 =>
    ob (vInt .lss (σ23 23) (σ23 22)) fun v24x24 =>
    cnd v24x24
      (ob (vIx 3 (σ23 21) (σ23 23)) fun v25x25 =>
    ob (vLoadN 3 v25x25 H23) fun v26x26 =>
    nw #[(.int .i64 0), (.int .i64 0), (.slice none 0 0)] 27 H23 fun v9x27 H28 =>
    st 3 v9x27 v26x26 H28 fun H29 =>
    ob (vLoadN 3 v9x27 H29) fun v28x30 =>
    HT prg I.impl_Field_text [v28x30].toArray H29 fun v29x31 H32 =>
    bS 1 1 #[(.string ⟨#[]⟩)] 9 [(0, v29x31)] H32 fun v30x33 H34 =>
    apd 1 16 #[(.string ⟨#[]⟩)] 9 (σ23 7) v30x33 H34 fun v31x35 H36 =>
    ob (vInt .add (σ23 23) (.int .i64 1)) fun v32x37 =>
    Q23 .normal (up (up (up (up (up (up (up (up (up (up (up (up σ23 24 v24x24) 25 v25x25) 26 v26x26) 9 v9x27) 27 (σ23 7)) 28 v28x30) 29 v29x31) 30 v30x33) 31 v31x35) 7 v31x35) 32 v32x37) 23 v32x37) H36)
      (Q23 (.exit 0) (up σ23 24 v24x24) H23)) (blkQ 0 (thenQ J16 (retQ prg [(.tmp 2)] K))) (up (up (up (up (up (up (up (up (up (up (up (up (up (up (up (up (up (up (up (up (up (S0 [a0]) 1 v1x1) 2 (.string ⟨#[]⟩)) 11 v11x3) 12 v12x4) 10 v12x4) 13 v13x6) 14 v14x7) 15 v15x8) 16 v16x9) 3 v3x10) 4 v14x7) 5 v15x8) 6 v16x9) 17 v16x9) 18 v18x13) 19 v19x14) 7 v19x14) 20 v20x19) 21 v21x20) 22 v22x22) 23 (.int .i64 0)) H21)
def O.impl_Field_name : Nat → Nat × List Nat := fun i => (0, [])
theorem R.impl_Field_name {a0 : Value} {H : Hp} {K : Value → Hp → Prop} (h : F.impl_Field_name a0 H K) : HT prg I.impl_Field_name [a0].toArray H K :=
  HT_of_fev O.impl_Field_name mixed Tryz.func32 (by kernel_rfl) (Eq.mpr (by kernel_rfl : fev prg O.impl_Field_name Tryz.f32 [a0] H K = F.impl_Field_name a0 H K) h)

/-! loop.example/g01381/impl.NameOf: function 12 -/
def F.impl_NameOf (a0 : Value) (H : Hp) (K : Value → Hp → Prop) : Prop :=
  nw (a0 : Value).cells 27 H fun v1x1 H2 =>
  ob (vLoadN 3 v1x1 H2) fun v4x3 =>
  HT prg I.impl_isPlain [v4x3].toArray H2 fun v5x4 H5 =>
  ob (vUn .not v5x4) fun v6x6 =>
  cnd v6x6
    (K (.tuple #[(.string ⟨#[]⟩), (.bool false)]) H5)
    (ob (vLoadN 3 v1x1 H5) fun v7x7 =>
  HT prg I.impl_Field_name [v7x7].toArray H5 fun v8x8 H9 =>
  K (.tuple #[v8x8, (.bool true)]) H9)
def O.impl_NameOf : Nat → Nat × List Nat := fun i => (0, [])
theorem R.impl_NameOf {a0 : Value} {H : Hp} {K : Value → Hp → Prop} (h : F.impl_NameOf a0 H K) : HT prg I.impl_NameOf [a0].toArray H K :=
  HT_of_fev O.impl_NameOf mixed Tryz.func12 (by kernel_rfl) (Eq.mpr (by kernel_rfl : fev prg O.impl_NameOf Tryz.f12 [a0] H K = F.impl_NameOf a0 H K) h)

/-! loop.example/g01381/spec.CountCells: function 13 -/
def F.spec_CountCells (a0 a1 : Value) (H : Hp) (K : Value → Hp → Prop) : Prop :=
  nw (a0 : Value).cells 27 H fun v2x1 H2 =>
  HT prg I.spec_l04Is [v2x1].toArray H2 fun v8x3 H4 =>
  ob (vUn .not v8x3) fun v9x5 =>
  cnd v9x5
    (K (.tuple #[(.int .i64 0), (.bool false)]) H4)
    (jn (fun σ6 H6 =>
    K (.tuple #[(σ6 6), (.bool true)]) H6) fun J6 =>
  lpE (fun Q7 σ7 H7 =>
    ob (vFa 2 (σ7 2)) fun v11x8 =>
    ob (vLoad v11x8 H7) fun v12x9 =>
    ob (vLenSl v12x9) fun v13x10 =>
    ob (vInt .lss (σ7 7) v13x10) fun v14x11 =>
    cnd v14x11
      (ob (vFa 2 (σ7 2)) fun v17x12 =>
    ob (vLoad v17x12 H7) fun v18x13 =>
    ob (vIx 1 v18x13 (σ7 7)) fun v20x14 =>
    ob (vLoad v20x14 H7) fun v21x15 =>
    ob (vInt .eql v21x15 (σ7 1)) fun v23x16 =>
    cnd v23x16
      (ob (vInt .add (σ7 6) (.int .i64 1)) fun v25x17 =>
      ob (vInt .add (σ7 7) (.int .i64 1)) fun v16x18 =>
    Q7 .normal (up (up (up (up (up (up (up (up (up (up (up (up (up (up (up (up (up (up σ7 10 (σ7 7)) 11 v11x8) 12 v12x9) 13 v13x10) 14 v14x11) 17 v17x12) 18 v18x13) 19 (σ7 7)) 20 v20x14) 21 v21x15) 22 (σ7 1)) 23 v23x16) 24 (σ7 6)) 25 v25x17) 6 v25x17) 15 (σ7 7)) 16 v16x18) 7 v16x18) H7)
      (ob (vInt .add (σ7 7) (.int .i64 1)) fun v16x19 =>
    Q7 .normal (up (up (up (up (up (up (up (up (up (up (up (up (up (up (up σ7 10 (σ7 7)) 11 v11x8) 12 v12x9) 13 v13x10) 14 v14x11) 17 v17x12) 18 v18x13) 19 (σ7 7)) 20 v20x14) 21 v21x15) 22 (σ7 1)) 23 v23x16) 15 (σ7 7)) 16 v16x19) 7 v16x19) H7))
      (Q7 (.exit 0) (up (up (up (up (up σ7 10 (σ7 7)) 11 v11x8) 12 v12x9) 13 v13x10) 14 v14x11) H7)) (blkQ 0 (thenQ J6 (retQ prg [(.tmp 4), (.tmp 5)] K))) (up (up (up (up (up (up (up (S0 [a0, a1]) 2 v2x1) 4 (.int .i64 0)) 5 (.bool false)) 8 v8x3) 9 v9x5) 6 (.int .i64 0)) 7 (.int .i64 0)) H4)
def O.spec_CountCells : Nat → Nat × List Nat := fun i => (0, [])
theorem R.spec_CountCells {a0 a1 : Value} {H : Hp} {K : Value → Hp → Prop} (h : F.spec_CountCells a0 a1 H K) : HT prg I.spec_CountCells [a0, a1].toArray H K :=
  HT_of_fev O.spec_CountCells mixed Tryz.func13 (by kernel_rfl) (Eq.mpr (by kernel_rfl : fev prg O.spec_CountCells Tryz.f13 [a0, a1] H K = F.spec_CountCells a0 a1 H K) h)

/-! loop.example/g01381/impl.SameShape: function 14 -/
def F.impl_SameShape (a0 a1 : Value) (H : Hp) (K : Value → Hp → Prop) : Prop :=
  nw (a0 : Value).cells 27 H fun v2x1 H2 =>
  nw (a1 : Value).cells 27 H2 fun v3x3 H4 =>
  ob (vLoadN 3 v2x1 H4) fun v6x5 =>
  HT prg I.impl_isPlain [v6x5].toArray H4 fun v7x6 H7 =>
  ob (vUn .not v7x6) fun v8x8 =>
  gop v8x8 false (fun K9 => ob (vLoadN 3 v3x3 H7) fun u => K9 u H7) H7 fun v10x10 H11 =>
  gop v8x8 false (fun K12 => HT prg I.impl_isPlain [v10x10].toArray H11 K12) H11 fun v11x13 H14 =>
  gop v8x8 false (fun K15 => ob (vUn .not v11x13) fun u => K15 u H14) H14 fun v12x16 H17 =>
  ob (vPick v8x8 (.bool true) v12x16) fun v13x18 =>
  cnd v13x18
    (K (.tuple #[(.bool false), (.bool false)]) H17)
    (ob (vLoadN 3 v2x1 H17) fun v14x19 =>
  ob (vLoadN 3 v3x3 H17) fun v16x20 =>
  HT prg I.impl_Field_name [v14x19].toArray H17 fun v15x21 H22 =>
  Le H17 H22 ∧ (HT prg I.impl_Field_name [v16x20].toArray H22 fun v17x23 H24 =>
  Le H22 H24 ∧ (ob (vStr .eql v15x21 v17x23) fun v18x25 =>
  K (.tuple #[v18x25, (.bool true)]) H24)))
def O.impl_SameShape : Nat → Nat × List Nat := fun i => bif Nat.beq i 3 then (0, [0, 2, 1, 3, 4, 5, 6]) else (0, [])
theorem R.impl_SameShape {a0 a1 : Value} {H : Hp} {K : Value → Hp → Prop} (h : F.impl_SameShape a0 a1 H K) : HT prg I.impl_SameShape [a0, a1].toArray H K :=
  HT_of_fev O.impl_SameShape mixed Tryz.func14 (by kernel_rfl) (Eq.mpr (by kernel_rfl : fev prg O.impl_SameShape Tryz.f14 [a0, a1] H K = F.impl_SameShape a0 a1 H K) h)

/-! loop.example/g01381/impl.TrimField: function 15 -/
def F.impl_TrimField (a0 : Value) (H : Hp) (K : Value → Hp → Prop) : Prop :=
  nw (a0 : Value).cells 27 H fun v1x1 H2 =>
  nw #[(.int .i64 0), (.int .i64 0), (.slice none 0 0)] 27 H2 fun v2x3 H4 =>
  ob (vLoadN 3 v1x1 H4) fun v6x5 =>
  HT prg I.impl_isPlain [v6x5].toArray H4 fun v7x6 H7 =>
  ob (vUn .not v7x6) fun v8x8 =>
  cnd v8x8
    (ob (vBuild [(0, 1), (1, 1), (2, 1)] (.agg #[(.int .i64 0), (.int .i64 0), (.slice none 0 0)]) []) fun v9x9 =>
    st 3 v2x3 v9x9 H7 fun H10 =>
    ob (vLoadN 3 v2x3 H10) fun u11 => K (.tuple #[u11, (.int .i64 0), (.int .i64 0), (.bool false)]) H10)
    (ob (vLoadN 3 v1x1 H7) fun v10x12 =>
  HT prg I.impl_Field_trimmed [v10x12].toArray H7 fun v11x13 H14 =>
  ob (vExt v11x13 0) fun v12x15 =>
  ob (vExt v11x13 1) fun v13x16 =>
  ob (vExt v11x13 2) fun v14x17 =>
  ob (vExt v11x13 3) fun v15x18 =>
  st 3 v2x3 v12x15 H14 fun H19 =>
  ob (vLoadN 3 v2x3 H19) fun u20 => K (.tuple #[u20, v13x16, v14x17, v15x18]) H19)
def O.impl_TrimField : Nat → Nat × List Nat := fun i => (0, [])
theorem R.impl_TrimField {a0 : Value} {H : Hp} {K : Value → Hp → Prop} (h : F.impl_TrimField a0 H K) : HT prg I.impl_TrimField [a0].toArray H K :=
  HT_of_fev O.impl_TrimField mixed Tryz.func15 (by kernel_rfl) (Eq.mpr (by kernel_rfl : fev prg O.impl_TrimField Tryz.f15 [a0] H K = F.impl_TrimField a0 H K) h)

/-! loop.example/g01381/spec.l04Sides: function 35 -/
def F.spec_l04Sides (a0 a1 : Value) (H : Hp) (K : Value → Hp → Prop) : Prop :=
  HT prg I.spec_l00In [a0, (.int .i64 1), (.int .i64 24)].toArray H fun v6x1 H2 =>
  gop v6x1 true (fun K3 => K3 a1 H2) H2 fun v8x4 H5 =>
  gop v6x1 true (fun K6 => HT prg I.spec_l00In [v8x4, (.int .i64 1), (.int .i64 24)].toArray H5 K6) H5 fun v9x7 H8 =>
  ob (vPick v6x1 v9x7 (.bool false)) fun v10x9 =>
  K v10x9 H8
def O.spec_l04Sides : Nat → Nat × List Nat := fun i => (0, [])
theorem R.spec_l04Sides {a0 a1 : Value} {H : Hp} {K : Value → Hp → Prop} (h : F.spec_l04Sides a0 a1 H K) : HT prg I.spec_l04Sides [a0, a1].toArray H K :=
  HT_of_fev O.spec_l04Sides mixed Tryz.func35 (by kernel_rfl) (Eq.mpr (by kernel_rfl : fev prg O.spec_l04Sides Tryz.f35 [a0, a1] H K = F.spec_l04Sides a0 a1 H K) h)

/-! loop.example/g01381/spec.l04New: function 36 -/
def F.spec_l04New (a0 a1 : Value) (H : Hp) (K : Value → Hp → Prop) : Prop :=
  nw #[(.int .i64 0), (.int .i64 0), (.slice none 0 0)] 27 H fun v4x1 H2 =>
  ob (vInt .mul a0 a1) fun v9x3 =>
  mkS 1 8 #[(.int .i64 0)] 2 v9x3 v9x3 H2 fun v10x4 H5 =>
  ob (vBuild [(0, 1), (1, 1), (2, 1)] (.agg #[(.int .i64 0), (.int .i64 0), (.slice none 0 0)]) [(0, a0), (1, a1), (2, v10x4)]) fun v11x6 =>
  st 3 v4x1 v11x6 H5 fun H7 =>
  ob (vLoadN 3 v4x1 H7) fun u8 => K u8 H7
def O.spec_l04New : Nat → Nat × List Nat := fun i => (0, [])
theorem R.spec_l04New {a0 a1 : Value} {H : Hp} {K : Value → Hp → Prop} (h : F.spec_l04New a0 a1 H K) : HT prg I.spec_l04New [a0, a1].toArray H K :=
  HT_of_fev O.spec_l04New mixed Tryz.func36 (by kernel_rfl) (Eq.mpr (by kernel_rfl : fev prg O.spec_l04New Tryz.f36 [a0, a1] H K = F.spec_l04New a0 a1 H K) h)

/-! loop.example/g01381/spec.NewField: function 16 -/
def F.spec_NewField (a0 a1 : Value) (H : Hp) (K : Value → Hp → Prop) : Prop :=
  nw #[(.int .i64 0), (.int .i64 0), (.slice none 0 0)] 27 H fun v4x1 H2 =>
  HT prg I.spec_l04Sides [a0, a1].toArray H2 fun v8x3 H4 =>
  ob (vUn .not v8x3) fun v9x5 =>
  cnd v9x5
    (ob (vBuild [(0, 1), (1, 1), (2, 1)] (.agg #[(.int .i64 0), (.int .i64 0), (.slice none 0 0)]) []) fun v10x6 =>
    st 3 v4x1 v10x6 H4 fun H7 =>
    ob (vLoadN 3 v4x1 H7) fun u8 => K (.tuple #[u8, (.bool false)]) H7)
    (HT prg I.spec_l04New [a0, a1].toArray H4 fun v13x9 H10 =>
  st 3 v4x1 v13x9 H10 fun H11 =>
  ob (vLoadN 3 v4x1 H11) fun u12 => K (.tuple #[u12, (.bool true)]) H11)
def O.spec_NewField : Nat → Nat × List Nat := fun i => (0, [])
theorem R.spec_NewField {a0 a1 : Value} {H : Hp} {K : Value → Hp → Prop} (h : F.spec_NewField a0 a1 H K) : HT prg I.spec_NewField [a0, a1].toArray H K :=
  HT_of_fev O.spec_NewField mixed Tryz.func16 (by kernel_rfl) (Eq.mpr (by kernel_rfl : fev prg O.spec_NewField Tryz.f16 [a0, a1] H K = F.spec_NewField a0 a1 H K) h)

/-! loop.example/g01381/spec.l04Within: function 37 -/
def F.spec_l04Within (a0 a1 a2 a3 a4 : Value) (H : Hp) (K : Value → Hp → Prop) : Prop :=
  HT prg I.spec_l04Sides [a3, a4].toArray H fun v13x1 H2 =>
  gop v13x1 true (fun K3 => K3 a1 H2) H2 fun v15x4 H5 =>
  gop v13x1 true (fun K6 => K6 a0 H5) H5 fun v16x7 H8 =>
  gop v13x1 true (fun K9 => ob (vNilC v16x7) fun u => K9 u H8) H8 fun v17x10 H11 =>
  gop v13x1 true (fun K12 => ob (vFa 0 v17x10) fun u => K12 u H11) H11 fun v18x13 H14 =>
  gop v13x1 true (fun K15 => ob (vLoad v18x13 H14) fun u => K15 u H14) H14 fun v19x16 H17 =>
  gop v13x1 true (fun K18 => K18 a3 H17) H17 fun v20x19 H20 =>
  gop v13x1 true (fun K21 => ob (vInt .sub v19x16 v20x19) fun u => K21 u H20) H20 fun v21x22 H23 =>
  gop v13x1 true (fun K24 => HT prg I.spec_l00In [v15x4, (.int .i64 0), v21x22].toArray H23 K24) H23 fun v22x25 H26 =>
  ob (vPick v13x1 v22x25 (.bool false)) fun v23x27 =>
  gop v23x27 true (fun K28 => K28 a2 H26) H26 fun v25x29 H30 =>
  gop v23x27 true (fun K31 => K31 a0 H30) H30 fun v26x32 H33 =>
  gop v23x27 true (fun K34 => ob (vNilC v26x32) fun u => K34 u H33) H33 fun v27x35 H36 =>
  gop v23x27 true (fun K37 => ob (vFa 1 v27x35) fun u => K37 u H36) H36 fun v28x38 H39 =>
  gop v23x27 true (fun K40 => ob (vLoad v28x38 H39) fun u => K40 u H39) H39 fun v29x41 H42 =>
  gop v23x27 true (fun K43 => K43 a4 H42) H42 fun v30x44 H45 =>
  gop v23x27 true (fun K46 => ob (vInt .sub v29x41 v30x44) fun u => K46 u H45) H45 fun v31x47 H48 =>
  gop v23x27 true (fun K49 => HT prg I.spec_l00In [v25x29, (.int .i64 0), v31x47].toArray H48 K49) H48 fun v32x50 H51 =>
  ob (vPick v23x27 v32x50 (.bool false)) fun v33x52 =>
  K v33x52 H51
def O.spec_l04Within : Nat → Nat × List Nat := fun i => (0, [])
theorem R.spec_l04Within {a0 a1 a2 a3 a4 : Value} {H : Hp} {K : Value → Hp → Prop} (h : F.spec_l04Within a0 a1 a2 a3 a4 H K) : HT prg I.spec_l04Within [a0, a1, a2, a3, a4].toArray H K :=
  HT_of_fev O.spec_l04Within mixed Tryz.func37 (by kernel_rfl) (Eq.mpr (by kernel_rfl : fev prg O.spec_l04Within Tryz.f37 [a0, a1, a2, a3, a4] H K = F.spec_l04Within a0 a1 a2 a3 a4 H K) h)

/-! loop.example/g01381/spec.l04Own: function 38 -/
def F.spec_l04Own (a0 : Value) (H : Hp) (K : Value → Hp → Prop) : Prop :=
  nw #[(.int .i64 0), (.int .i64 0), (.slice none 0 0)] 27 H fun v2x1 H2 =>
  ob (vNilC a0) fun v4x3 =>
  ob (vFa 0 v4x3) fun v5x4 =>
  ob (vLoad v5x4 H2) fun v6x5 =>
  ob (vNilC a0) fun v8x6 =>
  ob (vFa 1 v8x6) fun v9x7 =>
  ob (vLoad v9x7 H2) fun v10x8 =>
  ob (vNilC a0) fun v13x9 =>
  ob (vFa 2 v13x9) fun v14x10 =>
  ob (vLoad v14x10 H2) fun v15x11 =>
  bS 1 0 #[(.int .i64 0)] 2 [] H2 fun v11x12 H13 =>
  apd 1 8 #[(.int .i64 0)] 2 v11x12 v15x11 H13 fun v16x14 H15 =>
  Le H13 H15 ∧ (ob (vBuild [(0, 1), (1, 1), (2, 1)] (.agg #[(.int .i64 0), (.int .i64 0), (.slice none 0 0)]) [(0, v6x5), (1, v10x8), (2, v16x14)]) fun v17x16 =>
  st 3 v2x1 v17x16 H15 fun H17 =>
  ob (vLoadN 3 v2x1 H17) fun u18 => K u18 H17)
def O.spec_l04Own : Nat → Nat × List Nat := fun i => bif Nat.beq i 1 then (1, [0, 1, 2, 3, 4, 5, 6, 7, 9, 10, 11, 12, 8, 13, 14, 15]) else (0, [])
theorem R.spec_l04Own {a0 : Value} {H : Hp} {K : Value → Hp → Prop} (h : F.spec_l04Own a0 H K) : HT prg I.spec_l04Own [a0].toArray H K :=
  HT_of_fev O.spec_l04Own mixed Tryz.func38 (by kernel_rfl) (Eq.mpr (by kernel_rfl : fev prg O.spec_l04Own Tryz.f38 [a0] H K = F.spec_l04Own a0 H K) h)

/-! loop.example/g01381/spec.PasteField: function 17 -/
def F.spec_PasteField (a0 a1 a2 a3 : Value) (H : Hp) (K : Value → Hp → Prop) : Prop :=
  nw (a0 : Value).cells 27 H fun v4x1 H2 =>
  nw (a1 : Value).cells 27 H2 fun v5x3 H4 =>
  nw #[(.int .i64 0), (.int .i64 0), (.slice none 0 0)] 27 H4 fun v8x5 H6 =>
  HT prg I.spec_l04Is [v4x1].toArray H6 fun v13x7 H8 =>
  ob (vUn .not v13x7) fun v14x9 =>
  gop v14x9 false (fun K10 => HT prg I.spec_l04Is [v5x3].toArray H8 K10) H8 fun v16x11 H12 =>
  gop v14x9 false (fun K13 => ob (vUn .not v16x11) fun u => K13 u H12) H12 fun v17x14 H15 =>
  ob (vPick v14x9 (.bool true) v17x14) fun v18x16 =>
  gop v18x16 false (fun K17 => K17 a2 H15) H15 fun v20x18 H19 =>
  gop v18x16 false (fun K20 => K20 a3 H19) H19 fun v21x21 H22 =>
  gop v18x16 false (fun K23 => ob (vFa 0 v5x3) fun u => K23 u H22) H22 fun v22x24 H25 =>
  gop v18x16 false (fun K26 => ob (vLoad v22x24 H25) fun u => K26 u H25) H25 fun v23x27 H28 =>
  gop v18x16 false (fun K29 => ob (vFa 1 v5x3) fun u => K29 u H28) H28 fun v24x30 H31 =>
  gop v18x16 false (fun K32 => ob (vLoad v24x30 H31) fun u => K32 u H31) H31 fun v25x33 H34 =>
  gop v18x16 false (fun K35 => HT prg I.spec_l04Within [v4x1, v20x18, v21x21, v23x27, v25x33].toArray H34 K35) H34 fun v26x36 H37 =>
  gop v18x16 false (fun K38 => ob (vUn .not v26x36) fun u => K38 u H37) H37 fun v27x39 H40 =>
  ob (vPick v18x16 (.bool true) v27x39) fun v28x41 =>
  cnd v28x41
    (ob (vBuild [(0, 1), (1, 1), (2, 1)] (.agg #[(.int .i64 0), (.int .i64 0), (.slice none 0 0)]) []) fun v29x42 =>
    st 3 v8x5 v29x42 H40 fun H43 =>
    ob (vLoadN 3 v8x5 H43) fun u44 => K (.tuple #[u44, (.bool false)]) H43)
    (HT prg I.spec_l04Own [v4x1].toArray H40 fun v30x45 H46 =>
  nw #[(.int .i64 0), (.int .i64 0), (.slice none 0 0)] 27 H46 fun v10x47 H48 =>
  st 3 v10x47 v30x45 H48 fun H49 =>
  jn (fun σ50 H50 =>
    ob (vLoadN 3 (σ50 10) H50) fun v66x51 =>
    st 3 (σ50 8) v66x51 H50 fun H52 =>
    ob (vLoadN 3 (σ50 8) H52) fun u53 => K (.tuple #[u53, (.bool true)]) H52) fun J50 =>
  lpE (fun Q54 σ54 H54 =>
    ob (vFa 0 (σ54 5)) fun v32x55 =>
    ob (vLoad v32x55 H54) fun v33x56 =>
    ob (vInt .lss (σ54 11) v33x56) fun v34x57 =>
    cnd v34x57
      (jn (fun σ58 H58 =>
      ob (vInt .add (σ58 11) (.int .i64 1)) fun v36x59 =>
      Q54 .normal (up (up (up σ58 35 (σ58 11)) 36 v36x59) 11 v36x59) H58) fun J58 =>
    lpE (fun Q60 σ60 H60 =>
      ob (vFa 1 (σ60 5)) fun v38x61 =>
      ob (vLoad v38x61 H60) fun v39x62 =>
      ob (vInt .lss (σ60 12) v39x62) fun v40x63 =>
      cnd v40x63
        (ob (vFa 2 (σ60 10)) fun v43x64 =>
      ob (vLoad v43x64 H60) fun v44x65 =>
      ob (vInt .add (σ60 2) (σ60 11)) fun v47x66 =>
      ob (vFa 1 (σ60 4)) fun v48x67 =>
      ob (vLoad v48x67 H60) fun v49x68 =>
      ob (vInt .mul v47x66 v49x68) fun v50x69 =>
      ob (vInt .add v50x69 (σ60 3)) fun v52x70 =>
      ob (vInt .add v52x70 (σ60 12)) fun v54x71 =>
      ob (vFa 2 (σ60 5)) fun v55x72 =>
      ob (vLoad v55x72 H60) fun v56x73 =>
      ob (vFa 1 (σ60 5)) fun v58x74 =>
      ob (vLoad v58x74 H60) fun v59x75 =>
      ob (vInt .mul (σ60 11) v59x75) fun v60x76 =>
      ob (vInt .add v60x76 (σ60 12)) fun v62x77 =>
      ob (vIx 1 v56x73 v62x77) fun v63x78 =>
      ob (vLoad v63x78 H60) fun v64x79 =>
      ob (vIx 1 v44x65 v54x71) fun v65x80 =>
      st 1 v65x80 v64x79 H60 fun H81 =>
      ob (vInt .add (σ60 12) (.int .i64 1)) fun v42x82 =>
      Q60 .normal (up (up (up (up (up (up (up (up (up (up (up (up (up (up (up (up (up (up (up (up (up (up (up (up (up (up (up (up (up (up σ60 37 (σ60 12)) 38 v38x61) 39 v39x62) 40 v40x63) 43 v43x64) 44 v44x65) 45 (σ60 2)) 46 (σ60 11)) 47 v47x66) 48 v48x67) 49 v49x68) 50 v50x69) 51 (σ60 3)) 52 v52x70) 53 (σ60 12)) 54 v54x71) 55 v55x72) 56 v56x73) 57 (σ60 11)) 58 v58x74) 59 v59x75) 60 v60x76) 61 (σ60 12)) 62 v62x77) 63 v63x78) 64 v64x79) 65 v65x80) 41 (σ60 12)) 42 v42x82) 12 v42x82) H81)
        (Q60 (.exit 2) (up (up (up (up σ60 37 (σ60 12)) 38 v38x61) 39 v39x62) 40 v40x63) H60)) (blkQ 2 (blkQ 1 (thenQ J58 Q54))) (up (up (up (up (up σ54 31 (σ54 11)) 32 v32x55) 33 v33x56) 34 v34x57) 12 (.int .i64 0)) H54)
      (Q54 (.exit 0) (up (up (up (up σ54 31 (σ54 11)) 32 v32x55) 33 v33x56) 34 v34x57) H54)) (blkQ 0 (thenQ J50 (retQ prg [(.cell 8 27), (.tmp 9)] K))) (up (up (up (up (up (up (up (up (up (up (up (up (up (up (up (up (up (up (up (up (up (up (up (S0 [a0, a1, a2, a3]) 4 v4x1) 5 v5x3) 8 v8x5) 9 (.bool false)) 13 v13x7) 14 v14x9) 15 v14x9) 16 v16x11) 17 v17x14) 18 v18x16) 19 v18x16) 20 v20x18) 21 v21x21) 22 v22x24) 23 v23x27) 24 v24x30) 25 v25x33) 26 v26x36) 27 v27x39) 28 v28x41) 30 v30x45) 10 v10x47) 11 (.int .i64 0)) H49)
def O.spec_PasteField : Nat → Nat × List Nat := fun i => bif Nat.beq i 10 then (0, [0, 1, 2, 3, 4, 5, 6, 7, 8, 9, 10, 11, 12, 13, 14, 15, 16, 17, 18, 19, 20, 21, 22, 23]) else (0, [])
theorem R.spec_PasteField {a0 a1 a2 a3 : Value} {H : Hp} {K : Value → Hp → Prop} (h : F.spec_PasteField a0 a1 a2 a3 H K) : HT prg I.spec_PasteField [a0, a1, a2, a3].toArray H K :=
  HT_of_fev O.spec_PasteField mixed Tryz.func17 (by kernel_rfl) (Eq.mpr (by kernel_rfl : fev prg O.spec_PasteField Tryz.f17 [a0, a1, a2, a3] H K = F.spec_PasteField a0 a1 a2 a3 H K) h)

/-! (loop.example/g01381/impl.Field).has: function 66 -/
def F.impl_Field_has (a0 a1 a2 : Value) (H : Hp) (K : Value → Hp → Prop) : Prop :=
  nw (a0 : Value).cells 27 H fun v3x1 H2 =>
  ob (vFa 0 v3x1) fun v8x3 =>
  ob (vLoad v8x3 H2) fun v9x4 =>
  ob (vInt .sub v9x4 (.int .i64 1)) fun v10x5 =>
  HT prg I.impl_within [a1, (.int .i64 0), v10x5].toArray H2 fun v11x6 H7 =>
  gop v11x6 true (fun K8 => K8 a2 H7) H7 fun v13x9 H10 =>
  gop v11x6 true (fun K11 => ob (vFa 1 v3x1) fun u => K11 u H10) H10 fun v14x12 H13 =>
  gop v11x6 true (fun K14 => ob (vLoad v14x12 H13) fun u => K14 u H13) H13 fun v15x15 H16 =>
  gop v11x6 true (fun K17 => ob (vInt .sub v15x15 (.int .i64 1)) fun u => K17 u H16) H16 fun v16x18 H19 =>
  gop v11x6 true (fun K20 => HT prg I.impl_within [v13x9, (.int .i64 0), v16x18].toArray H19 K20) H19 fun v17x21 H22 =>
  ob (vPick v11x6 v17x21 (.bool false)) fun v18x23 =>
  K v18x23 H22
def O.impl_Field_has : Nat → Nat × List Nat := fun i => (0, [])
theorem R.impl_Field_has {a0 a1 a2 : Value} {H : Hp} {K : Value → Hp → Prop} (h : F.impl_Field_has a0 a1 a2 H K) : HT prg I.impl_Field_has [a0, a1, a2].toArray H K :=
  HT_of_fev O.impl_Field_has mixed Tryz.func66 (by kernel_rfl) (Eq.mpr (by kernel_rfl : fev prg O.impl_Field_has Tryz.f66 [a0, a1, a2] H K = F.impl_Field_has a0 a1 a2 H K) h)

/-! (loop.example/g01381/impl.Field).look: function 42 -/
def F.impl_Field_look (a0 a1 a2 a3 : Value) (H : Hp) (K : Value → Hp → Prop) : Prop :=
  nw (a0 : Value).cells 27 H fun v4x1 H2 =>
  cnd a3
    (ob (vLoadN 3 v4x1 H2) fun v10x3 =>
    ob (vFa 0 v4x1) fun v12x4 =>
    ob (vLoad v12x4 H2) fun v13x5 =>
    ob (vFa 1 v4x1) fun v16x6 =>
    ob (vLoad v16x6 H2) fun v17x7 =>
    HT prg I.impl_floorMod [a1, v13x5].toArray H2 fun v14x8 H9 =>
    Le H2 H9 ∧ (HT prg I.impl_floorMod [a2, v17x7].toArray H9 fun v18x10 H11 =>
    Le H9 H11 ∧ (HT prg I.impl_Field_at [v10x3, v14x8, v18x10].toArray H11 fun v19x12 H13 =>
    Le H11 H13 ∧ (K v19x12 H13))))
    (ob (vLoadN 3 v4x1 H2) fun v20x14 =>
  HT prg I.impl_Field_has [v20x14, a1, a2].toArray H2 fun v23x15 H16 =>
  ob (vUn .not v23x15) fun v24x17 =>
  cnd v24x17
    (K (.int .i64 0) H16)
    (ob (vLoadN 3 v4x1 H16) fun v25x18 =>
  HT prg I.impl_Field_at [v25x18, a1, a2].toArray H16 fun v28x19 H20 =>
  K v28x19 H20))
def O.impl_Field_look : Nat → Nat × List Nat := fun i => bif Nat.beq i 2 then (0, [0, 1, 2, 3, 5, 6, 7, 4, 8, 9, 10]) else (0, [])
theorem R.impl_Field_look {a0 a1 a2 a3 : Value} {H : Hp} {K : Value → Hp → Prop} (h : F.impl_Field_look a0 a1 a2 a3 H K) : HT prg I.impl_Field_look [a0, a1, a2, a3].toArray H K :=
  HT_of_fev O.impl_Field_look mixed Tryz.func42 (by kernel_rfl) (Eq.mpr (by kernel_rfl : fev prg O.impl_Field_look Tryz.f42 [a0, a1, a2, a3] H K = F.impl_Field_look a0 a1 a2 a3 H K) h)

/-! loop.example/g01381/impl.GrowField$1: function 41 -/
def F.impl_GrowField_1 (a0 a1 a2 a3 : Value) (H : Hp) (K : Value → Hp → Prop) : Prop :=
  ob (vLoadN 3 a2 H) fun v7x1 =>
  ob (vLoad a3 H) fun v9x2 =>
  ob (vInt .sub a0 v9x2) fun v10x3 =>
  ob (vLoad a3 H) fun v12x4 =>
  ob (vInt .sub a1 v12x4) fun v13x5 =>
  HT prg I.impl_Field_look [v7x1, v10x3, v13x5, (.bool false)].toArray H fun v14x6 H7 =>
  K v14x6 H7
def O.impl_GrowField_1 : Nat → Nat × List Nat := fun i => (0, [])
theorem R.impl_GrowField_1 {a0 a1 a2 a3 : Value} {H : Hp} {K : Value → Hp → Prop} (h : F.impl_GrowField_1 a0 a1 a2 a3 H K) : HT prg I.impl_GrowField_1 [a0, a1, a2, a3].toArray H K :=
  HT_of_fev O.impl_GrowField_1 mixed Tryz.func41 (by kernel_rfl) (Eq.mpr (by kernel_rfl : fev prg O.impl_GrowField_1 Tryz.f41 [a0, a1, a2, a3] H K = F.impl_GrowField_1 a0 a1 a2 a3 H K) h)

/-! loop.example/g01381/impl.GrowField: function 18 -/
def F.impl_GrowField (a0 a1 : Value) (H : Hp) (K : Value → Hp → Prop) : Prop :=
  nw (a0 : Value).cells 27 H fun v2x1 H2 =>
  nw (a1 : Value).cells 2 H2 fun v3x3 H4 =>
  nw #[(.int .i64 0), (.int .i64 0), (.slice none 0 0)] 27 H4 fun v4x5 H6 =>
  ob (vLoadN 3 v2x1 H6) fun v6x7 =>
  HT prg I.impl_isPlain [v6x7].toArray H6 fun v7x8 H9 =>
  ob (vUn .not v7x8) fun v8x10 =>
  gop v8x10 false (fun K11 => ob (vLoad v3x3 H9) fun u => K11 u H9) H9 fun v10x12 H13 =>
  gop v8x10 false (fun K14 => HT prg I.impl_within [v10x12, (.int .i64 0), (.int .i64 24)].toArray H13 K14) H13 fun v11x15 H16 =>
  gop v8x10 false (fun K17 => ob (vUn .not v11x15) fun u => K17 u H16) H16 fun v12x18 H19 =>
  ob (vPick v8x10 (.bool true) v12x18) fun v13x20 =>
  gop v13x20 false (fun K21 => ob (vFa 0 v2x1) fun u => K21 u H19) H19 fun v15x22 H23 =>
  gop v13x20 false (fun K24 => ob (vLoad v15x22 H23) fun u => K24 u H23) H23 fun v16x25 H26 =>
  gop v13x20 false (fun K27 => ob (vLoad v3x3 H26) fun u => K27 u H26) H26 fun v17x28 H29 =>
  gop v13x20 false (fun K30 => ob (vInt .mul (.int .i64 2) v17x28) fun u => K30 u H29) H29 fun v18x31 H32 =>
  gop v13x20 false (fun K33 => ob (vInt .add v16x25 v18x31) fun u => K33 u H32) H32 fun v19x34 H35 =>
  gop v13x20 false (fun K36 => HT prg I.impl_isSide [v19x34].toArray H35 K36) H35 fun v20x37 H38 =>
  gop v13x20 false (fun K39 => ob (vUn .not v20x37) fun u => K39 u H38) H38 fun v21x40 H41 =>
  ob (vPick v13x20 (.bool true) v21x40) fun v22x42 =>
  gop v22x42 false (fun K43 => ob (vFa 1 v2x1) fun u => K43 u H41) H41 fun v24x44 H45 =>
  gop v22x42 false (fun K46 => ob (vLoad v24x44 H45) fun u => K46 u H45) H45 fun v25x47 H48 =>
  gop v22x42 false (fun K49 => ob (vLoad v3x3 H48) fun u => K49 u H48) H48 fun v26x50 H51 =>
  gop v22x42 false (fun K52 => ob (vInt .mul (.int .i64 2) v26x50) fun u => K52 u H51) H51 fun v27x53 H54 =>
  gop v22x42 false (fun K55 => ob (vInt .add v25x47 v27x53) fun u => K55 u H54) H54 fun v28x56 H57 =>
  gop v22x42 false (fun K58 => HT prg I.impl_isSide [v28x56].toArray H57 K58) H57 fun v29x59 H60 =>
  gop v22x42 false (fun K61 => ob (vUn .not v29x59) fun u => K61 u H60) H60 fun v30x62 H63 =>
  ob (vPick v22x42 (.bool true) v30x62) fun v31x64 =>
  cnd v31x64
    (ob (vBuild [(0, 1), (1, 1), (2, 1)] (.agg #[(.int .i64 0), (.int .i64 0), (.slice none 0 0)]) []) fun v32x65 =>
    st 3 v4x5 v32x65 H63 fun H66 =>
    ob (vLoadN 3 v4x5 H66) fun u67 => K (.tuple #[u67, (.bool false)]) H66)
    (ob (vFa 0 v2x1) fun v33x68 =>
  ob (vLoad v33x68 H63) fun v34x69 =>
  ob (vLoad v3x3 H63) fun v35x70 =>
  ob (vInt .mul (.int .i64 2) v35x70) fun v36x71 =>
  ob (vInt .add v34x69 v36x71) fun v37x72 =>
  ob (vFa 1 v2x1) fun v38x73 =>
  ob (vLoad v38x73 H63) fun v39x74 =>
  ob (vLoad v3x3 H63) fun v40x75 =>
  ob (vInt .mul (.int .i64 2) v40x75) fun v41x76 =>
  ob (vInt .add v39x74 v41x76) fun v42x77 =>
  HT prg I.impl_madeField [v37x72, v42x77, (.func (.func I.impl_GrowField_1) #[] #[v2x1, v3x3])].toArray H63 fun v44x78 H79 =>
  st 3 v4x5 v44x78 H79 fun H80 =>
  ob (vLoadN 3 v4x5 H80) fun u81 => K (.tuple #[u81, (.bool true)]) H80)
def O.impl_GrowField : Nat → Nat × List Nat := fun i => (0, [])
theorem R.impl_GrowField {a0 a1 : Value} {H : Hp} {K : Value → Hp → Prop} (h : F.impl_GrowField a0 a1 H K) : HT prg I.impl_GrowField [a0, a1].toArray H K :=
  HT_of_fev O.impl_GrowField mixed Tryz.func18 (by kernel_rfl) (Eq.mpr (by kernel_rfl : fev prg O.impl_GrowField Tryz.f18 [a0, a1] H K = F.impl_GrowField a0 a1 H K) h)

/-! loop.example/g01381/laws.FnTexts: function 3 -/
def F.laws_FnTexts (a0 a1 : Value) (H : Hp) (K : Value → Hp → Prop) : Prop :=
  HT prg I.laws_b10Long [a0, a1].toArray H fun v46x1 H2 =>
  cnd v46x1
    (K (.bool true) H2)
    (HT prg I.laws_b10At [a1, (.int .i64 0), (.int .i64 8)].toArray H2 fun v48x3 H4 =>
  ob (vInt .add (.int .i64 1) v48x3) fun v49x5 =>
  HT prg I.laws_b10At [a1, (.int .i64 1), (.int .i64 12)].toArray H4 fun v51x6 H7 =>
  ob (vInt .add (.int .i64 1) v51x6) fun v52x8 =>
  HT prg I.spec_B10Plain [a0, v49x5, v52x8].toArray H7 fun v56x9 H10 =>
  nw #[(.int .i64 0), (.int .i64 0), (.slice none 0 0)] 27 H10 fun v7x11 H12 =>
  st 3 v7x11 v56x9 H12 fun H13 =>
  ob (vLoadN 3 v7x11 H13) fun v58x14 =>
  HT prg I.impl_WriteRuns [v58x14].toArray H13 fun v59x15 H16 =>
  ob (vExt v59x15 0) fun v60x17 =>
  ob (vExt v59x15 1) fun v61x18 =>
  ob (vLoadN 3 v7x11 H16) fun v63x19 =>
  HT prg I.spec_WriteRuns [v63x19].toArray H16 fun v64x20 H21 =>
  ob (vExt v64x20 0) fun v65x22 =>
  ob (vExt v64x20 1) fun v66x23 =>
  HT prg I.impl_ReadRuns [v60x17].toArray H21 fun v69x24 H25 =>
  ob (vExt v69x24 0) fun v70x26 =>
  ob (vExt v69x24 1) fun v71x27 =>
  nw #[(.int .i64 0), (.int .i64 0), (.slice none 0 0)] 27 H25 fun v12x28 H29 =>
  st 3 v12x28 v70x26 H29 fun H30 =>
  ob (vUn .not v61x18) fun v73x31 =>
  gop v73x31 false (fun K32 => K32 v66x23 H30) H30 fun v75x33 H34 =>
  gop v73x31 false (fun K35 => ob (vUn .not v75x33) fun u => K35 u H34) H34 fun v76x36 H37 =>
  ob (vPick v73x31 (.bool true) v76x36) fun v77x38 =>
  gop v77x38 false (fun K39 => K39 v71x27 H37) H37 fun v79x40 H41 =>
  gop v77x38 false (fun K42 => ob (vUn .not v79x40) fun u => K42 u H41) H41 fun v80x43 H44 =>
  ob (vPick v77x38 (.bool true) v80x43) fun v81x45 =>
  gop v81x45 false (fun K46 => K46 v60x17 H44) H44 fun v83x47 H48 =>
  gop v81x45 false (fun K49 => K49 v65x22 H48) H48 fun v84x50 H51 =>
  gop v81x45 false (fun K52 => ob (vStr .neq v83x47 v84x50) fun u => K52 u H51) H51 fun v85x53 H54 =>
  ob (vPick v81x45 (.bool true) v85x53) fun v86x55 =>
  gop v86x55 false (fun K56 => ob (vFa 0 v12x28) fun u => K56 u H54) H54 fun v88x57 H58 =>
  gop v86x55 false (fun K59 => ob (vLoad v88x57 H58) fun u => K59 u H58) H58 fun v89x60 H61 =>
  gop v86x55 false (fun K62 => K62 v49x5 H61) H61 fun v90x63 H64 =>
  gop v86x55 false (fun K65 => ob (vInt .neq v89x60 v90x63) fun u => K65 u H64) H64 fun v91x66 H67 =>
  ob (vPick v86x55 (.bool true) v91x66) fun v92x68 =>
  gop v92x68 false (fun K69 => ob (vFa 1 v12x28) fun u => K69 u H67) H67 fun v94x70 H71 =>
  gop v92x68 false (fun K72 => ob (vLoad v94x70 H71) fun u => K72 u H71) H71 fun v95x73 H74 =>
  gop v92x68 false (fun K75 => K75 v52x8 H74) H74 fun v96x76 H77 =>
  gop v92x68 false (fun K78 => ob (vInt .neq v95x73 v96x76) fun u => K78 u H77) H77 fun v97x79 H80 =>
  ob (vPick v92x68 (.bool true) v97x79) fun v98x81 =>
  gop v98x81 false (fun K82 => ob (vFa 2 v12x28) fun u => K82 u H80) H80 fun v100x83 H84 =>
  gop v98x81 false (fun K85 => ob (vLoad v100x83 H84) fun u => K85 u H84) H84 fun v101x86 H87 =>
  gop v98x81 false (fun K88 => ob (vFa 2 v7x11) fun u => K88 u H87) H87 fun v102x89 H90 =>
  gop v98x81 false (fun K91 => ob (vLoad v102x89 H90) fun u => K91 u H90) H90 fun v103x92 H93 =>
  gop v98x81 false (fun K94 => HT prg I.laws_b10Ints [v101x86, v103x92].toArray H93 K94) H93 fun v104x95 H96 =>
  gop v98x81 false (fun K97 => ob (vUn .not v104x95) fun u => K97 u H96) H96 fun v105x98 H99 =>
  ob (vPick v98x81 (.bool true) v105x98) fun v106x100 =>
  cnd v106x100
    (K (.bool false) H99)
    (jn (fun σ101 H101 =>
    ob (vLoadN 3 (σ101 7) H101) fun v122x102 =>
    HT prg I.impl_ImagesOfField [v122x102].toArray H101 fun v123x103 H104 =>
    ob (vExt v123x103 0) fun v124x105 =>
    ob (vExt v123x103 1) fun v125x106 =>
    ob (vUn .not v125x106) fun v127x107 =>
    gop v127x107 false (fun K108 => K108 v124x105 H104) H104 fun v129x109 H110 =>
    gop v127x107 false (fun K111 => ob (vLenSl v129x109) fun u => K111 u H110) H110 fun v130x112 H113 =>
    gop v127x107 false (fun K114 => ob (vInt .neq v130x112 (.int .i64 8)) fun u => K114 u H113) H113 fun v131x115 H116 =>
    ob (vPick v127x107 (.bool true) v131x115) fun v132x117 =>
    gop v132x117 false (fun K118 => K118 v124x105 H116) H116 fun v134x119 H120 =>
    gop v132x117 false (fun K121 => ob (vIx 3 v134x119 (.int .i64 0)) fun u => K121 u H120) H120 fun v135x122 H123 =>
    gop v132x117 false (fun K124 => ob (vFa 2 v135x122) fun u => K124 u H123) H123 fun v136x125 H126 =>
    gop v132x117 false (fun K127 => ob (vLoad v136x125 H126) fun u => K127 u H126) H126 fun v137x128 H129 =>
    gop v132x117 false (fun K130 => ob (vFa 2 (σ101 7)) fun u => K130 u H129) H129 fun v138x131 H132 =>
    gop v132x117 false (fun K133 => ob (vLoad v138x131 H132) fun u => K133 u H132) H132 fun v139x134 H135 =>
    gop v132x117 false (fun K136 => HT prg I.laws_b10Ints [v137x128, v139x134].toArray H135 fun v140x137 H138 =>
    Le H135 H138 ∧ K136 v140x137 H138) H135 fun v140x139 H140 =>
    gop v132x117 false (fun K141 => ob (vUn .not v140x139) fun u => K141 u H140) H140 fun v141x142 H143 =>
    ob (vPick v132x117 (.bool true) v141x142) fun v142x144 =>
    cnd v142x144
      (K (.bool false) H143)
      (ob (vLoadN 3 (σ101 7) H143) fun v144x145 =>
    HT prg I.impl_NameOf [v144x145].toArray H143 fun v145x146 H147 =>
    ob (vExt v145x146 0) fun v146x148 =>
    ob (vExt v145x146 1) fun v147x149 =>
    jn (fun σ150 H150 =>
      ob (vLoadN 3 (σ150 7) H150) fun v204x151 =>
      HT prg I.impl_TrimField [v204x151].toArray H150 fun v205x152 H153 =>
      ob (vExt v205x152 0) fun v206x154 =>
      ob (vExt v205x152 1) fun v207x155 =>
      ob (vExt v205x152 2) fun v208x156 =>
      ob (vExt v205x152 3) fun v209x157 =>
      nw #[(.int .i64 0), (.int .i64 0), (.slice none 0 0)] 27 H153 fun v27x158 H159 =>
      st 3 v27x158 v206x154 H159 fun H160 =>
      ob (vUn .not (σ150 19)) fun v211x161 =>
      gop v211x161 false (fun K162 => K162 v209x157 H160) H160 fun v213x163 H164 =>
      gop v211x161 false (fun K165 => K165 (σ150 14) H164) H164 fun v214x166 H167 =>
      gop v211x161 false (fun K168 => ob (vInt .gtr v214x166 (.int .i64 0)) fun u => K168 u H167) H167 fun v215x169 H170 =>
      gop v211x161 false (fun K171 => ob (vBool .neq v213x163 v215x169) fun u => K171 u H170) H170 fun v216x172 H173 =>
      ob (vPick v211x161 (.bool true) v216x172) fun v217x174 =>
      gop v217x174 false (fun K175 => K175 (σ150 18) H173) H173 fun v219x176 H177 =>
      gop v217x174 false (fun K178 => ob (vLenS v219x176) fun u => K178 u H177) H177 fun v220x179 H180 =>
      gop v217x174 false (fun K181 => ob (vInt .gtr v220x179 (.int .i64 0)) fun u => K181 u H180) H180 fun v221x182 H183 =>
      gop v217x174 false (fun K184 => K184 v209x157 H183) H183 fun v222x185 H186 =>
      gop v217x174 false (fun K187 => ob (vBool .neq v221x182 v222x185) fun u => K187 u H186) H186 fun v223x188 H189 =>
      ob (vPick v217x174 (.bool true) v223x188) fun v224x190 =>
      cnd v224x190
        (K (.bool false) H189)
        (ob (vUn .not v209x157) fun v226x191 =>
      cnd v226x191
        (K (.bool true) H189)
        (ob (vLoadN 3 v27x158 H189) fun v228x192 =>
      HT prg I.spec_CountCells [v228x192, (.int .i64 1)].toArray H189 fun v229x193 H194 =>
      ob (vExt v229x193 0) fun v230x195 =>
      ob (vExt v229x193 1) fun v231x196 =>
      HT prg I.spec_NewField [(σ150 5), (σ150 6)].toArray H194 fun v235x197 H198 =>
      ob (vExt v235x197 0) fun v236x199 =>
      ob (vExt v235x197 1) fun v237x200 =>
      nw #[(.int .i64 0), (.int .i64 0), (.slice none 0 0)] 27 H198 fun v33x201 H202 =>
      st 3 v33x201 v236x199 H202 fun H203 =>
      ob (vLoadN 3 v33x201 H203) fun v239x204 =>
      ob (vLoadN 3 v27x158 H203) fun v240x205 =>
      HT prg I.spec_PasteField [v239x204, v240x205, v207x155, v208x156].toArray H203 fun v243x206 H207 =>
      ob (vExt v243x206 0) fun v244x208 =>
      ob (vExt v243x206 1) fun v245x209 =>
      nw #[(.int .i64 0), (.int .i64 0), (.slice none 0 0)] 27 H207 fun v35x210 H211 =>
      st 3 v35x210 v244x208 H211 fun H212 =>
      HT prg I.laws_b10At [(σ150 1), (.int .i64 2), (.int .i64 4)].toArray H212 fun v247x213 H214 =>
      ob (vLoadN 3 v27x158 H214) fun v249x215 =>
      HT prg I.impl_GrowField [v249x215, v247x213].toArray H214 fun v251x216 H217 =>
      ob (vExt v251x216 0) fun v252x218 =>
      ob (vExt v251x216 1) fun v253x219 =>
      nw #[(.int .i64 0), (.int .i64 0), (.slice none 0 0)] 27 H217 fun v38x220 H221 =>
      st 3 v38x220 v252x218 H221 fun H222 =>
      ob (vLoadN 3 v38x220 H222) fun v255x223 =>
      HT prg I.impl_TrimField [v255x223].toArray H222 fun v256x224 H225 =>
      ob (vExt v256x224 0) fun v257x226 =>
      ob (vExt v256x224 1) fun v258x227 =>
      ob (vExt v256x224 2) fun v259x228 =>
      ob (vExt v256x224 3) fun v260x229 =>
      nw #[(.int .i64 0), (.int .i64 0), (.slice none 0 0)] 27 H225 fun v40x230 H231 =>
      st 3 v40x230 v257x226 H231 fun H232 =>
      gop v231x196 true (fun K233 => K233 v237x200 H232) H232 fun v263x234 H235 =>
      ob (vPick v231x196 v263x234 (.bool false)) fun v264x236 =>
      gop v264x236 true (fun K237 => K237 v245x209 H235) H235 fun v266x238 H239 =>
      ob (vPick v264x236 v266x238 (.bool false)) fun v267x240 =>
      gop v267x240 true (fun K241 => K241 v253x219 H239) H239 fun v269x242 H243 =>
      ob (vPick v267x240 v269x242 (.bool false)) fun v270x244 =>
      gop v270x244 true (fun K245 => K245 v260x229 H243) H243 fun v272x246 H247 =>
      ob (vPick v270x244 v272x246 (.bool false)) fun v273x248 =>
      gop v273x248 true (fun K249 => K249 v230x195 H247) H247 fun v275x250 H251 =>
      gop v273x248 true (fun K252 => K252 (σ150 14) H251) H251 fun v276x253 H254 =>
      gop v273x248 true (fun K255 => ob (vInt .eql v275x250 v276x253) fun u => K255 u H254) H254 fun v277x256 H257 =>
      ob (vPick v273x248 v277x256 (.bool false)) fun v278x258 =>
      gop v278x258 true (fun K259 => ob (vFa 2 v35x210) fun u => K259 u H257) H257 fun v280x260 H261 =>
      gop v278x258 true (fun K262 => ob (vLoad v280x260 H261) fun u => K262 u H261) H261 fun v281x263 H264 =>
      gop v278x258 true (fun K265 => ob (vFa 2 (σ150 7)) fun u => K265 u H264) H264 fun v282x266 H267 =>
      gop v278x258 true (fun K268 => ob (vLoad v282x266 H267) fun u => K268 u H267) H267 fun v283x269 H270 =>
      gop v278x258 true (fun K271 => HT prg I.laws_b10Ints [v281x263, v283x269].toArray H270 K271) H270 fun v284x272 H273 =>
      ob (vPick v278x258 v284x272 (.bool false)) fun v285x274 =>
      gop v285x274 true (fun K275 => K275 v258x227 H273) H273 fun v287x276 H277 =>
      gop v285x274 true (fun K278 => K278 v247x213 H277) H277 fun v288x279 H280 =>
      gop v285x274 true (fun K281 => ob (vInt .eql v287x276 v288x279) fun u => K281 u H280) H280 fun v289x282 H283 =>
      ob (vPick v285x274 v289x282 (.bool false)) fun v290x284 =>
      gop v290x284 true (fun K285 => K285 v259x228 H283) H283 fun v292x286 H287 =>
      gop v290x284 true (fun K288 => K288 v247x213 H287) H287 fun v293x289 H290 =>
      gop v290x284 true (fun K291 => ob (vInt .eql v292x286 v293x289) fun u => K291 u H290) H290 fun v294x292 H293 =>
      ob (vPick v290x284 v294x292 (.bool false)) fun v295x294 =>
      gop v295x294 true (fun K295 => ob (vFa 2 v40x230) fun u => K295 u H293) H293 fun v297x296 H297 =>
      gop v295x294 true (fun K298 => ob (vLoad v297x296 H297) fun u => K298 u H297) H297 fun v298x299 H300 =>
      gop v295x294 true (fun K301 => ob (vFa 2 v27x158) fun u => K301 u H300) H300 fun v299x302 H303 =>
      gop v295x294 true (fun K304 => ob (vLoad v299x302 H303) fun u => K304 u H303) H303 fun v300x305 H306 =>
      gop v295x294 true (fun K307 => HT prg I.laws_b10Ints [v298x299, v300x305].toArray H306 K307) H306 fun v301x308 H309 =>
      ob (vPick v295x294 v301x308 (.bool false)) fun v302x310 =>
      gop v302x310 true (fun K311 => ob (vFa 0 v38x220) fun u => K311 u H309) H309 fun v304x312 H313 =>
      gop v302x310 true (fun K314 => ob (vLoad v304x312 H313) fun u => K314 u H313) H313 fun v305x315 H316 =>
      gop v302x310 true (fun K317 => ob (vFa 0 v27x158) fun u => K317 u H316) H316 fun v306x318 H319 =>
      gop v302x310 true (fun K320 => ob (vLoad v306x318 H319) fun u => K320 u H319) H319 fun v307x321 H322 =>
      gop v302x310 true (fun K323 => K323 v247x213 H322) H322 fun v308x324 H325 =>
      gop v302x310 true (fun K326 => ob (vInt .mul (.int .i64 2) v308x324) fun u => K326 u H325) H325 fun v309x327 H328 =>
      gop v302x310 true (fun K329 => ob (vInt .add v307x321 v309x327) fun u => K329 u H328) H328 fun v310x330 H331 =>
      gop v302x310 true (fun K332 => ob (vInt .eql v305x315 v310x330) fun u => K332 u H331) H331 fun v311x333 H334 =>
      ob (vPick v302x310 v311x333 (.bool false)) fun v312x335 =>
      K v312x335 H334))) fun J150 =>
    ob (vLenSl v124x105) fun v149x336 =>
    lpE (fun Q337 σ337 H337 =>
      ob (vInt .lss (σ337 150) (σ337 149)) fun v151x338 =>
      cnd v151x338
        (ob (vIx 3 (σ337 16) (σ337 150)) fun v156x339 =>
      ob (vLoadN 3 v156x339 H337) fun v157x340 =>
      HT prg I.spec_CountCells [v157x340, (.int .i64 1)].toArray H337 fun v158x341 H342 =>
      ob (vExt v158x341 0) fun v159x343 =>
      ob (vExt v158x341 1) fun v160x344 =>
      ob (vIx 3 (σ337 16) (σ337 150)) fun v164x345 =>
      ob (vLoadN 3 v164x345 H342) fun v165x346 =>
      HT prg I.impl_NameOf [v165x346].toArray H342 fun v166x347 H348 =>
      ob (vExt v166x347 0) fun v167x349 =>
      ob (vExt v166x347 1) fun v168x350 =>
      ob (vLoadN 3 (σ337 7) H348) fun v170x351 =>
      ob (vIx 3 (σ337 16) (σ337 150)) fun v173x352 =>
      ob (vLoadN 3 v173x352 H348) fun v174x353 =>
      HT prg I.impl_SameShape [v170x351, v174x353].toArray H348 fun v175x354 H355 =>
      Le H348 H355 ∧ (ob (vExt v175x354 0) fun v176x356 =>
      ob (vExt v175x354 1) fun v177x357 =>
      ob (vUn .not v160x344) fun v179x358 =>
      gop v179x358 false (fun K359 => K359 v168x350 H355) H355 fun v181x360 H361 =>
      gop v179x358 false (fun K362 => ob (vUn .not v181x360) fun u => K362 u H361) H361 fun v182x363 H364 =>
      ob (vPick v179x358 (.bool true) v182x363) fun v183x365 =>
      gop v183x365 false (fun K366 => K366 v177x357 H364) H364 fun v185x367 H368 =>
      gop v183x365 false (fun K369 => ob (vUn .not v185x367) fun u => K369 u H368) H368 fun v186x370 H371 =>
      ob (vPick v183x365 (.bool true) v186x370) fun v187x372 =>
      gop v187x372 false (fun K373 => K373 v176x356 H371) H371 fun v189x374 H375 =>
      gop v187x372 false (fun K376 => ob (vUn .not v189x374) fun u => K376 u H375) H375 fun v190x377 H378 =>
      ob (vPick v187x372 (.bool true) v190x377) fun v191x379 =>
      gop v191x379 false (fun K380 => K380 v159x343 H378) H378 fun v193x381 H382 =>
      gop v191x379 false (fun K383 => K383 (σ337 14) H382) H382 fun v194x384 H385 =>
      gop v191x379 false (fun K386 => ob (vInt .neq v193x381 v194x384) fun u => K386 u H385) H385 fun v195x387 H388 =>
      ob (vPick v191x379 (.bool true) v195x387) fun v196x389 =>
      gop v196x389 false (fun K390 => K390 v167x349 H388) H388 fun v198x391 H392 =>
      gop v196x389 false (fun K393 => K393 (σ337 18) H392) H392 fun v199x394 H395 =>
      gop v196x389 false (fun K396 => ob (vStr .neq v198x391 v199x394) fun u => K396 u H395) H395 fun v200x397 H398 =>
      ob (vPick v196x389 (.bool true) v200x397) fun v201x399 =>
      cnd v201x399
        (Q337 .ret (up (up (up (up (up (up (up (up (up (up (up (up (up (up (up (up (up (up (up (up (up (up (up (up (up (up (up (up (up (up (up (up (up (up (up (up (up (up (up (up (up (up (up (up (up (up (up (up (up (up (up (up (up (up (up (up (up (up (up σ337 151 v151x338) 152 (σ337 150)) 20 (σ337 150)) 154 (σ337 16)) 155 (σ337 150)) 156 v156x339) 157 v157x340) 158 v158x341) 153 v158x341) 159 v159x343) 160 v160x344) 21 v159x343) 22 v160x344) 162 (σ337 16)) 163 (σ337 150)) 164 v164x345) 165 v165x346) 166 v166x347) 161 v166x347) 167 v167x349) 168 v168x350) 23 v167x349) 24 v168x350) 170 v170x351) 171 (σ337 16)) 172 (σ337 150)) 173 v173x352) 174 v174x353) 175 v175x354) 169 v175x354) 176 v176x356) 177 v177x357) 25 v176x356) 26 v177x357) 178 v160x344) 179 v179x358) 180 v179x358) 181 v181x360) 182 v182x363) 183 v183x365) 184 v183x365) 185 v185x367) 186 v186x370) 187 v187x372) 188 v187x372) 189 v189x374) 190 v190x377) 191 v191x379) 192 v191x379) 193 v193x381) 194 v194x384) 195 v195x387) 196 v196x389) 197 v196x389) 198 v198x391) 199 v199x394) 200 v200x397) 201 v201x399) 4 (.bool false)) H398)
        (ob (vInt .add (σ337 150) (.int .i64 1)) fun v202x400 =>
      Q337 .normal (up (up (up (up (up (up (up (up (up (up (up (up (up (up (up (up (up (up (up (up (up (up (up (up (up (up (up (up (up (up (up (up (up (up (up (up (up (up (up (up (up (up (up (up (up (up (up (up (up (up (up (up (up (up (up (up (up (up (up (up σ337 151 v151x338) 152 (σ337 150)) 20 (σ337 150)) 154 (σ337 16)) 155 (σ337 150)) 156 v156x339) 157 v157x340) 158 v158x341) 153 v158x341) 159 v159x343) 160 v160x344) 21 v159x343) 22 v160x344) 162 (σ337 16)) 163 (σ337 150)) 164 v164x345) 165 v165x346) 166 v166x347) 161 v166x347) 167 v167x349) 168 v168x350) 23 v167x349) 24 v168x350) 170 v170x351) 171 (σ337 16)) 172 (σ337 150)) 173 v173x352) 174 v174x353) 175 v175x354) 169 v175x354) 176 v176x356) 177 v177x357) 25 v176x356) 26 v177x357) 178 v160x344) 179 v179x358) 180 v179x358) 181 v181x360) 182 v182x363) 183 v183x365) 184 v183x365) 185 v185x367) 186 v186x370) 187 v187x372) 188 v187x372) 189 v189x374) 190 v190x377) 191 v191x379) 192 v191x379) 193 v193x381) 194 v194x384) 195 v195x387) 196 v196x389) 197 v196x389) 198 v198x391) 199 v199x394) 200 v200x397) 201 v201x399) 202 v202x400) 150 v202x400) H398)))
        (Q337 (.exit 2) (up σ337 151 v151x338) H337)) (blkQ 2 (thenQ J150 (retQ prg [(.tmp 4)] K))) (up (up (up (up (up (up (up (up (up (up (up (up (up (up (up (up (up (up (up (up (up (up (up (up (up (up (up (up (up (up (up (up (up (up σ101 122 v122x102) 123 v123x103) 121 v123x103) 124 v124x105) 125 v125x106) 16 v124x105) 17 v125x106) 126 v125x106) 127 v127x107) 128 v127x107) 129 v129x109) 130 v130x112) 131 v131x115) 132 v132x117) 133 v132x117) 134 v134x119) 135 v135x122) 136 v136x125) 137 v137x128) 138 v138x131) 139 v139x134) 140 v140x139) 141 v141x142) 142 v142x144) 144 v144x145) 145 v145x146) 143 v145x146) 146 v146x148) 147 v147x149) 18 v146x148) 19 v147x149) 148 v124x105) 149 v149x336) 150 (.int .i64 0)) H147)) fun J101 =>
  ob (vFa 2 v7x11) fun v107x401 =>
  ob (vLoad v107x401 H99) fun v108x402 =>
  ob (vLenSl v108x402) fun v109x403 =>
  lpE (fun Q404 σ404 H404 =>
    ob (vInt .lss (σ404 110) (σ404 109)) fun v111x405 =>
    cnd v111x405
      (ob (vFa 2 (σ404 7)) fun v114x406 =>
    ob (vLoad v114x406 H404) fun v115x407 =>
    ob (vIx 1 v115x407 (σ404 110)) fun v117x408 =>
    ob (vLoad v117x408 H404) fun v118x409 =>
    ob (vInt .add (σ404 14) v118x409) fun v119x410 =>
    ob (vInt .add (σ404 110) (.int .i64 1)) fun v120x411 =>
    Q404 .normal (up (up (up (up (up (up (up (up (up (up (up (up (up σ404 111 v111x405) 112 (σ404 110)) 15 (σ404 110)) 113 (σ404 14)) 114 v114x406) 115 v115x407) 116 (σ404 110)) 117 v117x408) 118 v118x409) 119 v119x410) 14 v119x410) 120 v120x411) 110 v120x411) H404)
      (Q404 (.exit 0) (up σ404 111 v111x405) H404)) (blkQ 0 (thenQ J101 (retQ prg [(.tmp 4)] K))) (up (up (up (up (up (up (up (up (up (up (up (up (up (up (up (up (up (up (up (up (up (up (up (up (up (up (up (up (up (up (up (up (up (up (up (up (up (up (up (up (up (up (up (up (up (up (up (up (up (up (up (up (up (up (up (up (up (up (up (up (up (up (up (up (up (up (up (up (up (up (up (up (up (up (up (up (up (up (S0 [a0, a1]) 4 (.bool false)) 44 a0) 45 a1) 46 v46x1) 47 a1) 48 v48x3) 49 v49x5) 5 v49x5) 50 a1) 51 v51x6) 52 v52x8) 6 v52x8) 53 a0) 54 v49x5) 55 v52x8) 56 v56x9) 7 v7x11) 58 v58x14) 59 v59x15) 57 v59x15) 60 v60x17) 61 v61x18) 8 v60x17) 9 v61x18) 63 v63x19) 64 v64x20) 62 v64x20) 65 v65x22) 66 v66x23) 10 v65x22) 11 v66x23) 68 v60x17) 69 v69x24) 67 v69x24) 70 v70x26) 71 v71x27) 12 v12x28) 13 v71x27) 72 v61x18) 73 v73x31) 74 v73x31) 75 v75x33) 76 v76x36) 77 v77x38) 78 v77x38) 79 v79x40) 80 v80x43) 81 v81x45) 82 v81x45) 83 v83x47) 84 v84x50) 85 v85x53) 86 v86x55) 87 v86x55) 88 v88x57) 89 v89x60) 90 v90x63) 91 v91x66) 92 v92x68) 93 v92x68) 94 v94x70) 95 v95x73) 96 v96x76) 97 v97x79) 98 v98x81) 99 v98x81) 100 v100x83) 101 v101x86) 102 v102x89) 103 v103x92) 104 v104x95) 105 v105x98) 106 v106x100) 14 (.int .i64 0)) 107 v107x401) 108 v108x402) 109 v109x403) 110 (.int .i64 0)) H99))
def O.laws_FnTexts : Nat → Nat × List Nat := fun i => bif Nat.beq i 18 then (0, [0, 1, 2, 3, 4, 5, 6, 7, 8, 9, 10, 11, 12, 13, 14, 15, 16]) else bif Nat.beq i 26 then (0, [0, 1, 2, 3, 4, 5, 6, 7, 8, 9, 10]) else (0, [])
theorem R.laws_FnTexts {a0 a1 : Value} {H : Hp} {K : Value → Hp → Prop} (h : F.laws_FnTexts a0 a1 H K) : HT prg I.laws_FnTexts [a0, a1].toArray H K :=
  HT_of_fev O.laws_FnTexts mixed Tryz.func3 (by kernel_rfl) (Eq.mpr (by kernel_rfl : fev prg O.laws_FnTexts Tryz.f3 [a0, a1] H K = F.laws_FnTexts a0 a1 H K) h)

end Go.Proofs.YtijmoehbgkibnaaGreatDoor
/- All functions' texts. -/
/- What the small functions of lanes come to. -/
namespace Go.Proofs.YtijmoehbgkibnaaGreatDoor
open HL
theorem C.spec_l00In {x lo hi : Int} {H : Hp} {K : Value → Hp → Prop} (hk : K (.bool (decide (lo ≤ x ∧ x ≤ hi))) H) : HT prg I.spec_l00In [.int .i64 x, .int .i64 lo, .int .i64 hi].toArray H K := by
 refine R.spec_l00In ?_
 unfold F.spec_l00In
 by_cases h : lo ≤ x
 ·simp only [vInt_geq, vInt_leq, ob_some, h, decide_true, gop_tt, vPick_t, true_and] at hk ⊢; exact hk
 ·simp only [vInt_geq, ob_some, h, decide_false, gop_ft, vPick_f, false_and] at hk ⊢; exact hk
theorem C.impl_within {x lo hi : Int} {H : Hp} {K : Value → Hp → Prop} (hk : K (.bool (decide (lo ≤ x ∧ x ≤ hi))) H) : HT prg I.impl_within [.int .i64 x, .int .i64 lo, .int .i64 hi].toArray H K := by
 refine R.impl_within ?_
 unfold F.impl_within
 by_cases h : lo ≤ x
 ·simp only [vInt_geq, vInt_leq, ob_some, h, decide_true, gop_tt, vPick_t, true_and] at hk ⊢; exact hk
 ·simp only [vInt_geq, ob_some, h, decide_false, gop_ft, vPick_f, false_and] at hk ⊢; exact hk
theorem C.impl_areWithin {a : Value} {l : List Int} {lo hi : Int} {H : Hp} {K : Value → Hp → Prop} (ha : Sl eI H a l) (hl : l.length ≤ 9223372036854775807) (hk : K (.bool (decide (∀ x ∈ l, lo ≤ x ∧ x ≤ hi))) H) :
    HT prg I.impl_areWithin [a, .int .i64 lo, .int .i64 hi].toArray H K := by
 refine R.impl_areWithin ?_
 unfold F.impl_areWithin jn; dsimp only
 rw [ha.len, ob_some]
 refine ⟨fun n σ H1 => ∃ i : Nat, n = l.length - i ∧ i ≤ l.length ∧ H1 = H ∧ σ 1 = .int .i64 lo ∧ σ 2 = .int .i64 hi ∧ σ 9 = a ∧ σ 10 = .int .i64 l.length ∧ σ 11 = .int .i64 i ∧ ∀ x ∈ l.take i, lo ≤ x ∧ x ≤ hi,
  ⟨_, 0, rfl, by omega, rfl, rfl, rfl, rfl, rfl, rfl, by simp⟩, ?_⟩
 rintro n σ H1 ⟨i, rfl, hi', rfl, h1, h2, h9, h10, h11, hall⟩
 simp only [h1, h2, h9, h10, h11, vInt_lss, ob_some]
 refine cnd_d (fun hlt => ?_) (fun hge => ?_)
 ·have hlt' : i < l.length := by omega
  rw [ha.ix (by omega) hlt, ob_some, ha.ld 0 (by omega) hlt, ob_some]
  refine C.impl_within ?_
  rw [vUn_not, ob_some]
  refine cnd_i (fun hb => ?_) (fun hb => ?_)
  ·refine retK (K := K) (v' := .bool false) rfl ?_
   rw [decide_eq_false] at hk
   ·exact hk
   ·intro hh
    have := hh _ (at_mem 0 l (i := i) (by omega) hlt)
    simp [this] at hb
  ·rw [vInt_add (by omega) (by omega), ob_some]
   refine nxt (l.length - (i + 1)) (by omega) ⟨i + 1, rfl, by omega, rfl, h1, h2, h9, h10, rfl, ?_⟩
   rw [take_at 0 l hlt']
   intro x hx
   rcases List.mem_append.mp hx with hx | hx
   ·exact hall x hx
   ·simp only [List.mem_singleton] at hx; subst hx; simpa using hb
 ·refine retK (K := K) (v' := .bool true) rfl ?_
  rw [decide_eq_true] at hk
  ·exact hk
  ·intro x hx
   rw [List.take_of_length_le (by omega)] at hall
   exact hall x hx
theorem C.impl_areMany {a : Value} {l : List Int} {n m lo hi : Int} {H : Hp} {K : Value → Hp → Prop} (ha : Sl eI H a l) (hl : l.length ≤ 9223372036854775807)
    (hk : K (.bool (decide ((n ≤ l.length ∧ l.length ≤ m) ∧ ∀ x ∈ l, lo ≤ x ∧ x ≤ hi))) H) :
    HT prg I.impl_areMany [a, .int .i64 n, .int .i64 m, .int .i64 lo, .int .i64 hi].toArray H K := by
 refine R.impl_areMany ?_
 unfold F.impl_areMany
 rw [ha.len, ob_some]
 refine C.impl_within ?_
 by_cases h : n ≤ l.length ∧ l.length ≤ m
 ·simp only [h, and_self, decide_true, gop_tt, true_and] at hk ⊢
  refine C.impl_areWithin ha hl ?_
  rw [vPick_t, ob_some]
  exact hk
 ·simp only [h, decide_false, gop_ft, vPick_f, ob_some, false_and] at hk ⊢
  exact hk
def isLane (l : List Int) : Prop := (1 ≤ (l.length : Int) ∧ (l.length : Int) ≤ 64) ∧ ∀ x ∈ l, -1 ≤ x ∧ x ≤ 5
instance (l : List Int) : Decidable (isLane l) := by unfold isLane; infer_instance
end Go.Proofs.YtijmoehbgkibnaaGreatDoor
/- The runs of a row, as texts: plain law. -/
namespace Go.Proofs.YtijmoehbgkibnaaGreatDoor
open HL
set_option maxRecDepth 100000
/-- A number below 100 in decimal. -/
def decT (n : Nat) : List UInt8 := if n < 10 then [UInt8.ofNat (48 + n)] else [UInt8.ofNat (48 + n / 10), UInt8.ofNat (48 + n % 10)]
theorem decT_len (n : Nat) : 1 ≤ (decT n).length ∧ (decT n).length ≤ 2 := by unfold decT; split <;> simp
/-- How often a number stands at the beginning. -/
def rN (x : Int) : List Int → Nat
  | [] => 0
  | y :: l => if y = x then rN x l + 1 else 0
theorem rN_le (x : Int) : ∀ l : List Int, rN x l ≤ l.length
  | [] => Nat.le_refl _
  | y :: l => by
    have := rN_le x l
    unfold rN
    split <;> simp <;> omega
theorem rN_step {x : Int} : ∀ {l : List Int} {t : Nat}, t ≤ rN x l → t < l.length → at_ 0 l (t : Int) = x → t + 1 ≤ rN x l
  | [], t, _, h, _ => by simp at h
  | y :: l, 0, _, _, h => by
    have : y = x := h
    unfold rN
    rw [if_pos this]; omega
  | y :: l, t + 1, h1, h2, h3 => by
    unfold rN at h1 ⊢
    split at h1
    · rename_i hy
      rw [if_pos hy]
      have := rN_step (x := x) (l := l) (t := t) (by omega) (by simpa using h2) (by
        unfold at_ at h3 ⊢
        simpa using h3)
      omega
    · omega
theorem rN_at {x : Int} : ∀ {l : List Int} {t : Nat}, t < rN x l → at_ 0 l (t : Int) = x
  | [], t, h => by simp [rN] at h
  | y :: l, 0, h => by
    unfold rN at h
    split at h
    · rename_i hy; exact hy
    · omega
  | y :: l, t + 1, h => by
    unfold rN at h
    split at h
    · have := rN_at (x := x) (l := l) (t := t) (by omega)
      unfold at_ at this ⊢
      simpa using this
    · omega
theorem rN_end {x : Int} {l : List Int} {t : Nat} (h1 : t ≤ rN x l) (h2 : t = l.length ∨ at_ 0 l (t : Int) ≠ x) : t = rN x l := by
  rcases Nat.lt_or_ge t (rN x l) with h | h
  · have h3 := rN_at h
    rcases h2 with h2 | h2
    · have := rN_le x l; omega
    · exact absurd h3 h2
  · omega
def chT (x : Int) : UInt8 := if x = 1 then 111 else 98
/-- The runs of a row, without zeros at its end. -/
def rtx : List Int → List UInt8
  | [] => []
  | x :: l => if x = 0 ∧ rN x (x :: l) = l.length + 1 then [] else (if rN x (x :: l) = 1 then [] else decT (rN x (x :: l))) ++ [chT x] ++ rtx ((x :: l).drop (rN x (x :: l)))
termination_by l => l.length
decreasing_by
  have : 1 ≤ rN x (x :: l) := by unfold rN; rw [if_pos rfl]; omega
  simp only [List.length_drop, List.length_cons]; omega
theorem rtx_nil : rtx [] = [] := by unfold rtx; rfl
theorem rtx_of {l : List Int} (h : 0 < l.length) : rtx l = if at_ 0 l 0 = 0 ∧ rN (at_ 0 l 0) l = l.length then [] else (if rN (at_ 0 l 0) l = 1 then [] else decT (rN (at_ 0 l 0) l)) ++ [chT (at_ 0 l 0)] ++ rtx (l.drop (rN (at_ 0 l 0) l)) := by
  cases l with
  | nil => simp at h
  | cons x l =>
    conv => lhs; unfold rtx
    rfl
theorem rtx_zero : ∀ {l : List Int}, (∀ t, t < l.length → at_ 0 l (t : Int) = 0) → rtx l = []
  | [], _ => rtx_nil
  | x :: l, h => by
    rw [rtx_of (by simp)]
    have e0 : at_ 0 (x :: l) 0 = 0 := h 0 (by simp)
    rw [e0]
    have hk : ∀ t, t ≤ (x :: l).length → t ≤ rN 0 (x :: l) := by
      intro t
      induction t with
      | zero => intro _; omega
      | succ t ih => intro ht; exact rN_step (ih (by omega)) (by omega) (h t (by omega))
    have := hk _ (Nat.le_refl _)
    have := rN_le 0 (x :: l)
    rw [if_pos ⟨rfl, by omega⟩]
theorem rtx_len : ∀ (n : Nat) (l : List Int), l.length ≤ n → (rtx l).length ≤ 3 * l.length
  | 0, l, h => by
    have : l = [] := List.length_eq_zero_iff.mp (by omega)
    subst this
    simp [rtx_nil]
  | n + 1, l, h => by
    cases l with
    | nil => simp [rtx_nil]
    | cons x l =>
      rw [rtx_of (by simp)]
      split
      · simp
      · have h1 : 1 ≤ rN (at_ 0 (x :: l) 0) (x :: l) := rN_step (t := 0) (by omega) (by simp) rfl
        have h2 := rN_le (at_ 0 (x :: l) 0) (x :: l)
        have h3 := rtx_len n ((x :: l).drop (rN (at_ 0 (x :: l) 0) (x :: l))) (by simp only [List.length_drop]; simp only [List.length_cons] at h ⊢; omega)
        simp only [List.length_drop] at h3
        have h4 := decT_len (rN (at_ 0 (x :: l) 0) (x :: l))
        simp only [List.length_append, List.length_singleton]
        split
        · simp only [List.length_nil]; omega
        · omega
section
variable {row : List Int}
theorem at_drop {a t : Nat} : at_ 0 (row.drop a) (t : Int) = at_ 0 row ((a + t : Nat) : Int) := by
  unfold at_
  rw [Int.toNat_natCast, Int.toNat_natCast]
  simp [List.getD_eq_getElem?_getD, List.getElem?_drop]
/-- A run that is told: what is written, and what is left. -/
theorem rtx_run {a k : Nat} (ha : a < row.length) (hk : k = rN (at_ 0 row (a : Int)) (row.drop a)) (hne : ¬ (at_ 0 row (a : Int) = 0 ∧ a + k = row.length)) :
    rtx (row.drop a) = (if k = 1 then [] else decT k) ++ [chT (at_ 0 row (a : Int))] ++ rtx (row.drop (a + k)) := by
  have e0 : at_ 0 (row.drop a) 0 = at_ 0 row (a : Int) := at_drop (t := 0)
  rw [rtx_of (by simp; omega), e0, ← hk]
  rw [if_neg (fun h => hne ⟨h.1, by have := h.2; simp only [List.length_drop] at this; omega⟩), List.drop_drop]
theorem rtx_stop {a k : Nat} (ha : a < row.length) (hk : k = rN (at_ 0 row (a : Int)) (row.drop a)) (h : at_ 0 row (a : Int) = 0 ∧ a + k = row.length) : rtx (row.drop a) = [] := by
  have e0 : at_ 0 (row.drop a) 0 = at_ 0 row (a : Int) := at_drop (t := 0)
  rw [rtx_of (by simp; omega), e0, ← hk]
  rw [if_pos ⟨h.1, by simp only [List.length_drop]; omega⟩]
theorem run_zero {a : Nat} (ha : a < row.length) : a + 1 - a ≤ rN (at_ 0 row (a : Int)) (row.drop a) := by
  have := rN_step (x := at_ 0 row (a : Int)) (l := row.drop a) (t := 0) (by omega) (by simp; omega) (at_drop (t := 0))
  omega
theorem run_next {a e : Nat} (hae : a ≤ e) (h : e - a ≤ rN (at_ 0 row (a : Int)) (row.drop a)) (he : e < row.length) (hx : at_ 0 row (e : Int) = at_ 0 row (a : Int)) : e + 1 - a ≤ rN (at_ 0 row (a : Int)) (row.drop a) := by
  have := rN_step (t := e - a) h (by simp; omega) (by rw [at_drop, show a + (e - a) = e by omega]; exact hx)
  omega
theorem run_end {a e : Nat} (hae : a ≤ e) (h : e - a ≤ rN (at_ 0 row (a : Int)) (row.drop a)) (he : e ≤ row.length) (hx : e = row.length ∨ at_ 0 row (e : Int) ≠ at_ 0 row (a : Int)) : e - a = rN (at_ 0 row (a : Int)) (row.drop a) := by
  refine rN_end h ?_
  rcases hx with hx | hx
  · exact .inl (by simp; omega)
  · exact .inr (by rw [at_drop, show a + (e - a) = e by omega]; exact hx)
theorem run_pos {a : Nat} (ha : a < row.length) : 1 ≤ rN (at_ 0 row (a : Int)) (row.drop a) ∧ a + rN (at_ 0 row (a : Int)) (row.drop a) ≤ row.length := by
  have := run_zero ha
  have := rN_le (at_ 0 row (a : Int)) (row.drop a)
  simp only [List.length_drop] at this
  omega
/-- The end of a row without the zeros behind it. -/
def endP (row : List Int) (e : Nat) : Prop := e ≤ row.length ∧ ∀ j, e ≤ j → j < row.length → at_ 0 row (j : Int) = 0
theorem endP_rtx {e : Nat} (h : endP row e) : rtx (row.drop e) = [] := rtx_zero (fun t ht => by
  rw [at_drop]
  exact h.2 _ (by omega) (by simp only [List.length_drop] at ht; omega))
/-- A run within a row that is cut so. -/
theorem run_cut {a e k : Nat} (h : endP row e) (hl : 0 < e → at_ 0 row ((e - 1 : Nat) : Int) ≠ 0) (ha : a < e) (k1 : 1 ≤ k) (hk : k ≤ rN (at_ 0 row (a : Int)) (row.drop a)) (hke : a + k ≤ e) (hx : a + k = e ∨ at_ 0 row ((a + k : Nat) : Int) ≠ at_ 0 row (a : Int)) :
    k = rN (at_ 0 row (a : Int)) (row.drop a) ∧ ¬ (at_ 0 row (a : Int) = 0 ∧ a + k = row.length) := by
  have hlast : a + k = e → at_ 0 row (a : Int) ≠ 0 := fun he h0 => by
    have h1 := rN_at (x := at_ 0 row (a : Int)) (l := row.drop a) (t := k - 1) (by omega)
    rw [at_drop, show a + (k - 1) = e - 1 by omega] at h1
    exact hl (by omega) (h1.trans h0)
  have e1 := run_end (a := a) (e := a + k) (by omega) (by rw [show a + k - a = k by omega]; exact hk) (by have := h.1; omega) (by
    rcases hx with hx | hx
    · rcases Nat.lt_or_ge (a + k) row.length with h2 | h2
      · right
        rw [h.2 (a + k) (by omega) h2]
        exact fun h3 => hlast hx h3.symm
      · left; have := h.1; omega
    · exact .inr hx)
  refine ⟨by omega, fun hh => ?_⟩
  rcases hx with hx | hx
  · exact hlast hx hh.1
  · have := h.1
    have : a + k = e := by omega
    exact hlast this hh.1
end
/-- Texts with another one between them. -/
def joinT (sep : List UInt8) : List (List UInt8) → List UInt8
  | [] => []
  | a :: r => a ++ r.flatMap (sep ++ ·)
theorem joinT_snoc (sep : List UInt8) (x : List UInt8) : ∀ ls : List (List UInt8), ls ≠ [] → joinT sep (ls ++ [x]) = joinT sep ls ++ sep ++ x
  | [], h => absurd rfl h
  | a :: r, _ => by simp [joinT]
end Go.Proofs.YtijmoehbgkibnaaGreatDoor
/- Rules for contracts that are told once. -/
namespace Go.Proofs.YtijmoehbgkibnaaGreatDoor.HL
theorem keq {K : Value → Hp → Prop} {v v' : Value} {H : Hp} (e : v = v') (h : K v' H) : K v H := e ▸ h
theorem Own.cast {α : Type} {enc : α → Value} {H : Hp} {v : Value} {l l' : List α} (e : l = l') (h : Own enc H v l) : Own enc H v l' := e ▸ h
theorem Sl.cast {α : Type} {enc : α → Value} {H : Hp} {v : Value} {l l' : List α} (e : l = l') (h : Sl enc H v l) : Sl enc H v l' := e ▸ h
/-- A slice that reads so, and whose block is known. -/
def Ro {α : Type} (enc : α → Value) (H : Hp) (v : Value) (l : List α) : Prop := Sl enc H v l ∧ ∀ b, bk v = some b → ∃ o, H b = some o
section
variable {α : Type} {enc : α → Value} {H H' : Hp} {u v : Value} {l l' : List α}
theorem Ro.sl (h : Ro enc H v l) : Sl enc H v l := h.1
theorem Ro.known (h : Ro enc H v l) : ∀ b, bk v = some b → ∃ o, H b = some o := h.2
theorem Ro.le (h : Ro enc H v l) (hl : Le H H') : Ro enc H' v l := ⟨h.1.le hl, fun b hb => by obtain ⟨o, ho⟩ := h.2 b hb; exact ⟨o, hl b o ho⟩⟩
theorem Sl.off (h : Sl enc H u l) (ho : Off v H H') (ha : Apart u v) : Sl enc H' u l := by
  obtain ⟨a, c, rfl, hc, hr⟩ := h
  refine ⟨a, c, rfl, hc, fun i hi => ?_⟩
  obtain ⟨ad, rfl, hh⟩ := hr i hi
  refine ⟨ad, rfl, ?_⟩
  have hb : (ad.add i).block = ad.block := by unfold Addr.add; split <;> rfl
  have hne : bk v ≠ some ad.block := ha ad.block (by simp only [bk]; rw [if_neg (by omega)])
  unfold Hp.cell? at hh ⊢
  rw [hb] at hh ⊢
  cases hc' : H ad.block with
  | none => simp [hc'] at hh
  | some o => rw [ho _ _ hc' hne]; rw [hc'] at hh; exact hh
theorem Ro.off (h : Ro enc H u l) (ho : Off v H H') (ha : Apart u v) : Ro enc H' u l := ⟨h.1.off ho ha, fun b hb => by obtain ⟨o, hh⟩ := h.2 b hb; exact ⟨o, ho b o hh (ha b hb)⟩⟩
theorem Ro.apart (h : Ro enc H u l) (hn : Nw H v) : Apart u v := Apart.of_nw h.2 hn
theorem Ro.cast (e : l = l') (h : Ro enc H v l) : Ro enc H v l' := e ▸ h
theorem Ro.len (h : Ro enc H v l) : vLenSl v = some (.int .i64 l.length) := h.1.len
theorem Ro.one (h : Ro enc H v l) : oneCell v = true := h.1.one
theorem Ro.cells (h : Ro enc H v l) : v.cells = #[v] := h.1.cells
theorem Ro.isSl (h : Ro enc H v l) : ∃ a n c, v = .slice a n c := h.1.isSl
theorem Own.ro (h : Own enc H v l) : Ro enc H v l := ⟨h.sl, h.known⟩
end
theorem gop_e {b c g : Bool} {F : (Value → Hp → Prop) → Prop} {H : Hp} {K : Value → Hp → Prop} (e : b = c) (h : gop (.bool c) g F H K) : gop (.bool b) g F H K := by rw [e]; exact h
theorem vPick_et {b : Bool} (e : b = true) (x y : Value) : vPick (.bool b) x y = some x := by rw [e]; rfl
theorem vPick_ef {b : Bool} (e : b = false) (x y : Value) : vPick (.bool b) x y = some y := by rw [e]; rfl
/-- A list, or none where something does not hold. -/
def selL {α : Type} (p : Prop) [Decidable p] (l : List α) : List α := if p then l else []
theorem selL_t {α : Type} {p : Prop} [Decidable p] {l : List α} (h : p) : selL p l = l := if_pos h
theorem selL_f {α : Type} {p : Prop} [Decidable p] {l : List α} (h : ¬ p) : selL p l = [] := if_neg h
end Go.Proofs.YtijmoehbgkibnaaGreatDoor.HL
/- Structs that lie in cells of their own: what is read, what is written. -/
namespace Go.Proofs.YtijmoehbgkibnaaGreatDoor.HL
/-- A pointer to a block of its own, whose cells are these. -/
def Cel (H : Hp) (p : Value) (cs : List Value) : Prop := ∃ r e, p = .pointer (some ⟨r, 0, none⟩) ∧ H r = some (.cells cs.toArray e (0, 0))
/-- The pointer to a field's first cell. -/
def fp (p : Value) (k : Nat) : Value := match p with | .pointer (some a) => .pointer (some (a.add k)) | _ => undef

theorem oc0 : ∀ x ∈ ([] : List Value), oneCell x = true := fun x hx => absurd hx (by simp)
theorem oc1 {a : Value} {l : List Value} (h : oneCell a = true) (t : ∀ x ∈ l, oneCell x = true) : ∀ x ∈ a :: l, oneCell x = true := fun x hx => by
  rcases List.mem_cons.mp hx with rfl | hx
  · exact h
  · exact t x hx
section
variable {H H' : Hp} {p u v : Value} {cs : List Value}
theorem Cel.le (h : Cel H p cs) (hl : Le H H') : Cel H' p cs := by
  obtain ⟨r, e, rfl, hr⟩ := h
  exact ⟨r, e, rfl, hl _ _ hr⟩
theorem Cel.off (h : Cel H p cs) (ho : Off v H H') (ha : Apart p v) : Cel H' p cs := by
  obtain ⟨r, e, rfl, hr⟩ := h
  exact ⟨r, e, rfl, ho _ _ hr (ha r rfl)⟩
theorem Cel.known (h : Cel H p cs) : ∀ b, bk p = some b → ∃ o, H b = some o := by
  obtain ⟨r, e, rfl, hr⟩ := h
  intro b hb
  simp only [bk, Option.some.injEq] at hb
  subst hb
  exact ⟨_, hr⟩
theorem Cel.apart (h : Cel H p cs) (hn : Nw H v) : Apart p v := Apart.of_nw h.known hn
theorem nw_i {cells : Array Value} {e : TypeId} {K : Value → Hp → Prop} (hk : ∀ p H', Cel H' p cells.toList → Nw H p → Le H H' → K p H') : nw cells e H K := by
  intro r hr
  refine hk _ _ ⟨r, e, rfl, by rw [Hp.put_same]⟩ ?_ (Le.put _ hr)
  intro b hb
  simp only [bk, Option.some.injEq] at hb
  subst hb
  exact hr
theorem Cel.fa (h : Cel H p cs) (k : Nat) : vFa k p = some (fp p k) := by
  obtain ⟨r, e, rfl, hr⟩ := h; rfl
theorem Cel.nilC (h : Cel H p cs) : vNilC p = some p := by
  obtain ⟨r, e, rfl, hr⟩ := h; rfl
theorem Cel.ld (h : Cel H p cs) (k : Nat) {x : Value} (hx : cs[k]? = some x) : vLoad (fp p k) H = some x := by
  obtain ⟨r, e, rfl, hr⟩ := h
  simp only [fp, vLoad, add_none, Hp.cell?, hr, Nat.zero_add]
  simpa using hx
theorem Cel.ld0 (h : Cel H p cs) {x : Value} (hx : cs[0]? = some x) : vLoad p H = some x := by
  obtain ⟨r, e, rfl, hr⟩ := h
  simp only [vLoad, Hp.cell?, hr]
  simpa using hx
theorem Cel.ldn (h : Cel H p cs) {n : Nat} (hn : cs.length = n) : vLoadN n p H = some (.agg cs.toArray) := by
  obtain ⟨r, e, rfl, hr⟩ := h
  simp only [vLoadN]
  rw [rd_cells (enc := id) ⟨r, 0, none⟩ n 0 cs hn (fun i hi => by
    simp only [add_none, Hp.cell?, hr, Nat.zero_add]
    simp [hi])]
  simp
theorem Cel.st (h : Cel H p cs) {k : Nat} {x : Value} {K : Hp → Prop} (hk : k < cs.length) (ho : oneCell x = true) (hz : x.cells = #[x]) (hK : ∀ H', Cel H' p (cs.set k x) → Off p H H' → K H') : st 1 (fp p k) x H K := by
  obtain ⟨r, e, rfl, hr⟩ := h
  simp only [HL.st, fp, add_none, Nat.zero_add, hz, List.toList_toArray, List.size_toArray, List.length_singleton, true_and, stC, Nat.add_zero]
  refine ⟨ho, ?_, ?_, ?_⟩
  · simp only [Hp.cell?, hr]; simp [hk]
  · simp only [Hp.frozen?, hr]; simp
  · refine hK _ ⟨r, e, rfl, ?_⟩ ?_
    · simp only [Hp.setCell, hr, Hp.put_same]; simp
    · intro b o hb hv
      simp only [bk, ne_eq, Option.some.injEq] at hv
      simp only [Hp.setCell, hr]
      rw [Hp.put_ne _ _ (Ne.symm hv)]
      exact hb
theorem Cel.st0 (h : Cel H p cs) {x : Value} {K : Hp → Prop} (hk : 0 < cs.length) (ho : oneCell x = true) (hz : x.cells = #[x]) (hK : ∀ H', Cel H' p (cs.set 0 x) → Off p H H' → K H') : HL.st 1 p x H K := by
  have : p = fp p 0 := by obtain ⟨r, e, rfl, hr⟩ := h; simp [fp, add_none]
  have h2 := h.st (K := K) hk ho hz hK
  rwa [← this] at h2
theorem Cel.stn (h : Cel H p cs) {ws : List Value} {n : Nat} {K : Hp → Prop} (hn : ws.length = n) (hl : cs.length = n) (ho : ∀ x ∈ ws, oneCell x = true) (hK : ∀ H', Cel H' p ws → Off p H H' → K H') : HL.st n p (.agg ws.toArray) H K := by
  obtain ⟨r, e, rfl, hr⟩ := h
  simp only [HL.st, Value.cells, List.size_toArray, hn, true_and]
  refine stC_run (b := r) (e := e) ws _ 0 cs.toArray H rfl rfl hr (by simp; omega) ho ?_
  intro H' cs' h1 h2 h3 h4 h5
  refine hK H' ⟨r, e, rfl, ?_⟩ ?_
  · rw [h1]
    have : cs' = ws.toArray := by
      apply Array.ext_getElem?
      intro i
      by_cases hi : i < ws.length
      · have := h4 i hi
        simp only [Nat.zero_add] at this
        rw [this]; simp [hi]
      · rw [Array.getElem?_eq_none (by rw [h2]; simp; omega), Array.getElem?_eq_none (by simp; omega)]
    rw [this]
  · intro b o hb hv
    simp only [bk, ne_eq, Option.some.injEq] at hv
    rw [h5 b (Ne.symm hv)]; exact hb
end
end Go.Proofs.YtijmoehbgkibnaaGreatDoor.HL
/- Lists of truths: copies, and what is alike; lengths that are paid for. -/
namespace Go.Proofs.YtijmoehbgkibnaaGreatDoor
open HL
set_option maxRecDepth 100000
end Go.Proofs.YtijmoehbgkibnaaGreatDoor
/- Rules for the walks that a program writes. -/
namespace Go.Proofs.YtijmoehbgkibnaaGreatDoor.HL
theorem ob_nd {p : Prop} [Decidable p] {K : Value → Prop} (h1 : p → K (.bool false)) (h2 : ¬ p → K (.bool true)) : ob (vUn .not (.bool (decide p))) K := by
  rw [vUn_not, ob_some]
  by_cases c : p
  · rw [decide_eq_true c]; exact h1 c
  · rw [decide_eq_false c]; exact h2 c
theorem vMx_max (k : IntKind) (a b : Int) : vMx true (.int k a) [.int k b] = some (.int k (max a b)) := by
  simp only [vMx]; congr 2; split <;> omega
theorem vMx_min (k : IntKind) (a b : Int) : vMx false (.int k a) [.int k b] = some (.int k (min a b)) := by
  simp only [vMx]; congr 2; split <;> omega
theorem vInt_quoN {a b : Int} (ha : 0 ≤ a) (ha' : a < 9223372036854775808) (hb : 0 < b) : vInt .quo (.int .i64 a) (.int .i64 b) = some (.int .i64 (a / b)) := by
  rw [vInt_quo hb (by omega) ha', Int.tdiv_eq_ediv_of_nonneg ha]
theorem vInt_remN {a b : Int} (ha : 0 ≤ a) (hb : 0 < b) : vInt .rem (.int .i64 a) (.int .i64 b) = some (.int .i64 (a % b)) := by
  rw [vInt_rem (by omega), Int.tmod_eq_emod_of_nonneg ha]
theorem Apart.ap2 {H : Hp} {x u u' : Value} (hx : ∀ b, bk x = some b → ∃ o, H b = some o) (ha : Apart x u) (hb : ∀ b, bk u' = some b → bk u = some b ∨ H b = none) : Apart x u' := fun b h1 h2 => by
  rcases hb b h2 with h | h
  · exact ha b h1 h
  · obtain ⟨o, ho⟩ := hx b h1; rw [h] at ho; simp at ho
theorem Nw.ap2 {H0 H : Hp} {u u' : Value} (hn : Nw H0 u) (hl : Le H0 H) (hb : ∀ b, bk u' = some b → bk u = some b ∨ H b = none) : Nw H0 u' := fun b h => by
  rcases hb b h with h1 | h1
  · exact hn b h1
  · cases ho : H0 b with
    | none => rfl
    | some o => rw [hl b o ho] at h1; simp at h1
theorem apd_any {α : Type} {enc : α → Value} {z : Value} {b : Nat} {e : TypeId} {u t : Value} {l m : List α} {H : Hp} {K : Value → Hp → Prop} (o : Own enc H u l) (ot : Sl enc H t m) (ho : ∀ x, oneCell (enc x) = true) (hb : b ≤ 64) (hl : l.length + m.length ≤ 68719476736)
    (hk : ∀ u' H', Own enc H' u' (l ++ m) → Off u H H' → (∀ b, bk u' = some b → bk u = some b ∨ H b = none) → K u' H') : apd 1 b #[z] e u t H K := by
  refine o.apd ot ho (by omega) (fun c hc => ?_) hk
  have := nsc_le hc
  exact Nat.le_trans (Nat.mul_le_mul this hb) (by omega)
end Go.Proofs.YtijmoehbgkibnaaGreatDoor.HL
/- Parts of slices; slices that are put together. -/
namespace Go.Proofs.YtijmoehbgkibnaaGreatDoor
open HL
set_option maxRecDepth 100000
namespace HL
theorem Sl.cut {α : Type} {enc : α → Value} {H : Hp} {v : Value} {l : List α} (h : Sl enc H v l) {lo hi : Int} (h0 : 0 ≤ lo) (h1 : lo ≤ hi) (h2 : hi ≤ l.length) :
    ∃ x, vSl3 1 v (some (.int .i64 lo)) (some (.int .i64 hi)) none = some x ∧ (hi = l.length → vSl3 1 v (some (.int .i64 lo)) none none = some x) ∧ (lo = 0 → vSl3 1 v none (some (.int .i64 hi)) none = some x) ∧ (lo = 0 → hi = l.length → vSl3 1 v none none none = some x) ∧
      Sl enc H x ((l.drop lo.toNat).take (hi.toNat - lo.toNat)) ∧ (∀ b, bk x = some b → bk v = some b) := by
  obtain ⟨a, c, rfl, hc, hr⟩ := h
  have e1 : bnd (some (.int .i64 hi)) c l.length = some hi.toNat := by simp only [bnd]; rw [if_pos ⟨by omega, by omega⟩]
  have e2 : bnd (some (.int .i64 lo)) hi.toNat 0 = some lo.toNat := by simp only [bnd]; rw [if_pos ⟨by omega, by omega⟩]
  have e3 : bnd none c l.length = some l.length := rfl
  refine ⟨.slice (if c = lo.toNat then a else a.map (·.add (lo.toNat * 1))) (hi.toNat - lo.toNat) (c - lo.toNat), ?_, ?_, ?_, ?_, ?_, ?_⟩
  · simp only [vSl3, vSl, e1, e2]
  · intro e
    subst e
    have e2' : bnd (some (.int .i64 lo)) l.length 0 = some lo.toNat := by simpa using e2
    simp only [vSl3, vSl, e3, e2', Int.toNat_natCast]
  · intro e
    subst e
    simp only [vSl3, vSl, e1]; rfl
  · intro e e'
    subst e e'
    simp only [vSl3, vSl, e3, Int.toNat_natCast]; rfl
  · have hl : ((l.drop lo.toNat).take (hi.toNat - lo.toNat)).length = hi.toNat - lo.toNat := by simp; omega
    refine ⟨_, _, by rw [hl], by rw [hl]; omega, fun i hi' => ?_⟩
    rw [hl] at hi'
    obtain ⟨ad, rfl, hh⟩ := hr (lo.toNat + i) (by omega)
    rw [if_neg (by omega)]
    refine ⟨ad.add (lo.toNat * 1), rfl, ?_⟩
    have e4 : (ad.add (lo.toNat * 1)).add i = ad.add (lo.toNat + i) := by
      rw [Nat.mul_one]
      unfold Addr.add
      by_cases hx : lo.toNat = 0
      · rw [if_pos hx, hx, Nat.zero_add]
      · by_cases hy : i = 0
        · subst hy; simp
        · rw [if_neg hx, if_neg hy, if_neg (by omega)]; simp [Nat.add_assoc]
    rw [e4, hh]
    simp
  · intro b hb
    by_cases hcl : c = lo.toNat
    · rw [if_pos hcl] at hb
      cases a with
      | none => simp [bk] at hb
      | some ad => simp only [bk] at hb; rw [if_pos (by omega)] at hb; simp at hb
    · rw [if_neg hcl] at hb
      cases a with
      | none => simp [bk] at hb
      | some ad =>
        have hbl : ∀ k, (ad.add k).block = ad.block := fun k => by unfold Addr.add; split <;> rfl
        simp only [Option.map_some, bk] at hb ⊢
        split at hb
        · simp at hb
        · rw [if_neg (by omega)]; rw [hbl] at hb; exact hb
end HL
end Go.Proofs.YtijmoehbgkibnaaGreatDoor
/- Ranges over functions: a rule by an invariant; slices.Chunk. -/
namespace Go.Proofs.YtijmoehbgkibnaaGreatDoor
open HL
set_option maxRecDepth 100000
namespace HL
/-- A range over an iterator that gives N times something: what holds ahead of each round. -/
theorem rgE_i {fv : Value} {ps : List Nat} {body : (Exit → S → Hp → Prop) → S → Hp → Prop} {Q : Exit → S → Hp → Prop} {σ : S} {H : Hp} (N : Nat) (arg : Nat → List Value) (I : Nat → Hp → Prop) (hfv : match fv with | .func (.func _) _ _ => True | _ => False) (hps : ∀ t, (arg t).length = ps.length) (h0 : I 0 H)
    (hb : ∀ t A σ' (Q' : Exit → S → Hp → Prop), t < N → σ' = ups σ ps (arg t) → (∀ σ'' B, I (t + 1) B → Q' .normal σ'' B) → (∀ σ'' B, Q .ret σ B → Q' .ret σ'' B) → (∀ id σ'' B, Q (.exit id) σ B → Q' (.exit id) σ'' B) → I t A → body Q' σ' A)
    (hend : ∀ A, I N A → Q .normal σ A)
    (hcall : ∀ (yv : Value) (J : Nat → Hp → Prop) (St : Hp → Prop) (H1 : Hp) (K : Value → Hp → Prop), (∀ t A, J t A → ∃ A' b o, A = A'.put b o ∧ A' b = none ∧ I t A') → J 0 H1 →
      (∀ t A (Z : Value → Hp → Prop), t < N → J t A → (∀ B, J (t + 1) B → Z (.bool true) B) → (∀ B, St B → Z (.bool false) B) → callV prg yv (arg t) A Z) → (∀ A, J N A → K (.tuple #[]) A) → (∀ A, St A → K (.tuple #[]) A) → callV prg fv [yv] H1 K) :
    rgE prg fv ps body Q σ H := by
  refine ⟨hfv, fun l X hl hy => ?_⟩
  refine hcall _ (fun t A => ∃ A', A = A'.put l (X none) ∧ A' l = none ∧ I t A') (fun A => ∃ A' j, A = A'.put l (X j) ∧ A' l = none ∧ jmpQ Q σ A' j) _ _ ?_ ⟨H, rfl, hl, h0⟩ ?_ ?_ ?_
  · rintro t A ⟨A', rfl, hn, hI⟩
    exact ⟨A', l, X none, rfl, hn, hI⟩
  · rintro t A Z ht ⟨A', rfl, hn, hI⟩ hT hF
    refine hy (arg t) A' Z (hps t) hn (hb t A' _ _ ht rfl (fun σ'' B hB hBl => ?_) (fun σ'' B hB hBl => ?_) (fun id σ'' B hB hBl => ?_) hI)
    · exact hT _ ⟨B, rfl, hBl, hB⟩
    · exact hF _ ⟨B, some .ret, rfl, hBl, hB⟩
    · exact hF _ ⟨B, some (.exit id), rfl, hBl, hB⟩
  · rintro A ⟨A', rfl, hn, hI⟩
    exact ⟨A', none, rfl, hn, hend A' hI⟩
  · rintro A ⟨A', j, rfl, hn, hj⟩
    exact ⟨A', j, rfl, hn, hj⟩
/-- A piece of a slice, with no room behind it. -/
def chV (v : Value) (lo c : Nat) : Value := (vSl3 1 v (some (.int .i64 (lo : Int))) (some (.int .i64 ((lo : Int) + (c : Int)))) (some (.int .i64 ((lo : Int) + (c : Int))))).getD undef
theorem chV_sl {α : Type} {enc : α → Value} {H : Hp} {v : Value} {l : List α} (h : Sl enc H v l) {lo c : Nat} (h1 : lo + c ≤ l.length) :
    vSl3 1 v (some (.int .i64 (lo : Int))) (some (.int .i64 ((lo : Int) + (c : Int)))) (some (.int .i64 ((lo : Int) + (c : Int)))) = some (chV v lo c) ∧ Sl enc H (chV v lo c) ((l.drop lo).take c) := by
  obtain ⟨a, k, rfl, hc, hr⟩ := h
  have e0 : bnd (some (.int .i64 ((lo : Int) + (c : Int)))) k k = some (lo + c) := by simp only [bnd]; rw [if_pos ⟨by omega, by omega⟩]; congr 1
  have e1 : bnd (some (.int .i64 ((lo : Int) + (c : Int)))) (lo + c) (lo + c) = some (lo + c) := by simp only [bnd]; rw [if_pos ⟨by omega, by omega⟩]; congr 1
  have e2 : bnd (some (.int .i64 (lo : Int))) (lo + c) 0 = some lo := by simp only [bnd]; rw [if_pos ⟨by omega, by omega⟩]; simp
  have e : vSl3 1 (.slice a l.length k) (some (.int .i64 (lo : Int))) (some (.int .i64 ((lo : Int) + (c : Int)))) (some (.int .i64 ((lo : Int) + (c : Int)))) = some (.slice (if lo + c = lo then a else a.map (·.add (lo * 1))) (lo + c - lo) (lo + c - lo)) := by
    simp only [vSl3, e0, e1, e2]
  refine ⟨by unfold chV; rw [e]; rfl, ?_⟩
  unfold chV
  rw [e]
  show Sl enc H (.slice _ _ _) _
  have hl : ((l.drop lo).take c).length = c := by simp; omega
  refine ⟨_, _, by rw [hl]; congr 1; omega, by rw [hl]; omega, fun i hi' => ?_⟩
  rw [hl] at hi'
  obtain ⟨ad, rfl, hh⟩ := hr (lo + i) (by omega)
  rw [if_neg (by omega)]
  refine ⟨ad.add (lo * 1), rfl, ?_⟩
  have e4 : (ad.add (lo * 1)).add i = ad.add (lo + i) := by
    rw [Nat.mul_one]
    unfold Addr.add
    by_cases hx : lo = 0
    · rw [if_pos hx, hx, Nat.zero_add]
    · by_cases hy : i = 0
      · subst hy; simp
      · rw [if_neg hx, if_neg hy, if_neg (by omega)]; simp [Nat.add_assoc]
  rw [e4, hh]
  simp
end HL
/-- A row of a list. -/
def rowL (c : Nat) (l : List Int) (i : Nat) : List Int := (l.drop (i * c)).take c
theorem rowL_len {c r : Nat} {l : List Int} (hl : l.length = r * c) {i : Nat} (hi : i < r) : (rowL c l i).length = c := by
  unfold rowL
  have := Nat.mul_le_mul_right c (show i + 1 ≤ r by omega)
  rw [Nat.add_mul, Nat.one_mul] at this
  simp; omega
theorem C.slices_Chunk {vc : Value} {l : List Int} {n : Int} {H : Hp} {K : Value → Hp → Prop} (hv : Sl eI H vc l) (hn : 1 ≤ n)
    (hk : ∀ ps pn H', Cel H' ps [vc] → Cel H' pn [.int .i64 n] → Nw H ps → Nw H pn → Apart ps pn → Le H H' → K (.func (.func I.slices_Chunk_int64Zint64Z1) #[] #[ps, pn]) H') :
    HT prg I.slices_Chunk_int64Zint64 [vc, .int .i64 n].toArray H K := by
 refine R.slices_Chunk_int64Zint64 ?_
 unfold F.slices_Chunk_int64Zint64
 rw [hv.cells]
 refine nw_i (fun ps H2 ops nps le2 => ?_)
 refine nw_i (fun pn H4 opn npn le4 => ?_)
 refine ob_i (opn.ld0 rfl) ?_
 refine ob_i (vInt_lss _ _ _) ?_
 rw [decide_eq_false (show ¬ n < 1 by omega)]
 refine cnd_f1 ?_
 exact hk ps pn H4 (ops.le le4) opn nps (npn.le le2) (ops.apart npn) (le2.trans le4)
theorem C.slices_ChunkZ1 {yv ps pn vc : Value} {l : List Int} {c r : Nat} {H0 H : Hp} {K : Value → Hp → Prop} {J : Nat → Hp → Prop} {St : Hp → Prop} (hv : Sl eI H0 vc l) (hl : l.length = r * c) (c1 : 1 ≤ c) (c2 : c ≤ 1000000) (l2 : l.length ≤ 1000000)
    (hb : ∀ t A, J t A → Cel A ps [vc] ∧ Cel A pn [.int .i64 (c : Int)]) (h0 : J 0 H)
    (hst : ∀ t A (Z : Value → Hp → Prop), t < r → J t A → (∀ B, J (t + 1) B → Z (.bool true) B) → (∀ B, St B → Z (.bool false) B) → callV prg yv [chV vc (t * c) c] A Z)
    (hk : ∀ A, J r A → K (.tuple #[]) A) (hs : ∀ A, St A → K (.tuple #[]) A) :
    HT prg I.slices_Chunk_int64Zint64Z1 [yv, ps, pn].toArray H K := by
 refine R.slices_Chunk_int64Zint64Z1 ?_
 unfold F.slices_Chunk_int64Zint64Z1
 refine ⟨fun n σ H' => ∃ t : Nat, n = r - t ∧ t ≤ r ∧ σ 0 = yv ∧ σ 1 = ps ∧ σ 2 = pn ∧ σ 4 = .int .i64 ((t * c : Nat) : Int) ∧ J t H', ⟨_, 0, rfl, by omega, rfl, rfl, rfl, congrArg (Value.int .i64) (by simp), h0⟩, ?_⟩
 rintro n σ H1 ⟨t, rfl, ht, g0, g1, g2, g4, hJ⟩
 simp only [g0, g1, g2, g4]
 obtain ⟨ops, opn⟩ := hb t H1 hJ
 refine ob_i (ops.ld0 rfl) ?_
 refine ob_i hv.len ?_
 refine ob_i (vInt_lss _ _ _) ?_
 refine cnd_d (fun hlt => ?_) (fun hge => ?_)
 ·have htr : t < r := Nat.lt_of_not_le fun hh => by
   have := Nat.mul_le_mul_right c hh
   omega
  have hm := Nat.mul_le_mul_right c (show t + 1 ≤ r by omega)
  rw [Nat.add_mul, Nat.one_mul] at hm
  refine ob_i (opn.ld0 rfl) ?_
  refine ob_i (ops.ld0 rfl) ?_
  obtain ⟨x, _, hx2, _, _, hx5, _⟩ := hv.cut (lo := ((t * c : Nat) : Int)) (hi := (l.length : Int)) (by omega) (by omega) (by omega)
  refine ob_i (hx2 rfl) ?_
  refine ob_i hx5.len ?_
  have hmin : vMx false (.int .i64 (c : Int)) [.int .i64 (((l.drop ((t * c : Nat) : Int).toNat).take ((l.length : Int).toNat - ((t * c : Nat) : Int).toNat)).length : Int)] = some (.int .i64 (c : Int)) := by
   simp only [vMx]
   rw [if_neg]
   rw [List.length_take, List.length_drop, Int.toNat_natCast, Int.toNat_natCast]
   omega
  refine ob_i hmin ?_
  refine ob_i (ops.ld0 rfl) ?_
  refine ob_i (vInt_add (by omega) (by omega)) ?_
  refine ob_i (vInt_add (by omega) (by omega)) ?_
  refine ob_i (chV_sl hv (lo := t * c) (c := c) (by omega)).1 ?_
  refine hst t H1 _ htr hJ (fun B hB => ?_) (fun B hB => ?_)
  ·refine ob_i (a := .bool false) rfl ?_
   refine cnd_f1 ?_
   obtain ⟨ops, opn⟩ := hb _ B hB
   refine ob_i (opn.ld0 rfl) ?_
   refine ob_i (vInt_add (by omega) (by omega)) ?_
   exact nxt (r - (t + 1)) (by omega) ⟨t + 1, rfl, by omega, g0, g1, g2, congrArg (Value.int .i64) (by rw [Nat.add_mul, Nat.one_mul]; omega), hB⟩
  ·refine ob_i (a := .bool true) rfl ?_
   refine cnd_t1 ?_
   exact hs B hB
 ·obtain rfl : t = r := by
   have := Nat.le_antisymm ht (Nat.le_of_not_lt fun hh => by
    have hm := Nat.mul_le_mul_right c (show t + 1 ≤ r by omega)
    rw [Nat.add_mul, Nat.one_mul] at hm
    omega)
   exact this
  exact hk _ hJ
end Go.Proofs.YtijmoehbgkibnaaGreatDoor
/- Maps by texts. -/
namespace Go.Proofs.YtijmoehbgkibnaaGreatDoor.HL
set_option maxRecDepth 100000
def keyIs (k : ByteArray) (v : Value) : Bool := match v with | .string s => k == s | _ => false
/-- What a map has at a text: where, and what. -/
def findS (k : ByteArray) : List MapEntry → Nat → Option (Nat × Value)
  | [], _ => none
  | e :: es, i => bif keyIs k e.key then some (i, e.val) else findS k es (i + 1)
def keysS (es : List MapEntry) : Prop := ∀ e ∈ es, ∃ s, e.key = .string s
theorem findNow_s (k : ByteArray) : ∀ (es : List MapEntry) (i : Nat), keysS es → Instr.findNow .string (.string k) es i = some (findS k es i)
  | [], i, _ => rfl
  | e :: es, i, h => by
    obtain ⟨s, hs⟩ := h e (by simp)
    have ih := findNow_s k es (i + 1) (fun x hx => h x (by simp [hx]))
    unfold Instr.findNow findS
    rw [hs]
    simp only [Instr.sameNow, keyIs]
    cases e1 : (k == s) with
    | true => rfl
    | false => exact ih
theorem val_checkKey (P : Program) (b : Bool) (n : Nat) (t : TypeId) (k : ByteArray) (H : Hp) (ht : P.underlying t = some .string) : val P (Instr.checkKey b (n + 1) t (.string k)) H = some () := by
  unfold Instr.checkKey
  rw [val_bind', val_underlying, ht]
  rfl
theorem val_findKey (P : Program) (t : TypeId) (k : ByteArray) (es : List MapEntry) (H : Hp) (ht : P.underlying t = some .string) (hk : keysS es) : val P (Instr.findKey t (.string k) es) H = some (findS k es 0) := by
  unfold Instr.findKey
  rw [val_bind', val_underlying, ht]
  simp only [Option.bind_some]
  rw [findNow_s k es 0 hk]
  rfl
/-- A new entry. -/
theorem hp_mapUpdate_new {P : Program} {t kt et : TypeId} {r c : Nat} {es : Array MapEntry} {k : ByteArray} {x : Value} {H : Hp} {K : Unit → Hp → Prop} (ht : P.underlying t = some (.map kt et)) (hk : P.underlying kt = some .string)
    (hr : H r = some (.map es c)) (hs : keysS es.toList) (hn : findS k es.toList 0 = none) (h : K () (H.put r (.map (es.push { key := .string k, val := x, born := c }) (c + 1)))) : hp P (Instr.mapUpdate t (.map (some r)) (.string k) x) H K := by
  unfold Instr.mapUpdate
  have e1 : val P (getObj r) H = some (.map es c) := by
    show val P (Sem.getObj r Sem.pure) H = _
    simp only [val, hr]
  refine hp_val_bind P _ _ H K _ (by rw [val_underlying, ht]) ?_
  refine hp_val_bind P _ _ H K _ e1 ?_
  refine hp_val_bind P _ _ H K _ (val_checkKey P _ 9999 kt k H hk) ?_
  refine hp_val_bind P _ _ H K _ (val_findKey P kt k es.toList H hk hs) ?_
  rw [hn]
  show hp P (Sem.setObj r _ (Sem.pure ())) H K
  simp only [hp, hr]
  exact h
end Go.Proofs.YtijmoehbgkibnaaGreatDoor.HL
