/- Several texts in one. -/
import Derived.Test.YthocjpfibegjcaaGreatDoorHI
import Derived.Laws.Strings
import Derived.Test.YthocjpfibegjcaaGreatDoorGA
/- Slices over a partial heap: what is read, what is owned, and what stays when something else is written. -/
namespace Go.Proofs.YthocjpfibegjcaaGreatDoor.HL

abbrev eI : Int → Value := .int .i64
abbrev eB : Bool → Value := .bool
abbrev eF : Nat → Value := .float .f32

/-- The pointer to a slice's cell, where its elements have one cell each. -/
def ptr (v : Value) (i : Int) : Value := match v with | .slice (some a) _ _ => .pointer (some (a.add (i.toNat * 1))) | _ => undef
/-- The block that a slice or a pointer may write. -/
def bk (v : Value) : Option Nat := match v with | .slice (some a) _ c => if c = 0 then none else some a.block | .pointer (some a) => some a.block | _ => none
/-- The element at an index. -/
def at_ {α : Type} (d : α) (l : List α) (i : Int) : α := l.getD i.toNat d

/-- A slice that reads so. -/
def Sl {α : Type} (enc : α → Value) (H : Hp) (v : Value) (l : List α) : Prop :=
  ∃ a c, v = .slice a l.length c ∧ l.length ≤ c ∧ ∀ i (h : i < l.length), ∃ ad, a = some ad ∧ H.cell? (ad.add i) = some (enc l[i])
/-- A slice whose block is known whole, and may be written. -/
def Own {α : Type} (enc : α → Value) (H : Hp) (v : Value) (l : List α) : Prop :=
  ∃ a c, v = .slice a l.length c ∧ l.length ≤ c ∧ (0 < c → ∃ b off cs e, a = some ⟨b, off, none⟩ ∧ H b = some (.cells cs e (0, 0)) ∧ off + c ≤ cs.size ∧ ∀ i (h : i < l.length), cs[off + i]? = some (enc l[i]))
/-- A slice whose block is not known in a heap. -/
def Nw (H : Hp) (v : Value) : Prop := ∀ b, bk v = some b → H b = none
def Apart (u v : Value) : Prop := ∀ b, bk u = some b → bk v ≠ some b
/-- All that is known stays, but for a slice's block. -/
def Off (v : Value) (H H' : Hp) : Prop := ∀ b o, H b = some o → bk v ≠ some b → H' b = some o

theorem add_none (b off i : Nat) : (⟨b, off, none⟩ : Addr).add i = ⟨b, off + i, none⟩ := by
  unfold Addr.add
  split
  · rename_i h; subst h; rfl
  · rfl
theorem Apart.symm {u v : Value} (h : Apart u v) : Apart v u := fun b hb hu => h b hu hb
theorem Nw.le {H H' : Hp} {v : Value} (h : Nw H' v) (hl : Le H H') : Nw H v := fun b hb => by
  cases ho : H b with
  | none => rfl
  | some o => have := hl b o ho; rw [h b hb] at this; exact absurd this (by simp)
theorem Off.le {H0 H H' : Hp} {v : Value} (h : Off v H H') (hl : Le H0 H) (hn : Nw H0 v) : Le H0 H' := fun b o hb =>
  h b o (hl b o hb) (fun e => by rw [hn b e] at hb; exact absurd hb (by simp))
theorem Off.of_le {H H' : Hp} {v : Value} (h : Le H H') : Off v H H' := fun b o hb _ => h b o hb
theorem Off.trans {A B C : Hp} {v : Value} (h : Off v A B) (h' : Off v B C) : Off v A C := fun b o hb hv => h' b o (h b o hb hv) hv

section
variable {α : Type} {enc : α → Value} {H H' : Hp} {u v : Value} {l : List α}

theorem Sl.le (h : Sl enc H v l) (hl : Le H H') : Sl enc H' v l := by
  obtain ⟨a, c, rfl, hc, hr⟩ := h
  exact ⟨a, c, rfl, hc, fun i hi => by obtain ⟨ad, e, hh⟩ := hr i hi; exact ⟨ad, e, hl.cell hh⟩⟩
theorem Sl.len (h : Sl enc H v l) : vLenSl v = some (.int .i64 l.length) := by
  obtain ⟨a, c, rfl, hc, hr⟩ := h; rfl
theorem Sl.ix (h : Sl enc H v l) {k : IntKind} {i : Int} (h0 : 0 ≤ i) (h1 : i < l.length) : vIx 1 v (.int k i) = some (ptr v i) := by
  obtain ⟨a, c, rfl, hc, hr⟩ := h
  obtain ⟨ad, rfl, hh⟩ := hr i.toNat (by omega)
  simp only [vIx, ptr]
  rw [if_pos ⟨h0, by simpa using h1⟩]
theorem Sl.ld (h : Sl enc H v l) (d : α) {i : Int} (h0 : 0 ≤ i) (h1 : i < l.length) : vLoad (ptr v i) H = some (enc (at_ d l i)) := by
  obtain ⟨a, c, rfl, hc, hr⟩ := h
  have hi : i.toNat < l.length := by omega
  obtain ⟨ad, rfl, hh⟩ := hr i.toNat hi
  simp only [vLoad, ptr, Nat.mul_one, hh, at_, List.getD_eq_getElem?_getD, List.getElem?_eq_getElem hi, Option.getD_some]
theorem Sl.nil (c : Nat) (a : Option Addr) : Sl enc H (.slice a 0 c) [] := ⟨a, c, rfl, by simp, fun i hi => absurd hi (by simp)⟩

theorem Own.len (h : Own enc H v l) : vLenSl v = some (.int .i64 l.length) := by
  obtain ⟨a, c, rfl, hc, hr⟩ := h; rfl
theorem Own.sl (h : Own enc H v l) : Sl enc H v l := by
  obtain ⟨a, c, rfl, hc, hr⟩ := h
  refine ⟨a, c, rfl, hc, fun i hi => ?_⟩
  obtain ⟨b, off, cs, e, rfl, hb, hs, hcs⟩ := hr (by omega)
  exact ⟨_, rfl, by simp only [Hp.cell?, add_none, hb, hcs i hi]; rfl⟩
theorem Own.off (h : Own enc H u l) (ho : Off v H H') (ha : Apart u v) : Own enc H' u l := by
  obtain ⟨a, c, rfl, hc, hr⟩ := h
  refine ⟨a, c, rfl, hc, fun h0 => ?_⟩
  obtain ⟨b, off, cs, e, rfl, hb, hs, hcs⟩ := hr h0
  refine ⟨b, off, cs, e, rfl, ho b _ hb (ha b ?_), hs, hcs⟩
  simp only [bk]
  rw [if_neg (by omega)]
theorem Own.le (h : Own enc H u l) (hl : Le H H') : Own enc H' u l := by
  obtain ⟨a, c, rfl, hc, hr⟩ := h
  refine ⟨a, c, rfl, hc, fun h0 => ?_⟩
  obtain ⟨b, off, cs, e, rfl, hb, hs, hcs⟩ := hr h0
  exact ⟨b, off, cs, e, rfl, hl b _ hb, hs, hcs⟩
theorem Own.known (h : Own enc H u l) : ∀ b, bk u = some b → ∃ o, H b = some o := by
  obtain ⟨a, c, rfl, hc, hr⟩ := h
  intro b hb
  cases a with
  | none => simp [bk] at hb
  | some ad =>
    simp only [bk] at hb
    by_cases h0 : c = 0
    · rw [if_pos h0] at hb; simp at hb
    · rw [if_neg h0] at hb
      obtain ⟨b', off, cs, e, he, hbb, _⟩ := hr (by omega)
      simp only [Option.some.injEq] at hb he
      subst he
      simp only at hb
      subst hb
      exact ⟨_, hbb⟩
theorem Own.apart (h : Own enc H u l) (hn : Nw H v) : Apart u v := fun b hb hv => by
  obtain ⟨o, ho⟩ := h.known b hb
  rw [hn b hv] at ho
  exact absurd ho (by simp)
theorem Apart.of_nw {H : Hp} {u v : Value} (hu : ∀ b, bk u = some b → ∃ o, H b = some o) (hn : Nw H v) : Apart u v := fun b hb hv => by
  obtain ⟨o, ho⟩ := hu b hb
  rw [hn b hv] at ho
  exact absurd ho (by simp)
theorem Own.nil_of (a : Option Addr) : Own enc H (.slice a 0 0) [] := ⟨a, 0, rfl, by simp, fun h0 => absurd h0 (by simp)⟩

/-- A write of one cell. -/
theorem Own.st (h : Own enc H v l) {x : α} {K : Hp → Prop} {i : Int} (h0 : 0 ≤ i) (h1 : i < l.length) (hx : oneCell (enc x) = true) (hz : (enc x).cells = #[enc x])
    (hk : ∀ H', Own enc H' v (l.set i.toNat x) → Off v H H' → K H') : st 1 (ptr v i) (enc x) H K := by
  obtain ⟨a, c, rfl, hc, hr⟩ := h
  obtain ⟨b, off, cs, e, rfl, hb, hs, hcs⟩ := hr (by omega)
  have hi : i.toNat < l.length := by omega
  simp only [HL.st, ptr, hz, List.toList_toArray, Nat.mul_one, List.size_toArray, List.length_singleton, true_and, stC]
  refine ⟨hx, ?_, ?_, ?_⟩
  · simp only [Hp.cell?, add_none, hb, hcs _ hi, Nat.add_zero]; rfl
  · simp only [Hp.frozen?, add_none, hb]; simp
  · refine hk _ ⟨_, c, by simp, by simpa using hc, fun _ => ⟨b, off, cs.setIfInBounds (off + i.toNat) (enc x), e, rfl, ?_, by simpa using hs, ?_⟩⟩ ?_
    · simp only [Hp.setCell, add_none, hb, Nat.add_zero, Hp.put_same]; rfl
    · intro j hj
      have hj' : j < l.length := by simpa using hj
      rw [Array.getElem?_setIfInBounds]
      by_cases e1 : off + i.toNat = off + j
      · have : i.toNat = j := by omega
        subst this
        rw [if_pos rfl, if_pos (by omega)]; simp
      · have : i.toNat ≠ j := by omega
        rw [if_neg e1, hcs j hj', List.getElem_set_ne this]
    · intro x' o ho hv
      simp only [bk, if_neg (by omega : ¬ c = 0)] at hv
      simp only [Hp.setCell, add_none, hb]
      rw [Hp.put_ne _ _ (by rintro rfl; exact hv rfl)]
      exact ho

theorem zrow_get (z : Value) (n i : Nat) (h : i < n) : (zrow #[z] n)[i]? = some z := by
  simp only [zrow, List.size_toArray, List.length_singleton, Nat.mod_one]
  simp [h]
theorem zrow_size (zs : Array Value) (n : Nat) : (zrow zs n).size = n := by simp [zrow]

/-- A new row. -/
theorem Own.mk_ {bytes : Nat} {z : α} {e : TypeId} {k k' : IntKind} {n c : Int} {K : Value → Hp → Prop} (h0 : 0 ≤ n) (h1 : n ≤ c) (h2 : c ≤ 281474976710656) (h3 : bytes * c ≤ 281474976710656)
    (hk : ∀ v H', Own enc H' v (List.replicate n.toNat z) → Nw H v → Le H H' → K v H') : mkS 1 bytes #[enc z] e (.int k n) (.int k' c) H K := by
  refine ⟨h0, h1, h2, h3, fun r hr => hk _ _ ⟨some ⟨r, 0, none⟩, c.toNat, by simp, by simp; omega, fun h4 => ⟨r, 0, _, e, rfl, Hp.put_same _ _ _, ?_, ?_⟩⟩ ?_ (Le.put _ hr)⟩
  · rw [Nat.mul_one, if_neg (by omega), zrow_size]; omega
  · intro i hi
    have : i < n.toNat := by simpa using hi
    rw [Nat.mul_one, if_neg (by omega), Nat.zero_add, zrow_get _ _ _ (by omega)]; simp
  · intro b hb
    simp only [bk] at hb
    split at hb
    · simp at hb
    · simp only [Option.some.injEq] at hb; subst hb; exact hr

theorem rd_cells (ad : Addr) : ∀ (n s : Nat) (l : List α), l.length = n → (∀ i (h : i < l.length), H.cell? (ad.add (s + i)) = some (enc l[i])) → rdCells H ad s n = some (l.map enc)
  | 0, s, l, hn, _ => by have : l = [] := List.length_eq_zero_iff.mp hn; subst this; rfl
  | n + 1, s, l, hn, h => by
    cases l with
    | nil => simp at hn
    | cons x r =>
      simp only [rdCells]
      have h0 := h 0 (by simp)
      simp only [Nat.add_zero, List.getElem_cons_zero] at h0
      rw [h0, rd_cells ad n (s + 1) r (by simpa using hn) (fun i hi => by
        have := h (i + 1) (by simpa using hi)
        rw [show s + 1 + i = s + (i + 1) by omega]
        simpa using this)]
      rfl
theorem Sl.firstC (h : Sl enc H v l) : firstC H 1 l.length v = some (l.map enc) := by
  obtain ⟨a, c, rfl, hc, hr⟩ := h
  cases l with
  | nil => cases a <;> rfl
  | cons x r =>
    obtain ⟨ad, rfl, _⟩ := hr 0 (by simp)
    simp only [HL.firstC, Nat.mul_one]
    exact rd_cells ad _ 0 _ rfl (fun i hi => by obtain ⟨ad', e, hh⟩ := hr i hi; cases e; simpa using hh)
theorem Sl.lenO (h : Sl enc H v l) : lenO v = some l.length := by
  obtain ⟨a, c, rfl, hc, hr⟩ := h; rfl

theorem stC_run {K : Hp → Prop} {b : Nat} {e : TypeId} : ∀ (m : List Value) (ad : Addr) (i : Nat) (cs : Array Value) (H : Hp), ad.block = b → ad.spot = none → H b = some (.cells cs e (0, 0)) → ad.off + i + m.length ≤ cs.size →
    (∀ x ∈ m, oneCell x = true) →
    (∀ H' cs', H' b = some (.cells cs' e (0, 0)) → cs'.size = cs.size → (∀ j, j < ad.off + i → cs'[j]? = cs[j]?) → (∀ j (h : j < m.length), cs'[ad.off + i + j]? = some m[j]) → (∀ x, x ≠ b → H' x = H x) → K H') → stC ad K m i H
  | [], ad, i, cs, H, hb, hsp, hH, hs, ho, hk => hk H cs hH rfl (fun _ _ => rfl) (fun j h => absurd h (by simp)) (fun _ _ => rfl)
  | x :: m, ad, i, cs, H, hb, hsp, hH, hs, ho, hk => by
    obtain ⟨abk, aoff, asp⟩ := ad
    simp only at hb hsp hs hk
    subst hb hsp
    simp only [List.length_cons] at hs
    refine ⟨ho x (by simp), ?_, ?_, ?_⟩
    · simp only [Hp.cell?, add_none, hH]
      rw [Array.getElem?_eq_getElem (by omega)]; rfl
    · simp only [Hp.frozen?, add_none, hH]; simp
    · refine stC_run (b := abk) (e := e) m _ (i + 1) (cs.setIfInBounds (aoff + i) x) _ rfl rfl ?_ (by simp; omega) (fun y hy => ho y (by simp [hy])) ?_
      · simp only [Hp.setCell, add_none, hH, Hp.put_same]; rfl
      · intro H' cs' h1 h2 h3 h4 h5
        refine hk H' cs' h1 (by simpa using h2) ?_ ?_ ?_
        · intro j hj
          rw [h3 j (by simp only; omega), Array.getElem?_setIfInBounds_ne (by omega)]
        · intro j hj
          cases j with
          | zero =>
            rw [Nat.add_zero, h3 _ (by simp only; omega), Array.getElem?_setIfInBounds_self_of_lt (by omega)]; rfl
          | succ j =>
            have := h4 j (by simpa using hj)
            simp only at this
            rw [show aoff + i + (j + 1) = aoff + (i + 1) + j by omega, this]; rfl
        · intro x' hx'
          rw [h5 x' hx']
          simp only [Hp.setCell, add_none, hH]
          rw [Hp.put_ne _ _ hx']

/-- An append. -/
theorem Own.apd {bytes : Nat} {z : Value} {e : TypeId} {w : Value} {m : List α} {K : Value → Hp → Prop} (h : Own enc H v l) (hm : Sl enc H w m) (ho : ∀ x, oneCell (enc x) = true)
    (hb : l.length + m.length < 9223372036854775808) (hc : ∀ c, l.length + m.length > c → Builtin.nextslicecap (l.length + m.length) c * bytes ≤ 281474976710656)
    (hk : ∀ v' H', Own enc H' v' (l ++ m) → Off v H H' → (∀ b, bk v' = some b → bk v = some b ∨ H b = none) → K v' H') : apd 1 bytes #[z] e v w H K := by
  have hmf := hm.firstC
  have hml := hm.lenO
  have hlf := h.sl.firstC
  obtain ⟨a, c, rfl, hlc, hr⟩ := h
  simp only [HL.apd, hml]
  by_cases hcap : l.length + m.length ≤ c
  · rw [if_pos hcap]
    simp only [hmf]
    by_cases hc0 : c = 0
    · have hl : l = [] := List.length_eq_zero_iff.mp (by omega)
      have hm' : m = [] := List.length_eq_zero_iff.mp (by omega)
      subst hl hm' hc0
      have : K (.slice a (([] : List α).length + ([] : List α).length) 0) H := hk _ H ⟨a, 0, rfl, by simp, fun h0 => absurd h0 (by simp)⟩ (fun b o hb _ => hb) (fun b hb => by cases a <;> simp [bk] at hb)
      cases a with
      | none => exact this
      | some ad => exact this
    · obtain ⟨b, off, cs, e', rfl, hbb, hs, hcs⟩ := hr (by omega)
      simp only [add_none, Nat.mul_one]
      refine stC_run (b := b) (e := e') (m.map enc) _ 0 cs H rfl rfl hbb (by simp; omega) (by simp; intro x _; exact ho x) ?_
      intro H' cs' h1 h2 h3 h4 h5
      simp only [Nat.add_zero] at h3 h4
      refine hk _ H' ⟨some ⟨b, off, none⟩, c, by simp, by simpa using hcap, fun _ => ⟨b, off, cs', e', rfl, h1, by omega, ?_⟩⟩ ?_ ?_
      · intro i hi
        by_cases hil : i < l.length
        · rw [h3 _ (by omega), hcs i hil, List.getElem_append_left hil]
        · have := h4 (i - l.length) (by simp at hi ⊢; omega)
          rw [show off + l.length + (i - l.length) = off + i by omega] at this
          rw [this, List.getElem_append_right (by omega)]; simp
      · intro x o hx hne
        simp only [bk, if_neg hc0] at hne
        rw [h5 x (by rintro rfl; exact hne rfl)]; exact hx
      · intro x hx
        left; exact hx
  · rw [if_neg hcap]
    refine ⟨hb, hc c (by omega), ?_⟩
    simp only [hlf, hmf]
    intro c' hc1 hc2 r hr'
    refine hk _ _ ⟨some ⟨r, 0, none⟩, c', by simp, by simpa using hc1, fun _ => ⟨r, 0, _, e, rfl, Hp.put_same _ _ _, ?_, ?_⟩⟩ ?_ ?_
    · have : (Builtin.zeroCells #[z] (c' - (l.length + m.length))).size = c' - (l.length + m.length) := by simp [Builtin.zeroCells]
      simp [this]; omega
    · intro i hi
      rw [Nat.zero_add, Array.getElem?_append_left (by simpa using hi)]
      rw [← Array.getElem?_toList]
      simp only [Array.toList_append, ← List.map_append, List.getElem?_map]
      rw [List.getElem?_eq_getElem hi]; rfl
    · intro x o hx _
      rw [Hp.put_ne _ _ (by rintro rfl; rw [hr'] at hx; exact absurd hx (by simp))]; exact hx
    · intro x hx
      right
      simp only [bk] at hx
      split at hx
      · simp at hx
      · simp only [Option.some.injEq] at hx; subst hx; exact hr'
end
end Go.Proofs.YthocjpfibegjcaaGreatDoor.HL
/- Values and loops over a partial heap: the rules that a proof of a function's text uses. -/
namespace Go.Proofs.YthocjpfibegjcaaGreatDoor.HL

theorem cnd_t (A B : Prop) : cnd (.bool true) A B = A := rfl
theorem cnd_f (A B : Prop) : cnd (.bool false) A B = B := rfl
theorem cnd_i {b : Bool} {A B : Prop} (h1 : b = true → A) (h2 : b = false → B) : cnd (.bool b) A B := by
  cases b
  · exact h2 rfl
  · exact h1 rfl
theorem cnd_d {p : Prop} [Decidable p] {A B : Prop} (h1 : p → A) (h2 : ¬ p → B) : cnd (.bool (decide p)) A B := by
  by_cases h : p
  · rw [decide_eq_true h]; exact h1 h
  · rw [decide_eq_false h]; exact h2 h
theorem gop_tt (F : (Value → Hp → Prop) → Prop) (H : Hp) (K : Value → Hp → Prop) : gop (.bool true) true F H K = F K := rfl
theorem gop_ft (F : (Value → Hp → Prop) → Prop) (H : Hp) (K : Value → Hp → Prop) : gop (.bool false) true F H K = K undef H := rfl
theorem gop_tf (F : (Value → Hp → Prop) → Prop) (H : Hp) (K : Value → Hp → Prop) : gop (.bool true) false F H K = K undef H := rfl
theorem gop_ff (F : (Value → Hp → Prop) → Prop) (H : Hp) (K : Value → Hp → Prop) : gop (.bool false) false F H K = F K := rfl
theorem vPick_t (a b : Value) : vPick (.bool true) a b = some a := rfl
theorem vPick_f (a b : Value) : vPick (.bool false) a b = some b := rfl
theorem vExt_20 (a b : Value) : vExt (.tuple #[a, b]) 0 = some a := rfl
theorem vExt_21 (a b : Value) : vExt (.tuple #[a, b]) 1 = some b := rfl
theorem vExt_30 (a b c : Value) : vExt (.tuple #[a, b, c]) 0 = some a := rfl
theorem vExt_31 (a b c : Value) : vExt (.tuple #[a, b, c]) 1 = some b := rfl
theorem vExt_32 (a b c : Value) : vExt (.tuple #[a, b, c]) 2 = some c := rfl
theorem vExt_40 (a b c d : Value) : vExt (.tuple #[a, b, c, d]) 0 = some a := rfl
theorem vExt_41 (a b c d : Value) : vExt (.tuple #[a, b, c, d]) 1 = some b := rfl
theorem vExt_42 (a b c d : Value) : vExt (.tuple #[a, b, c, d]) 2 = some c := rfl
theorem vExt_43 (a b c d : Value) : vExt (.tuple #[a, b, c, d]) 3 = some d := rfl
theorem vUn_not (b : Bool) : vUn .not (.bool b) = some (.bool !b) := rfl
theorem vBool_eql (a b : Bool) : vBool .eql (.bool a) (.bool b) = some (.bool (a == b)) := rfl
theorem vBool_neq (a b : Bool) : vBool .neq (.bool a) (.bool b) = some (.bool (!(a == b))) := rfl
theorem vInt_lss (k : IntKind) (a b : Int) : vInt .lss (.int k a) (.int k b) = some (.bool (decide (a < b))) := by simp [vInt]
theorem vInt_leq (k : IntKind) (a b : Int) : vInt .leq (.int k a) (.int k b) = some (.bool (decide (a ≤ b))) := by simp [vInt]
theorem vInt_gtr (k : IntKind) (a b : Int) : vInt .gtr (.int k a) (.int k b) = some (.bool (decide (b < a))) := by simp [vInt]
theorem vInt_geq (k : IntKind) (a b : Int) : vInt .geq (.int k a) (.int k b) = some (.bool (decide (b ≤ a))) := by simp [vInt]
theorem vInt_eql (k : IntKind) (a b : Int) : vInt .eql (.int k a) (.int k b) = some (.bool (decide (a = b))) := by
  simp only [vInt, if_true]; rfl
theorem vInt_neq (k : IntKind) (a b : Int) : vInt .neq (.int k a) (.int k b) = some (.bool (decide (a ≠ b))) := by
  simp only [vInt, if_true, bne, ne_eq, decide_not]; rfl
theorem wrap64 {x : Int} (h : -9223372036854775808 ≤ x) (h' : x < 9223372036854775808) : IntKind.i64.wrap x = x := by
  unfold IntKind.wrap; simp [IntKind.signed, IntKind.bits]; omega
theorem vInt_add {a b : Int} (h : -9223372036854775808 ≤ a + b) (h' : a + b < 9223372036854775808) : vInt .add (.int .i64 a) (.int .i64 b) = some (.int .i64 (a + b)) := by
  simp only [vInt, if_true, wrap64 h h']
theorem vInt_sub {a b : Int} (h : -9223372036854775808 ≤ a - b) (h' : a - b < 9223372036854775808) : vInt .sub (.int .i64 a) (.int .i64 b) = some (.int .i64 (a - b)) := by
  simp only [vInt, if_true, wrap64 h h']
theorem vInt_mul {a b : Int} (h : -9223372036854775808 ≤ a * b) (h' : a * b < 9223372036854775808) : vInt .mul (.int .i64 a) (.int .i64 b) = some (.int .i64 (a * b)) := by
  simp only [vInt, if_true, wrap64 h h']
theorem vInt_rem {a b : Int} (h : b ≠ 0) : vInt .rem (.int .i64 a) (.int .i64 b) = some (.int .i64 (a.tmod b)) := by
  simp only [vInt]; rw [if_pos ⟨trivial, h⟩]
theorem vInt_quo {a b : Int} (h : 0 < b) (h1 : -9223372036854775808 ≤ a) (h2 : a < 9223372036854775808) : vInt .quo (.int .i64 a) (.int .i64 b) = some (.int .i64 (a.tdiv b)) := by
  have e : IntKind.i64.wrap (a.tdiv b) = a.tdiv b := by
    have h3 := Int.natAbs_tdiv_le_natAbs a b
    by_cases h0 : 0 ≤ a
    · have := Int.tdiv_nonneg h0 (Int.le_of_lt h)
      exact wrap64 (by omega) (by omega)
    · have h4 := Int.tdiv_nonneg (a := -a) (by omega) (Int.le_of_lt h)
      rw [Int.neg_tdiv] at h4
      exact wrap64 (by omega) (by omega)
  simp only [vInt]; rw [if_pos ⟨trivial, by omega⟩, e]
theorem vCI_64 (k : IntKind) {a : Int} (h : -9223372036854775808 ≤ a) (h' : a < 9223372036854775808) : vCI .i64 (.int k a) = some (.int .i64 a) := by
  simp only [vCI, wrap64 h h']

/-- What is reckoned at once: the rules of straight code. -/
theorem EV : (∀ (a : Value) (K : Value → Prop), ob (some a) K = K a) ∧ (∀ F H K, gop (.bool true) true F H K = F K) ∧ (∀ F H K, gop (.bool false) true F H K = K undef H) ∧
    (∀ F H K, gop (.bool true) false F H K = K undef H) ∧ (∀ F H K, gop (.bool false) false F H K = F K) ∧ (∀ a b, vPick (.bool true) a b = some a) ∧ (∀ a b, vPick (.bool false) a b = some b) ∧
    (∀ b, vUn .not (.bool b) = some (.bool !b)) ∧ ((!true) = false) ∧ ((!false) = true) ∧ (∀ A B, cnd (.bool true) A B = A) ∧ (∀ A B, cnd (.bool false) A B = B) ∧
    (∀ a b, vBool .eql (.bool a) (.bool b) = some (.bool (a == b))) ∧ (∀ a b, vBool .neq (.bool a) (.bool b) = some (.bool (!(a == b)))) ∧ (∀ b : Bool, (b == b) = true) ∧
    (∀ k a b, vInt .neq (.int k a) (.int k b) = some (.bool (decide (a ≠ b)))) ∧ (∀ k a b, vInt .lss (.int k a) (.int k b) = some (.bool (decide (a < b)))) ∧ (∀ k a b, vInt .gtr (.int k a) (.int k b) = some (.bool (decide (b < a)))) ∧
    (∀ k a b, vInt .leq (.int k a) (.int k b) = some (.bool (decide (a ≤ b)))) ∧ (∀ k a b, vInt .geq (.int k a) (.int k b) = some (.bool (decide (b ≤ a)))) ∧ (∀ k a b, vInt .eql (.int k a) (.int k b) = some (.bool (decide (a = b)))) ∧
    (∀ a : Int, decide (a ≠ a) = false) ∧ (∀ a : Int, decide (a = a) = true) ∧ (decide False = false) ∧ (decide True = true) ∧
    (∀ a b, vExt (.tuple #[a, b]) 0 = some a) ∧ (∀ a b, vExt (.tuple #[a, b]) 1 = some b) ∧ (∀ a b c, vExt (.tuple #[a, b, c]) 0 = some a) ∧ (∀ a b c, vExt (.tuple #[a, b, c]) 1 = some b) ∧ (∀ a b c, vExt (.tuple #[a, b, c]) 2 = some c) ∧
    (∀ a b c d, vExt (.tuple #[a, b, c, d]) 0 = some a) ∧ (∀ a b c d, vExt (.tuple #[a, b, c, d]) 1 = some b) ∧ (∀ a b c d, vExt (.tuple #[a, b, c, d]) 2 = some c) ∧ (∀ a b c d, vExt (.tuple #[a, b, c, d]) 3 = some d) :=
  ⟨fun _ _ => rfl, fun _ _ _ => rfl, fun _ _ _ => rfl, fun _ _ _ => rfl, fun _ _ _ => rfl, fun _ _ => rfl, fun _ _ => rfl, fun _ => rfl, rfl, rfl, fun _ _ => rfl, fun _ _ => rfl,
    fun _ _ => rfl, fun _ _ => rfl, fun b => by simp, fun _ _ _ => vInt_neq _ _ _, fun _ _ _ => vInt_lss _ _ _, fun _ _ _ => vInt_gtr _ _ _, fun _ _ _ => vInt_leq _ _ _, fun _ _ _ => vInt_geq _ _ _, fun _ _ _ => vInt_eql _ _ _,
    fun a => by simp, fun a => by simp, by simp, by simp, fun _ _ => rfl, fun _ _ => rfl, fun _ _ _ => rfl, fun _ _ _ => rfl, fun _ _ _ => rfl, fun _ _ _ _ => rfl, fun _ _ _ _ => rfl, fun _ _ _ _ => rfl, fun _ _ _ _ => rfl⟩

theorem ob_i {α : Type} {x : Option α} {a : α} {K : α → Prop} (h : x = some a) (hk : K a) : ob x K := by rw [h]; exact hk
theorem cnd_t1 {A B : Prop} (h : A) : cnd (.bool true) A B := h
theorem cnd_f1 {A B : Prop} (h : B) : cnd (.bool false) A B := h
theorem gop_rt {F : (Value → Hp → Prop) → Prop} {H : Hp} {K : Value → Hp → Prop} (h : F K) : gop (.bool true) true F H K := h
theorem gop_rf {F : (Value → Hp → Prop) → Prop} {H : Hp} {K : Value → Hp → Prop} (h : F K) : gop (.bool false) false F H K := h
theorem gop_st {F : (Value → Hp → Prop) → Prop} {H : Hp} {K : Value → Hp → Prop} (h : K undef H) : gop (.bool true) false F H K := h
theorem gop_sf {F : (Value → Hp → Prop) → Prop} {H : Hp} {K : Value → Hp → Prop} (h : K undef H) : gop (.bool false) true F H K := h
theorem vBool_neq_same (b : Bool) : vBool .neq (.bool b) (.bool b) = some (.bool false) := by simp [vBool]
theorem vInt_neq_same (k : IntKind) (a : Int) : vInt .neq (.int k a) (.int k a) = some (.bool false) := by simp [vInt_neq]
theorem vInt_lss_t {k : IntKind} {a b : Int} (h : a < b) : vInt .lss (.int k a) (.int k b) = some (.bool true) := by simp [vInt_lss, h]
theorem vInt_lss_f {k : IntKind} {a b : Int} (h : ¬ a < b) : vInt .lss (.int k a) (.int k b) = some (.bool false) := by simp only [vInt_lss, h, decide_false]
theorem Own.one {α : Type} {enc : α → Value} {H : Hp} {v : Value} {l : List α} (h : Own enc H v l) : oneCell v = true := by
  obtain ⟨a, c, rfl, _⟩ := h; rfl
theorem Own.cells {α : Type} {enc : α → Value} {H : Hp} {v : Value} {l : List α} (h : Own enc H v l) : v.cells = #[v] := by
  obtain ⟨a, c, rfl, _⟩ := h; rfl
theorem Sl.one {α : Type} {enc : α → Value} {H : Hp} {v : Value} {l : List α} (h : Sl enc H v l) : oneCell v = true := by
  obtain ⟨a, c, rfl, _⟩ := h; rfl
theorem Sl.cells {α : Type} {enc : α → Value} {H : Hp} {v : Value} {l : List α} (h : Sl enc H v l) : v.cells = #[v] := by
  obtain ⟨a, c, rfl, _⟩ := h; rfl

/-- A loop that counts up to N. -/
theorem lp_up {body : (Exit → S → Hp → Prop) → S → Hp → Prop} {Q : Exit → S → Hp → Prop} {σ : S} {H : Hp} (N : Nat) (I : Nat → S → Hp → Prop) (h0 : I 0 σ H)
    (hs : ∀ i σ H, i ≤ N → I i σ H → body (thenQ (fun σ' H' => i < N ∧ I (i + 1) σ' H') Q) σ H)
    (hm : ∀ (Q1 Q2 : Exit → S → Hp → Prop) σ H, (∀ e σ H, Q1 e σ H → Q2 e σ H) → body Q1 σ H → body Q2 σ H) : lpE body Q σ H := by
  refine ⟨fun n σ H => ∃ i, i ≤ N ∧ n = N - i ∧ I i σ H, ⟨N, 0, by omega, by omega, h0⟩, ?_⟩
  rintro n σ H ⟨i, hi, rfl, hI⟩
  refine hm _ _ _ _ ?_ (hs i σ H hi hI)
  intro e σ' H' h
  cases e <;> first | exact h | (obtain ⟨h1, h2⟩ := h; exact ⟨N - (i + 1), by omega, i + 1, by omega, rfl, h2⟩)
/-- A loop's next round. -/
theorem nxt {I : Nat → S → Hp → Prop} {Q : Exit → S → Hp → Prop} {σ : S} {H : Hp} {n : Nat} (m : Nat) (hm : m < n) (h : I m σ H) : thenQ (fun σ' H' => ∃ m, m < n ∧ I m σ' H') Q .normal σ H := ⟨m, hm, h⟩
theorem nxtw {I : Nat → S → Hp → Prop} {Q : Exit → S → Hp → Prop} {σ : S} {H : Hp} {n : Nat} (m : Nat) (hm : m < n) (h : I m σ H) : thenQ (fun σ' H' => ∃ m, m < n ∧ I m σ' H') Q .normal σ H := ⟨m, hm, h⟩
theorem vCI_u64 {k : IntKind} {a : Int} (h : 0 ≤ a) (h' : a < 18446744073709551616) : vCI .u64 (.int k a) = some (.int .u64 a) := by
  simp only [vCI]
  unfold IntKind.wrap
  simp [IntKind.signed, IntKind.bits]
  omega
theorem retK {K : Value → Hp → Prop} {v v' : Value} {H : Hp} (e : v = v') (h : K v' H) : K v H := e ▸ h

/-- Several ways that meet: what holds where they meet. -/
theorem jn_i {K : S → Hp → Prop} {F : (S → Hp → Prop) → Prop} (P : S → Hp → Prop) (h : ∀ σ H, P σ H → K σ H) (hf : ∀ J : S → Hp → Prop, (∀ σ H, P σ H → J σ H) → F J) : jn K F := hf K h

theorem kF {p : Prop} [Decidable p] {K : Value → Hp → Prop} {H : Hp} (hk : K (.bool (decide p)) H) (h : ¬ p) : K (.bool false) H := by rw [decide_eq_false h] at hk; exact hk
theorem kT {p : Prop} [Decidable p] {K : Value → Hp → Prop} {H : Hp} (hk : K (.bool (decide p)) H) (h : p) : K (.bool true) H := by rw [decide_eq_true h] at hk; exact hk
theorem kQ {p q : Prop} [Decidable p] [Decidable q] {K : Value → Hp → Prop} {H : Hp} (hk : K (.bool (decide p)) H) (h : p ↔ q) : K (.bool (decide q)) H := by rw [decide_eq_decide.mpr h] at hk; exact hk

/-! ### copies -/
theorem growBy_le (n : Nat) : ∀ (r c : Nat), Builtin.growBy n r c ≤ max c (n + (n + 768) / 4)
  | 0, c => by simp only [Builtin.growBy]; omega
  | r + 1, c => by
    simp only [Builtin.growBy]
    split
    · omega
    · have := growBy_le n r (c + (c + 768) / 4)
      omega
theorem nsc_le {n c : Nat} (h : n > c) : Builtin.nextslicecap n c ≤ 2 * n + 1024 := by
  unfold Builtin.nextslicecap
  split
  · omega
  · split
    · omega
    · have := growBy_le n 4 c; omega
theorem bS_nil {α : Type} {enc : α → Value} {z : Value} {sz : Nat} {e : TypeId} {H : Hp} {K : Value → Hp → Prop} (hk : ∀ v H', Own enc H' v [] → Nw H v → bk v = none → Le H H' → K v H') : bS sz 0 #[z] e [] H K := by
  refine ⟨by simp, ?_⟩
  rw [if_pos (by simp)]
  show match some (#[] : Array Value) with
    | some cells => ∀ r, H r = none → K (.slice (some ⟨r, 0, none⟩) 0 0) (H.put r (.cells cells e))
    | none => False
  intro r hr
  refine hk _ _ ⟨some ⟨r, 0, none⟩, 0, rfl, by simp, fun h0 => absurd h0 (by simp)⟩ ?_ rfl (Le.put _ hr)
  intro b hb
  simp [bk] at hb
/-- An append to an empty slice of its own: a copy. -/
theorem apd_nil {α : Type} {enc : α → Value} {z : Value} {b : Nat} {e : TypeId} {a v1 : Value} {l : List α} {H : Hp} {K : Value → Hp → Prop} (o1 : Own enc H v1 []) (k1 : bk v1 = none) (ha : Sl enc H a l) (ho : ∀ x, oneCell (enc x) = true) (hb : b ≤ 64) (hl : l.length ≤ 68719476736)
    (hk : ∀ v H', Own enc H' v l → Nw H v → Le H H' → K v H') : apd 1 b #[z] e v1 a H K := by
  refine o1.apd ha ho (by simp; omega) (fun c hc => ?_) (fun v2 H2 o2 off2 hbk => ?_)
  · have := nsc_le hc
    simp only [List.length_nil, Nat.zero_add] at this ⊢
    exact Nat.le_trans (Nat.mul_le_mul this hb) (by omega)
  · rw [List.nil_append] at o2
    refine hk v2 H2 o2 (fun x hx => ?_) (fun x o hx => off2 x o hx (by rw [k1]; simp))
    rcases hbk x hx with h | h
    · rw [k1] at h; simp at h
    · exact h
theorem Own.isSl {α : Type} {enc : α → Value} {H : Hp} {v : Value} {l : List α} (h : Own enc H v l) : ∃ a n c, v = .slice a n c := by
  obtain ⟨a, c, h, _⟩ := h; exact ⟨_, _, _, h⟩
theorem Sl.isSl {α : Type} {enc : α → Value} {H : Hp} {v : Value} {l : List α} (h : Sl enc H v l) : ∃ a n c, v = .slice a n c := by
  obtain ⟨a, c, h, _⟩ := h; exact ⟨_, _, _, h⟩
/-- A copy of a slice: an append to an empty one. -/
theorem clone_i {α : Type} {enc : α → Value} {z z' : Value} {sz b : Nat} {e e' : TypeId} {a : Value} {l : List α} {H : Hp} {K : Value → Value → Hp → Prop} (ha : Sl enc H a l) (ho : ∀ x, oneCell (enc x) = true) (hb : b ≤ 64) (hl : l.length ≤ 68719476736)
    (hk : ∀ v1 v H', Own enc H' v l → Nw H v → Le H H' → K v1 v H') : bS sz 0 #[z] e [] H (fun v1 H1 => apd 1 b #[z'] e' v1 a H1 (K v1)) := by
  refine bS_nil (enc := enc) (fun v1 H1 o1 n1 k1 le1 => ?_)
  refine o1.apd (ha.le le1) ho (by simp; omega) (fun c hc => ?_) (fun v2 H2 o2 off2 hbk => ?_)
  · have := nsc_le hc
    simp only [List.length_nil, Nat.zero_add] at this ⊢
    exact Nat.le_trans (Nat.mul_le_mul this hb) (by omega)
  · rw [List.nil_append] at o2
    have hle : Le H1 H2 := fun x o hx => off2 x o hx (by rw [k1]; simp)
    refine hk v1 v2 H2 o2 (fun x hx => ?_) (le1.trans hle)
    rcases hbk x hx with h | h
    · rw [k1] at h; simp at h
    · cases ho : H x with
      | none => rfl
      | some o => rw [le1 x o ho] at h; simp at h

/-! ### lists by index -/
theorem at_eq {α : Type} (d : α) (l : List α) {i : Nat} (h : i < l.length) : at_ d l (i : Int) = l[i] := by
  unfold at_; rw [Int.toNat_natCast, List.getD_eq_getElem?_getD, List.getElem?_eq_getElem h]; rfl
theorem take_at {α : Type} (d : α) (l : List α) {i : Nat} (h : i < l.length) : l.take (i + 1) = l.take i ++ [at_ d l (i : Int)] := by
  rw [at_eq d l h, List.take_append_getElem h]
theorem at_mem {α : Type} (d : α) (l : List α) {i : Int} (h0 : 0 ≤ i) (h : i < l.length) : at_ d l i ∈ l := by
  have hn : i.toNat < l.length := by omega
  unfold at_; rw [List.getD_eq_getElem?_getD, List.getElem?_eq_getElem hn]; exact List.getElem_mem hn
end Go.Proofs.YthocjpfibegjcaaGreatDoor.HL
/- Texts: bytes in a row. -/
namespace Go.Proofs.YthocjpfibegjcaaGreatDoor.HL
set_option maxRecDepth 100000
/-- A text of some bytes. -/
def tS (l : List UInt8) : ByteArray := ⟨l.toArray⟩
abbrev vS (l : List UInt8) : Value := .string (tS l)
theorem tS_size (l : List UInt8) : (tS l).size = l.length := rfl
theorem tS_data (l : List UInt8) : (tS l).data.toList = l := rfl
theorem tS_toList (l : List UInt8) : (tS l).toList = l := by rw [ByteArray.toList_eq]; rfl
theorem tS_of (b : ByteArray) : b = tS b.data.toList := by cases b; rfl
theorem tS_append (a b : List UInt8) : tS a ++ tS b = tS (a ++ b) := by
  have h : ∀ {x y : ByteArray}, x.data.toList = y.data.toList → x = y := fun {x y} h => by
    cases x; cases y; simp only [ByteArray.mk.injEq]; exact Array.toList_inj.mp h
  apply h
  rw [ByteArray.data_append, Array.toList_append]
  rfl
theorem tS_inj {a b : List UInt8} (h : tS a = tS b) : a = b := by
  have := congrArg (fun x => x.data.toList) h
  exact this
theorem vStr_add {a b : List UInt8} (h : a.length + b.length ≤ 9223372036854775807) : vStr .add (vS a) (vS b) = some (vS (a ++ b)) := by
  simp only [vStr, tS_size, tS_append]
  rw [if_pos]
  have e : IntKind.i64.max = 9223372036854775807 := by decide
  rw [e]; omega
theorem vStr_eql (a b : List UInt8) : vStr .eql (vS a) (vS b) = some (.bool (decide (a = b))) := by
  simp only [vStr, tS_toList]
  congr 2
  by_cases h : a = b
  · simp [h]
  · simp [h]
theorem vStr_neq (a b : List UInt8) : vStr .neq (vS a) (vS b) = some (.bool (decide (a ≠ b))) := by
  simp only [vStr, tS_toList]
  congr 2
  by_cases h : a = b
  · simp [h]
  · simp [h]
theorem vStr_neq_same (a : List UInt8) : vStr .neq (vS a) (vS a) = some (.bool false) := by rw [vStr_neq]; simp
theorem vStr_lss (a b : List UInt8) : vStr .lss (vS a) (vS b) = some (.bool (Op.bytesLess a b)) := by simp only [vStr, tS_toList]
theorem vLenS_t (a : List UInt8) : vLenS (vS a) = some (.int .i64 a.length) := rfl
theorem vIndexS_t {a : List UInt8} {k : IntKind} {i : Int} (h0 : 0 ≤ i) (h1 : i < a.length) : vIndexS (vS a) (.int k i) = some (.int .u8 ((at_ 0 a i).toNat : Int)) := by
  have hi : i.toNat < a.length := by omega
  have e : (tS a)[i.toNat]? = some a[i.toNat] := by
    show (if h : i.toNat < (tS a).size then some ((tS a)[i.toNat]) else none) = _
    rw [dif_pos (show i.toNat < (tS a).size from hi)]
    rfl
  simp only [vIndexS]
  rw [if_pos h0, e]
  simp only [Option.map_some, at_, List.getD_eq_getElem?_getD, List.getElem?_eq_getElem hi, Option.getD_some]
theorem tS_extract (a : List UInt8) (l h : Nat) : (tS a).extract l h = tS ((a.drop l).take (h - l)) := by
  have hh : ∀ {x y : ByteArray}, x.data.toList = y.data.toList → x = y := fun {x y} h => by
    cases x; cases y; simp only [ByteArray.mk.injEq]; exact Array.toList_inj.mp h
  apply hh
  rw [ByteArray.data_extract, Array.toList_extract, List.extract_eq_take_drop]
  rfl
theorem vSlS_t {a : List UInt8} {k k' : IntKind} {l h : Int} (l0 : 0 ≤ l) (lh : l ≤ h) (h1 : h ≤ a.length) : vSlS (vS a) (some (.int k l)) (some (.int k' h)) = some (vS ((a.drop l.toNat).take (h.toNat - l.toNat))) := by
  have e := tS_size a
  simp only [vSlS, bnd, e]
  rw [if_pos ⟨by omega, by omega⟩]
  simp only
  rw [if_pos ⟨by omega, by omega⟩]
  simp only [tS_extract]
theorem vSlS_lo {a : List UInt8} {k : IntKind} {l : Int} (l0 : 0 ≤ l) (h1 : l ≤ a.length) : vSlS (vS a) (some (.int k l)) none = some (vS (a.drop l.toNat)) := by
  have e := tS_size a
  simp only [vSlS, bnd, e]
  rw [if_pos ⟨by omega, by omega⟩]
  simp only [tS_extract]
  rw [List.take_of_length_le (by simp)]
theorem vSlS_hi {a : List UInt8} {k : IntKind} {h : Int} (h0 : 0 ≤ h) (h1 : h ≤ a.length) : vSlS (vS a) none (some (.int k h)) = some (vS (a.take h.toNat)) := by
  have e := tS_size a
  simp only [vSlS, bnd, e]
  rw [if_pos ⟨by omega, by omega⟩]
  simp only [tS_extract, List.drop_zero, Nat.sub_zero]
end Go.Proofs.YthocjpfibegjcaaGreatDoor.HL
/- What the small functions of lanes come to. -/
namespace Go.Proofs.YthocjpfibegjcaaGreatDoor
open HL
theorem C.spec_l00In {x lo hi : Int} {H : Hp} {K : Value → Hp → Prop} (hk : K (.bool (decide (lo ≤ x ∧ x ≤ hi))) H) : HT prg I.spec_l00In [.int .i64 x, .int .i64 lo, .int .i64 hi].toArray H K := by
  refine R.spec_l00In ?_
  unfold F.spec_l00In
  by_cases h : lo ≤ x
  · simp only [vInt_geq, vInt_leq, ob_some, h, decide_true, gop_tt, vPick_t, true_and] at hk ⊢; exact hk
  · simp only [vInt_geq, ob_some, h, decide_false, gop_ft, vPick_f, false_and] at hk ⊢; exact hk
theorem C.impl_within {x lo hi : Int} {H : Hp} {K : Value → Hp → Prop} (hk : K (.bool (decide (lo ≤ x ∧ x ≤ hi))) H) : HT prg I.impl_within [.int .i64 x, .int .i64 lo, .int .i64 hi].toArray H K := by
  refine R.impl_within ?_
  unfold F.impl_within
  by_cases h : lo ≤ x
  · simp only [vInt_geq, vInt_leq, ob_some, h, decide_true, gop_tt, vPick_t, true_and] at hk ⊢; exact hk
  · simp only [vInt_geq, ob_some, h, decide_false, gop_ft, vPick_f, false_and] at hk ⊢; exact hk
theorem C.impl_areWithin {a : Value} {l : List Int} {lo hi : Int} {H : Hp} {K : Value → Hp → Prop} (ha : Sl eI H a l) (hl : l.length ≤ 9223372036854775807) (hk : K (.bool (decide (∀ x ∈ l, lo ≤ x ∧ x ≤ hi))) H) :
    HT prg I.impl_areWithin [a, .int .i64 lo, .int .i64 hi].toArray H K := by
  refine R.impl_areWithin ?_
  unfold F.impl_areWithin jn; dsimp only
  rw [ha.len, ob_some]
  refine ⟨fun n σ H1 => ∃ i : Nat, n = l.length - i ∧ i ≤ l.length ∧ H1 = H ∧ σ 1 = .int .i64 lo ∧ σ 2 = .int .i64 hi ∧ σ 9 = a ∧ σ 10 = .int .i64 l.length ∧ σ 11 = .int .i64 i ∧ ∀ x ∈ l.take i, lo ≤ x ∧ x ≤ hi,
    ⟨_, 0, rfl, by omega, rfl, rfl, rfl, rfl, rfl, rfl, by simp⟩, ?_⟩
  rintro n σ H1 ⟨i, rfl, hi', rfl, h1, h2, h9, h10, h11, hall⟩
  simp only [h1, h2, h9, h10, h11, vInt_lss, ob_some]
  refine cnd_d (fun hlt => ?_) (fun hge => ?_)
  · have hlt' : i < l.length := by omega
    rw [ha.ix (by omega) hlt, ob_some, ha.ld 0 (by omega) hlt, ob_some]
    refine C.impl_within ?_
    rw [vUn_not, ob_some]
    refine cnd_i (fun hb => ?_) (fun hb => ?_)
    · refine retK (K := K) (v' := .bool false) rfl ?_
      rw [decide_eq_false] at hk
      · exact hk
      · intro hh
        have := hh _ (at_mem 0 l (i := i) (by omega) hlt)
        simp [this] at hb
    · rw [vInt_add (by omega) (by omega), ob_some]
      refine nxt (l.length - (i + 1)) (by omega) ⟨i + 1, rfl, by omega, rfl, h1, h2, h9, h10, rfl, ?_⟩
      rw [take_at 0 l hlt']
      intro x hx
      rcases List.mem_append.mp hx with hx | hx
      · exact hall x hx
      · simp only [List.mem_singleton] at hx; subst hx; simpa using hb
  · refine retK (K := K) (v' := .bool true) rfl ?_
    rw [decide_eq_true] at hk
    · exact hk
    · intro x hx
      rw [List.take_of_length_le (by omega)] at hall
      exact hall x hx
theorem C.impl_areMany {a : Value} {l : List Int} {n m lo hi : Int} {H : Hp} {K : Value → Hp → Prop} (ha : Sl eI H a l) (hl : l.length ≤ 9223372036854775807)
    (hk : K (.bool (decide ((n ≤ l.length ∧ l.length ≤ m) ∧ ∀ x ∈ l, lo ≤ x ∧ x ≤ hi))) H) :
    HT prg I.impl_areMany [a, .int .i64 n, .int .i64 m, .int .i64 lo, .int .i64 hi].toArray H K := by
  refine R.impl_areMany ?_
  unfold F.impl_areMany
  rw [ha.len, ob_some]
  refine C.impl_within ?_
  by_cases h : n ≤ l.length ∧ l.length ≤ m
  · simp only [h, and_self, decide_true, gop_tt, true_and] at hk ⊢
    refine C.impl_areWithin ha hl ?_
    rw [vPick_t, ob_some]
    exact hk
  · simp only [h, decide_false, gop_ft, vPick_f, ob_some, false_and] at hk ⊢
    exact hk
def isLane (l : List Int) : Prop := (1 ≤ (l.length : Int) ∧ (l.length : Int) ≤ 64) ∧ ∀ x ∈ l, -1 ≤ x ∧ x ≤ 5
instance (l : List Int) : Decidable (isLane l) := by unfold isLane; infer_instance
theorem C.laws_toInt64S {a : Value} {l : List Int} {H : Hp} {K : Value → Hp → Prop} (ha : Sl eI H a l) (hl : l.length ≤ 17592186044416) (hk : ∀ v H', Own eI H' v l → Nw H v → Le H H' → K v H') :
    HT prg I.laws_toInt64S [a].toArray H K := by
  refine R.laws_toInt64S ?_
  unfold F.laws_toInt64S jn; dsimp only
  rw [ha.len, ob_some]
  refine Own.mk_ (by omega) (by omega) (by omega) (by omega) (fun v H0 ho hn hle => ?_)
  refine ⟨fun n σ H1 => ∃ i : Nat, n = l.length - i ∧ i ≤ l.length ∧ σ 0 = a ∧ σ 3 = v ∧ σ 4 = .int .i64 i ∧ Own eI H1 v (l.take i ++ List.replicate (l.length - i) 0) ∧ Off v H0 H1,
    ⟨_, 0, rfl, by omega, rfl, rfl, rfl, by simpa using ho, fun b o hb _ => hb⟩, ?_⟩
  rintro n σ H1 ⟨i, rfl, hi', h0, h3, h4, ho1, hoff⟩
  have hle1 : Le H H1 := hoff.le hle hn
  have ha1 := ha.le hle1
  simp only [h0, h3, h4, ha.len, vInt_lss, ob_some]
  refine cnd_d (fun hlt => ?_) (fun hge => ?_)
  · have hlt' : i < l.length := by omega
    rw [ha1.ix (by omega) hlt, ob_some, ha1.ld 0 (by omega) hlt, ob_some, ho1.sl.ix (by omega) (by simp; omega), ob_some]
    refine ho1.st (x := at_ 0 l (i : Int)) (by omega) (by simp; omega) rfl rfl (fun H2 ho2 hoff2 => ?_)
    rw [vInt_add (by omega) (by omega), ob_some]
    refine nxt (l.length - (i + 1)) (by omega) ⟨i + 1, rfl, by omega, h0, h3, rfl, ?_, hoff.trans hoff2⟩
    have e : (l.take i ++ List.replicate (l.length - i) 0).set (i : Int).toNat (at_ 0 l (i : Int)) = l.take (i + 1) ++ List.replicate (l.length - (i + 1)) 0 := by
      rw [take_at 0 l hlt', Int.toNat_natCast, List.set_append_right _ _ (by simp; omega), show l.length - i = (l.length - (i + 1)) + 1 by omega, List.replicate_succ]
      simp [Nat.min_eq_left (Nat.le_of_lt hlt')]
    rw [← e]; exact ho2
  · refine retK (K := K) (v' := v) h3 (hk v H1 ?_ hn hle1)
    rw [List.take_of_length_le (by omega), show l.length - i = 0 by omega] at ho1
    simpa using ho1
theorem C.laws_eqInt64S {a b : Value} {l m : List Int} {H : Hp} {K : Value → Hp → Prop} (ha : Sl eI H a l) (hb : Sl eI H b m) (hl : l.length ≤ 9223372036854775807) (hk : K (.bool (decide (l = m))) H) :
    HT prg I.laws_eqInt64S [a, b].toArray H K := by
  refine R.laws_eqInt64S ?_
  unfold F.laws_eqInt64S jn; dsimp only
  rw [ha.len, hb.len, ob_some, ob_some, vInt_neq, ob_some]
  refine cnd_d (fun hne => ?_) (fun heq => ?_)
  · rw [decide_eq_false] at hk
    · exact hk
    · rintro rfl; exact hne rfl
  · have hlen : l.length = m.length := by omega
    refine ⟨fun n σ H1 => ∃ i : Nat, n = l.length - i ∧ i ≤ l.length ∧ H1 = H ∧ σ 0 = a ∧ σ 1 = b ∧ σ 5 = .int .i64 i ∧ l.take i = m.take i,
      ⟨_, 0, rfl, by omega, rfl, rfl, rfl, rfl, by simp⟩, ?_⟩
    rintro n σ H1 ⟨i, rfl, hi', rfl, h0, h1, h5, hall⟩
    simp only [h0, h1, h5, ha.len, vInt_lss, ob_some]
    refine cnd_d (fun hlt => ?_) (fun hge => ?_)
    · have hlt' : i < l.length := by omega
      rw [ha.ix (by omega) hlt, ob_some, ha.ld 0 (by omega) hlt, ob_some, hb.ix (by omega) (by omega), ob_some, hb.ld 0 (by omega) (by omega), ob_some, vInt_neq, ob_some]
      refine cnd_d (fun hne => ?_) (fun heq => ?_)
      · refine retK (K := K) (v' := .bool false) rfl ?_
        rw [decide_eq_false] at hk
        · exact hk
        · rintro rfl; exact hne rfl
      · rw [vInt_add (by omega) (by omega), ob_some]
        refine nxt (l.length - (i + 1)) (by omega) ⟨i + 1, rfl, by omega, rfl, h0, h1, rfl, ?_⟩
        rw [take_at 0 l hlt', take_at 0 m (by omega), hall, Decidable.not_not.mp heq]
    · refine retK (K := K) (v' := .bool true) rfl ?_
      rw [List.take_of_length_le (by omega), List.take_of_length_le (by omega)] at hall
      rw [decide_eq_true hall] at hk
      exact hk
end Go.Proofs.YthocjpfibegjcaaGreatDoor
/- The runs of a row, as texts: plain law. -/
namespace Go.Proofs.YthocjpfibegjcaaGreatDoor
open HL
set_option maxRecDepth 100000
/-- A number below 100 in decimal. -/
def decT (n : Nat) : List UInt8 := if n < 10 then [UInt8.ofNat (48 + n)] else [UInt8.ofNat (48 + n / 10), UInt8.ofNat (48 + n % 10)]
theorem decT_len (n : Nat) : 1 ≤ (decT n).length ∧ (decT n).length ≤ 2 := by unfold decT; split <;> simp
/-- How often a number stands at the beginning. -/
def rN (x : Int) : List Int → Nat
  | [] => 0
  | y :: l => if y = x then rN x l + 1 else 0
theorem rN_le (x : Int) : ∀ l : List Int, rN x l ≤ l.length
  | [] => Nat.le_refl _
  | y :: l => by
    have := rN_le x l
    unfold rN
    split <;> simp <;> omega
theorem rN_step {x : Int} : ∀ {l : List Int} {t : Nat}, t ≤ rN x l → t < l.length → at_ 0 l (t : Int) = x → t + 1 ≤ rN x l
  | [], t, _, h, _ => by simp at h
  | y :: l, 0, _, _, h => by
    have : y = x := h
    unfold rN
    rw [if_pos this]; omega
  | y :: l, t + 1, h1, h2, h3 => by
    unfold rN at h1 ⊢
    split at h1
    · rename_i hy
      rw [if_pos hy]
      have := rN_step (x := x) (l := l) (t := t) (by omega) (by simpa using h2) (by
        unfold at_ at h3 ⊢
        simpa using h3)
      omega
    · omega
theorem rN_at {x : Int} : ∀ {l : List Int} {t : Nat}, t < rN x l → at_ 0 l (t : Int) = x
  | [], t, h => by simp [rN] at h
  | y :: l, 0, h => by
    unfold rN at h
    split at h
    · rename_i hy; exact hy
    · omega
  | y :: l, t + 1, h => by
    unfold rN at h
    split at h
    · have := rN_at (x := x) (l := l) (t := t) (by omega)
      unfold at_ at this ⊢
      simpa using this
    · omega
theorem rN_end {x : Int} {l : List Int} {t : Nat} (h1 : t ≤ rN x l) (h2 : t = l.length ∨ at_ 0 l (t : Int) ≠ x) : t = rN x l := by
  rcases Nat.lt_or_ge t (rN x l) with h | h
  · have h3 := rN_at h
    rcases h2 with h2 | h2
    · have := rN_le x l; omega
    · exact absurd h3 h2
  · omega
def chT (x : Int) : UInt8 := if x = 1 then 111 else 98
/-- The runs of a row, without zeros at its end. -/
def rtx : List Int → List UInt8
  | [] => []
  | x :: l => if x = 0 ∧ rN x (x :: l) = l.length + 1 then [] else (if rN x (x :: l) = 1 then [] else decT (rN x (x :: l))) ++ [chT x] ++ rtx ((x :: l).drop (rN x (x :: l)))
termination_by l => l.length
decreasing_by
  have : 1 ≤ rN x (x :: l) := by unfold rN; rw [if_pos rfl]; omega
  simp only [List.length_drop, List.length_cons]; omega
theorem rtx_nil : rtx [] = [] := by unfold rtx; rfl
theorem rtx_of {l : List Int} (h : 0 < l.length) : rtx l = if at_ 0 l 0 = 0 ∧ rN (at_ 0 l 0) l = l.length then [] else (if rN (at_ 0 l 0) l = 1 then [] else decT (rN (at_ 0 l 0) l)) ++ [chT (at_ 0 l 0)] ++ rtx (l.drop (rN (at_ 0 l 0) l)) := by
  cases l with
  | nil => simp at h
  | cons x l =>
    conv => lhs; unfold rtx
    rfl
theorem rtx_zero : ∀ {l : List Int}, (∀ t, t < l.length → at_ 0 l (t : Int) = 0) → rtx l = []
  | [], _ => rtx_nil
  | x :: l, h => by
    rw [rtx_of (by simp)]
    have e0 : at_ 0 (x :: l) 0 = 0 := h 0 (by simp)
    rw [e0]
    have hk : ∀ t, t ≤ (x :: l).length → t ≤ rN 0 (x :: l) := by
      intro t
      induction t with
      | zero => intro _; omega
      | succ t ih => intro ht; exact rN_step (ih (by omega)) (by omega) (h t (by omega))
    have := hk _ (Nat.le_refl _)
    have := rN_le 0 (x :: l)
    rw [if_pos ⟨rfl, by omega⟩]
theorem rtx_len : ∀ (n : Nat) (l : List Int), l.length ≤ n → (rtx l).length ≤ 3 * l.length
  | 0, l, h => by
    have : l = [] := List.length_eq_zero_iff.mp (by omega)
    subst this
    simp [rtx_nil]
  | n + 1, l, h => by
    cases l with
    | nil => simp [rtx_nil]
    | cons x l =>
      rw [rtx_of (by simp)]
      split
      · simp
      · have h1 : 1 ≤ rN (at_ 0 (x :: l) 0) (x :: l) := rN_step (t := 0) (by omega) (by simp) rfl
        have h2 := rN_le (at_ 0 (x :: l) 0) (x :: l)
        have h3 := rtx_len n ((x :: l).drop (rN (at_ 0 (x :: l) 0) (x :: l))) (by simp only [List.length_drop]; simp only [List.length_cons] at h ⊢; omega)
        simp only [List.length_drop] at h3
        have h4 := decT_len (rN (at_ 0 (x :: l) 0) (x :: l))
        simp only [List.length_append, List.length_singleton]
        split
        · simp only [List.length_nil]; omega
        · omega
section
variable {row : List Int}
theorem at_drop {a t : Nat} : at_ 0 (row.drop a) (t : Int) = at_ 0 row ((a + t : Nat) : Int) := by
  unfold at_
  rw [Int.toNat_natCast, Int.toNat_natCast]
  simp [List.getD_eq_getElem?_getD, List.getElem?_drop]
/-- A run that is told: what is written, and what is left. -/
theorem rtx_run {a k : Nat} (ha : a < row.length) (hk : k = rN (at_ 0 row (a : Int)) (row.drop a)) (hne : ¬ (at_ 0 row (a : Int) = 0 ∧ a + k = row.length)) :
    rtx (row.drop a) = (if k = 1 then [] else decT k) ++ [chT (at_ 0 row (a : Int))] ++ rtx (row.drop (a + k)) := by
  have e0 : at_ 0 (row.drop a) 0 = at_ 0 row (a : Int) := at_drop (t := 0)
  rw [rtx_of (by simp; omega), e0, ← hk]
  rw [if_neg (fun h => hne ⟨h.1, by have := h.2; simp only [List.length_drop] at this; omega⟩), List.drop_drop]
theorem rtx_stop {a k : Nat} (ha : a < row.length) (hk : k = rN (at_ 0 row (a : Int)) (row.drop a)) (h : at_ 0 row (a : Int) = 0 ∧ a + k = row.length) : rtx (row.drop a) = [] := by
  have e0 : at_ 0 (row.drop a) 0 = at_ 0 row (a : Int) := at_drop (t := 0)
  rw [rtx_of (by simp; omega), e0, ← hk]
  rw [if_pos ⟨h.1, by simp only [List.length_drop]; omega⟩]
/-- How far a run has been looked at. -/
def runP (row : List Int) (a e : Nat) : Prop := a < e ∧ e - a ≤ rN (at_ 0 row (a : Int)) (row.drop a)
theorem run_zero {a : Nat} (ha : a < row.length) : a + 1 - a ≤ rN (at_ 0 row (a : Int)) (row.drop a) := by
  have := rN_step (x := at_ 0 row (a : Int)) (l := row.drop a) (t := 0) (by omega) (by simp; omega) (at_drop (t := 0))
  omega
theorem run_next {a e : Nat} (hae : a ≤ e) (h : e - a ≤ rN (at_ 0 row (a : Int)) (row.drop a)) (he : e < row.length) (hx : at_ 0 row (e : Int) = at_ 0 row (a : Int)) : e + 1 - a ≤ rN (at_ 0 row (a : Int)) (row.drop a) := by
  have := rN_step (t := e - a) h (by simp; omega) (by rw [at_drop, show a + (e - a) = e by omega]; exact hx)
  omega
theorem run_end {a e : Nat} (hae : a ≤ e) (h : e - a ≤ rN (at_ 0 row (a : Int)) (row.drop a)) (he : e ≤ row.length) (hx : e = row.length ∨ at_ 0 row (e : Int) ≠ at_ 0 row (a : Int)) : e - a = rN (at_ 0 row (a : Int)) (row.drop a) := by
  refine rN_end h ?_
  rcases hx with hx | hx
  · exact .inl (by simp; omega)
  · exact .inr (by rw [at_drop, show a + (e - a) = e by omega]; exact hx)
theorem run_pos {a : Nat} (ha : a < row.length) : 1 ≤ rN (at_ 0 row (a : Int)) (row.drop a) ∧ a + rN (at_ 0 row (a : Int)) (row.drop a) ≤ row.length := by
  have := run_zero ha
  have := rN_le (at_ 0 row (a : Int)) (row.drop a)
  simp only [List.length_drop] at this
  omega
/-- The end of a row without the zeros behind it. -/
def endP (row : List Int) (e : Nat) : Prop := e ≤ row.length ∧ ∀ j, e ≤ j → j < row.length → at_ 0 row (j : Int) = 0
theorem endP_rtx {e : Nat} (h : endP row e) : rtx (row.drop e) = [] := rtx_zero (fun t ht => by
  rw [at_drop]
  exact h.2 _ (by omega) (by simp only [List.length_drop] at ht; omega))
/-- A run within a row that is cut so. -/
theorem run_cut {a e k : Nat} (h : endP row e) (hl : 0 < e → at_ 0 row ((e - 1 : Nat) : Int) ≠ 0) (ha : a < e) (k1 : 1 ≤ k) (hk : k ≤ rN (at_ 0 row (a : Int)) (row.drop a)) (hke : a + k ≤ e) (hx : a + k = e ∨ at_ 0 row ((a + k : Nat) : Int) ≠ at_ 0 row (a : Int)) :
    k = rN (at_ 0 row (a : Int)) (row.drop a) ∧ ¬ (at_ 0 row (a : Int) = 0 ∧ a + k = row.length) := by
  have hlast : a + k = e → at_ 0 row (a : Int) ≠ 0 := fun he h0 => by
    have h1 := rN_at (x := at_ 0 row (a : Int)) (l := row.drop a) (t := k - 1) (by omega)
    rw [at_drop, show a + (k - 1) = e - 1 by omega] at h1
    exact hl (by omega) (h1.trans h0)
  have e1 := run_end (a := a) (e := a + k) (by omega) (by rw [show a + k - a = k by omega]; exact hk) (by have := h.1; omega) (by
    rcases hx with hx | hx
    · rcases Nat.lt_or_ge (a + k) row.length with h2 | h2
      · right
        rw [h.2 (a + k) (by omega) h2]
        exact fun h3 => hlast hx h3.symm
      · left; have := h.1; omega
    · exact .inr hx)
  refine ⟨by omega, fun hh => ?_⟩
  rcases hx with hx | hx
  · exact hlast hx hh.1
  · have := h.1
    have : a + k = e := by omega
    exact hlast this hh.1
end
/-- Texts with another one between them. -/
def joinT (sep : List UInt8) : List (List UInt8) → List UInt8
  | [] => []
  | a :: r => a ++ r.flatMap (sep ++ ·)
theorem joinT_snoc (sep : List UInt8) (x : List UInt8) : ∀ ls : List (List UInt8), ls ≠ [] → joinT sep (ls ++ [x]) = joinT sep ls ++ sep ++ x
  | [], h => absurd rfl h
  | a :: r, _ => by simp [joinT]
end Go.Proofs.YthocjpfibegjcaaGreatDoor
/- Rules for contracts that are told once. -/
namespace Go.Proofs.YthocjpfibegjcaaGreatDoor.HL
theorem keq {K : Value → Hp → Prop} {v v' : Value} {H : Hp} (e : v = v') (h : K v' H) : K v H := e ▸ h
theorem Own.cast {α : Type} {enc : α → Value} {H : Hp} {v : Value} {l l' : List α} (e : l = l') (h : Own enc H v l) : Own enc H v l' := e ▸ h
theorem Sl.cast {α : Type} {enc : α → Value} {H : Hp} {v : Value} {l l' : List α} (e : l = l') (h : Sl enc H v l) : Sl enc H v l' := e ▸ h
/-- A slice that reads so, and whose block is known. -/
def Ro {α : Type} (enc : α → Value) (H : Hp) (v : Value) (l : List α) : Prop := Sl enc H v l ∧ ∀ b, bk v = some b → ∃ o, H b = some o
section
variable {α : Type} {enc : α → Value} {H H' : Hp} {u v : Value} {l l' : List α}
theorem Ro.sl (h : Ro enc H v l) : Sl enc H v l := h.1
theorem Ro.known (h : Ro enc H v l) : ∀ b, bk v = some b → ∃ o, H b = some o := h.2
theorem Ro.le (h : Ro enc H v l) (hl : Le H H') : Ro enc H' v l := ⟨h.1.le hl, fun b hb => by obtain ⟨o, ho⟩ := h.2 b hb; exact ⟨o, hl b o ho⟩⟩
theorem Sl.off (h : Sl enc H u l) (ho : Off v H H') (ha : Apart u v) : Sl enc H' u l := by
  obtain ⟨a, c, rfl, hc, hr⟩ := h
  refine ⟨a, c, rfl, hc, fun i hi => ?_⟩
  obtain ⟨ad, rfl, hh⟩ := hr i hi
  refine ⟨ad, rfl, ?_⟩
  have hb : (ad.add i).block = ad.block := by unfold Addr.add; split <;> rfl
  have hne : bk v ≠ some ad.block := ha ad.block (by simp only [bk]; rw [if_neg (by omega)])
  unfold Hp.cell? at hh ⊢
  rw [hb] at hh ⊢
  cases hc' : H ad.block with
  | none => simp [hc'] at hh
  | some o => rw [ho _ _ hc' hne]; rw [hc'] at hh; exact hh
theorem Ro.off (h : Ro enc H u l) (ho : Off v H H') (ha : Apart u v) : Ro enc H' u l := ⟨h.1.off ho ha, fun b hb => by obtain ⟨o, hh⟩ := h.2 b hb; exact ⟨o, ho b o hh (ha b hb)⟩⟩
theorem Ro.apart (h : Ro enc H u l) (hn : Nw H v) : Apart u v := Apart.of_nw h.2 hn
theorem Ro.cast (e : l = l') (h : Ro enc H v l) : Ro enc H v l' := e ▸ h
theorem Ro.len (h : Ro enc H v l) : vLenSl v = some (.int .i64 l.length) := h.1.len
theorem Ro.one (h : Ro enc H v l) : oneCell v = true := h.1.one
theorem Ro.cells (h : Ro enc H v l) : v.cells = #[v] := h.1.cells
theorem Ro.isSl (h : Ro enc H v l) : ∃ a n c, v = .slice a n c := h.1.isSl
theorem Own.ro (h : Own enc H v l) : Ro enc H v l := ⟨h.sl, h.known⟩
theorem Ro.of_sl (h : Sl enc H v l) (hn : 0 < l.length) : Ro enc H v l := by
  refine ⟨h, ?_⟩
  obtain ⟨a, c, rfl, hc, hr⟩ := h
  intro b hb
  obtain ⟨ad, rfl, hh⟩ := hr 0 hn
  simp only [bk, if_neg (by omega : ¬ c = 0), Option.some.injEq] at hb
  subst hb
  unfold Hp.cell? at hh
  have hb : (ad.add 0).block = ad.block := by unfold Addr.add; split <;> rfl
  rw [hb] at hh
  cases hc' : H ad.block with
  | none => simp [hc'] at hh
  | some o => exact ⟨o, rfl⟩
end
theorem gop_u {b : Bool} {F : (Value → Hp → Prop) → Prop} {H : Hp} {K : Value → Hp → Prop} (h : K undef H) : gop undef b F H K := h
theorem vUn_ngK {a : Int} (h : -9223372036854775808 ≤ -a) (h' : -a < 9223372036854775808) : vUn .neg (.int .i64 a) = some (.int .i64 (-a)) := by
  simp only [vUn, Int.zero_sub, wrap64 h h']
theorem gop_e {b c g : Bool} {F : (Value → Hp → Prop) → Prop} {H : Hp} {K : Value → Hp → Prop} (e : b = c) (h : gop (.bool c) g F H K) : gop (.bool b) g F H K := by rw [e]; exact h
theorem cnd_e {b c : Bool} {A B : Prop} (e : b = c) (h : cnd (.bool c) A B) : cnd (.bool b) A B := by rw [e]; exact h
theorem vPick_et {b : Bool} (e : b = true) (x y : Value) : vPick (.bool b) x y = some x := by rw [e]; rfl
theorem vPick_ef {b : Bool} (e : b = false) (x y : Value) : vPick (.bool b) x y = some y := by rw [e]; rfl
/-- A number, or 0 where something does not hold. -/
def selI (p : Prop) [Decidable p] (x : Int) : Int := if p then x else 0
/-- A list, or none where something does not hold. -/
def selL {α : Type} (p : Prop) [Decidable p] (l : List α) : List α := if p then l else []
theorem selI_t {p : Prop} [Decidable p] {x : Int} (h : p) : selI p x = x := if_pos h
theorem selI_f {p : Prop} [Decidable p] {x : Int} (h : ¬ p) : selI p x = 0 := if_neg h
theorem selL_t {α : Type} {p : Prop} [Decidable p] {l : List α} (h : p) : selL p l = l := if_pos h
theorem selL_f {α : Type} {p : Prop} [Decidable p] {l : List α} (h : ¬ p) : selL p l = [] := if_neg h
theorem selL_len {α : Type} {p : Prop} [Decidable p] {l : List α} {n : Nat} (h : p → l.length ≤ n) : (selL p l).length ≤ n := by
  unfold selL
  split
  · rename_i hp; exact h hp
  · simp
end Go.Proofs.YthocjpfibegjcaaGreatDoor.HL
/- Structs that lie in cells of their own: what is read, what is written. -/
namespace Go.Proofs.YthocjpfibegjcaaGreatDoor.HL

/-- A pointer to a block of its own, whose cells are these. -/
def Cel (H : Hp) (p : Value) (cs : List Value) : Prop := ∃ r e, p = .pointer (some ⟨r, 0, none⟩) ∧ H r = some (.cells cs.toArray e (0, 0))
/-- The pointer to a field's first cell. -/
def fp (p : Value) (k : Nat) : Value := match p with | .pointer (some a) => .pointer (some (a.add k)) | _ => undef

theorem oc0 : ∀ x ∈ ([] : List Value), oneCell x = true := fun x hx => absurd hx (by simp)
theorem oc1 {a : Value} {l : List Value} (h : oneCell a = true) (t : ∀ x ∈ l, oneCell x = true) : ∀ x ∈ a :: l, oneCell x = true := fun x hx => by
  rcases List.mem_cons.mp hx with rfl | hx
  · exact h
  · exact t x hx
section
variable {H H' : Hp} {p u v : Value} {cs : List Value}
theorem Cel.le (h : Cel H p cs) (hl : Le H H') : Cel H' p cs := by
  obtain ⟨r, e, rfl, hr⟩ := h
  exact ⟨r, e, rfl, hl _ _ hr⟩
theorem Cel.off (h : Cel H p cs) (ho : Off v H H') (ha : Apart p v) : Cel H' p cs := by
  obtain ⟨r, e, rfl, hr⟩ := h
  exact ⟨r, e, rfl, ho _ _ hr (ha r rfl)⟩
theorem Cel.known (h : Cel H p cs) : ∀ b, bk p = some b → ∃ o, H b = some o := by
  obtain ⟨r, e, rfl, hr⟩ := h
  intro b hb
  simp only [bk, Option.some.injEq] at hb
  subst hb
  exact ⟨_, hr⟩
theorem Cel.apart (h : Cel H p cs) (hn : Nw H v) : Apart p v := Apart.of_nw h.known hn
theorem nw_i {cells : Array Value} {e : TypeId} {K : Value → Hp → Prop} (hk : ∀ p H', Cel H' p cells.toList → Nw H p → Le H H' → K p H') : nw cells e H K := by
  intro r hr
  refine hk _ _ ⟨r, e, rfl, by rw [Hp.put_same]⟩ ?_ (Le.put _ hr)
  intro b hb
  simp only [bk, Option.some.injEq] at hb
  subst hb
  exact hr
theorem Cel.fa (h : Cel H p cs) (k : Nat) : vFa k p = some (fp p k) := by
  obtain ⟨r, e, rfl, hr⟩ := h; rfl
theorem Cel.nilC (h : Cel H p cs) : vNilC p = some p := by
  obtain ⟨r, e, rfl, hr⟩ := h; rfl
theorem Cel.ld (h : Cel H p cs) (k : Nat) {x : Value} (hx : cs[k]? = some x) : vLoad (fp p k) H = some x := by
  obtain ⟨r, e, rfl, hr⟩ := h
  simp only [fp, vLoad, add_none, Hp.cell?, hr, Nat.zero_add]
  simpa using hx
theorem Cel.ld0 (h : Cel H p cs) {x : Value} (hx : cs[0]? = some x) : vLoad p H = some x := by
  obtain ⟨r, e, rfl, hr⟩ := h
  simp only [vLoad, Hp.cell?, hr]
  simpa using hx
theorem Cel.ldn (h : Cel H p cs) {n : Nat} (hn : cs.length = n) : vLoadN n p H = some (.agg cs.toArray) := by
  obtain ⟨r, e, rfl, hr⟩ := h
  simp only [vLoadN]
  rw [rd_cells (enc := id) ⟨r, 0, none⟩ n 0 cs hn (fun i hi => by
    simp only [add_none, Hp.cell?, hr, Nat.zero_add]
    simp [hi])]
  simp
theorem Cel.st (h : Cel H p cs) {k : Nat} {x : Value} {K : Hp → Prop} (hk : k < cs.length) (ho : oneCell x = true) (hz : x.cells = #[x]) (hK : ∀ H', Cel H' p (cs.set k x) → Off p H H' → K H') : st 1 (fp p k) x H K := by
  obtain ⟨r, e, rfl, hr⟩ := h
  simp only [HL.st, fp, add_none, Nat.zero_add, hz, List.toList_toArray, List.size_toArray, List.length_singleton, true_and, stC, Nat.add_zero]
  refine ⟨ho, ?_, ?_, ?_⟩
  · simp only [Hp.cell?, hr]; simp [hk]
  · simp only [Hp.frozen?, hr]; simp
  · refine hK _ ⟨r, e, rfl, ?_⟩ ?_
    · simp only [Hp.setCell, hr, Hp.put_same]; simp
    · intro b o hb hv
      simp only [bk, ne_eq, Option.some.injEq] at hv
      simp only [Hp.setCell, hr]
      rw [Hp.put_ne _ _ (Ne.symm hv)]
      exact hb
theorem Cel.st0 (h : Cel H p cs) {x : Value} {K : Hp → Prop} (hk : 0 < cs.length) (ho : oneCell x = true) (hz : x.cells = #[x]) (hK : ∀ H', Cel H' p (cs.set 0 x) → Off p H H' → K H') : HL.st 1 p x H K := by
  have : p = fp p 0 := by obtain ⟨r, e, rfl, hr⟩ := h; simp [fp, add_none]
  have h2 := h.st (K := K) hk ho hz hK
  rwa [← this] at h2
theorem Cel.stn (h : Cel H p cs) {ws : List Value} {n : Nat} {K : Hp → Prop} (hn : ws.length = n) (hl : cs.length = n) (ho : ∀ x ∈ ws, oneCell x = true) (hK : ∀ H', Cel H' p ws → Off p H H' → K H') : HL.st n p (.agg ws.toArray) H K := by
  obtain ⟨r, e, rfl, hr⟩ := h
  simp only [HL.st, Value.cells, List.size_toArray, hn, true_and]
  refine stC_run (b := r) (e := e) ws _ 0 cs.toArray H rfl rfl hr (by simp; omega) ho ?_
  intro H' cs' h1 h2 h3 h4 h5
  refine hK H' ⟨r, e, rfl, ?_⟩ ?_
  · rw [h1]
    have : cs' = ws.toArray := by
      apply Array.ext_getElem?
      intro i
      by_cases hi : i < ws.length
      · have := h4 i hi
        simp only [Nat.zero_add] at this
        rw [this]; simp [hi]
      · rw [Array.getElem?_eq_none (by rw [h2]; simp; omega), Array.getElem?_eq_none (by simp; omega)]
    rw [this]
  · intro b o hb hv
    simp only [bk, ne_eq, Option.some.injEq] at hv
    rw [h5 b (Ne.symm hv)]; exact hb
end
end Go.Proofs.YthocjpfibegjcaaGreatDoor.HL
/- Lists of truths: copies, and what is alike; lengths that are paid for. -/
namespace Go.Proofs.YthocjpfibegjcaaGreatDoor
open HL
set_option maxRecDepth 100000
theorem C.laws_szInt64S {a : Value} {n : Nat} {k : Int} {H : Hp} {K : Value → Hp → Prop} (ha : vLenSl a = some (.int .i64 n)) (h0 : 0 ≤ k) (hn : (n : Int) ≤ 9223372036854775807)  (h1 : k - n < 0 → K (.int .i64 (-1)) H) (h2 : 0 ≤ k - n → K (.int .i64 (k - n)) H) (hk : k < 9223372036854775808 := by omega) :
    HT prg I.laws_szInt64S [a, .int .i64 k].toArray H K := by
  refine R.laws_szInt64S ?_
  unfold F.laws_szInt64S
  rw [ha, ob_some, vInt_sub (by omega) (by omega), ob_some, vInt_lss, ob_some]
  exact cnd_d (fun h => h1 h) (fun h => h2 (by omega))
end Go.Proofs.YthocjpfibegjcaaGreatDoor
/- Rules for the walks that a program writes. -/
namespace Go.Proofs.YthocjpfibegjcaaGreatDoor.HL
theorem ob_dd {p : Prop} [Decidable p] {x : Option Value} {K : Value → Prop} (h : x = some (.bool (decide p))) (h1 : p → K (.bool true)) (h2 : ¬ p → K (.bool false)) : ob x K := by
  rw [h, ob_some]
  by_cases c : p
  · rw [decide_eq_true c]; exact h1 c
  · rw [decide_eq_false c]; exact h2 c
theorem ob_nd {p : Prop} [Decidable p] {K : Value → Prop} (h1 : p → K (.bool false)) (h2 : ¬ p → K (.bool true)) : ob (vUn .not (.bool (decide p))) K := by
  rw [vUn_not, ob_some]
  by_cases c : p
  · rw [decide_eq_true c]; exact h1 c
  · rw [decide_eq_false c]; exact h2 c
theorem vMx_max (k : IntKind) (a b : Int) : vMx true (.int k a) [.int k b] = some (.int k (max a b)) := by
  simp only [vMx]; congr 2; split <;> omega
theorem vMx_min (k : IntKind) (a b : Int) : vMx false (.int k a) [.int k b] = some (.int k (min a b)) := by
  simp only [vMx]; congr 2; split <;> omega
theorem vInt_quoN {a b : Int} (ha : 0 ≤ a) (ha' : a < 9223372036854775808) (hb : 0 < b) : vInt .quo (.int .i64 a) (.int .i64 b) = some (.int .i64 (a / b)) := by
  rw [vInt_quo hb (by omega) ha', Int.tdiv_eq_ediv_of_nonneg ha]
theorem vInt_remN {a b : Int} (ha : 0 ≤ a) (hb : 0 < b) : vInt .rem (.int .i64 a) (.int .i64 b) = some (.int .i64 (a % b)) := by
  rw [vInt_rem (by omega), Int.tmod_eq_emod_of_nonneg ha]
theorem Apart.ap2 {H : Hp} {x u u' : Value} (hx : ∀ b, bk x = some b → ∃ o, H b = some o) (ha : Apart x u) (hb : ∀ b, bk u' = some b → bk u = some b ∨ H b = none) : Apart x u' := fun b h1 h2 => by
  rcases hb b h2 with h | h
  · exact ha b h1 h
  · obtain ⟨o, ho⟩ := hx b h1; rw [h] at ho; simp at ho
theorem Nw.ap2 {H0 H : Hp} {u u' : Value} (hn : Nw H0 u) (hl : Le H0 H) (hb : ∀ b, bk u' = some b → bk u = some b ∨ H b = none) : Nw H0 u' := fun b h => by
  rcases hb b h with h1 | h1
  · exact hn b h1
  · cases ho : H0 b with
    | none => rfl
    | some o => rw [hl b o ho] at h1; simp at h1
theorem apd_any {α : Type} {enc : α → Value} {z : Value} {b : Nat} {e : TypeId} {u t : Value} {l m : List α} {H : Hp} {K : Value → Hp → Prop} (o : Own enc H u l) (ot : Sl enc H t m) (ho : ∀ x, oneCell (enc x) = true) (hb : b ≤ 64) (hl : l.length + m.length ≤ 68719476736)
    (hk : ∀ u' H', Own enc H' u' (l ++ m) → Off u H H' → (∀ b, bk u' = some b → bk u = some b ∨ H b = none) → K u' H') : apd 1 b #[z] e u t H K := by
  refine o.apd ot ho (by omega) (fun c hc => ?_) hk
  have := nsc_le hc
  exact Nat.le_trans (Nat.mul_le_mul this hb) (by omega)
end Go.Proofs.YthocjpfibegjcaaGreatDoor.HL
/- Parts of slices; slices that are put together. -/
namespace Go.Proofs.YthocjpfibegjcaaGreatDoor
open HL
set_option maxRecDepth 100000
namespace HL
theorem Sl.cut {α : Type} {enc : α → Value} {H : Hp} {v : Value} {l : List α} (h : Sl enc H v l) {lo hi : Int} (h0 : 0 ≤ lo) (h1 : lo ≤ hi) (h2 : hi ≤ l.length) :
    ∃ x, vSl3 1 v (some (.int .i64 lo)) (some (.int .i64 hi)) none = some x ∧ (hi = l.length → vSl3 1 v (some (.int .i64 lo)) none none = some x) ∧ (lo = 0 → vSl3 1 v none (some (.int .i64 hi)) none = some x) ∧ (lo = 0 → hi = l.length → vSl3 1 v none none none = some x) ∧
      Sl enc H x ((l.drop lo.toNat).take (hi.toNat - lo.toNat)) ∧ (∀ b, bk x = some b → bk v = some b) := by
  obtain ⟨a, c, rfl, hc, hr⟩ := h
  have e1 : bnd (some (.int .i64 hi)) c l.length = some hi.toNat := by simp only [bnd]; rw [if_pos ⟨by omega, by omega⟩]
  have e2 : bnd (some (.int .i64 lo)) hi.toNat 0 = some lo.toNat := by simp only [bnd]; rw [if_pos ⟨by omega, by omega⟩]
  have e3 : bnd none c l.length = some l.length := rfl
  refine ⟨.slice (if c = lo.toNat then a else a.map (·.add (lo.toNat * 1))) (hi.toNat - lo.toNat) (c - lo.toNat), ?_, ?_, ?_, ?_, ?_, ?_⟩
  · simp only [vSl3, vSl, e1, e2]
  · intro e
    subst e
    have e2' : bnd (some (.int .i64 lo)) l.length 0 = some lo.toNat := by simpa using e2
    simp only [vSl3, vSl, e3, e2', Int.toNat_natCast]
  · intro e
    subst e
    simp only [vSl3, vSl, e1]; rfl
  · intro e e'
    subst e e'
    simp only [vSl3, vSl, e3, Int.toNat_natCast]; rfl
  · have hl : ((l.drop lo.toNat).take (hi.toNat - lo.toNat)).length = hi.toNat - lo.toNat := by simp; omega
    refine ⟨_, _, by rw [hl], by rw [hl]; omega, fun i hi' => ?_⟩
    rw [hl] at hi'
    obtain ⟨ad, rfl, hh⟩ := hr (lo.toNat + i) (by omega)
    rw [if_neg (by omega)]
    refine ⟨ad.add (lo.toNat * 1), rfl, ?_⟩
    have e4 : (ad.add (lo.toNat * 1)).add i = ad.add (lo.toNat + i) := by
      rw [Nat.mul_one]
      unfold Addr.add
      by_cases hx : lo.toNat = 0
      · rw [if_pos hx, hx, Nat.zero_add]
      · by_cases hy : i = 0
        · subst hy; simp
        · rw [if_neg hx, if_neg hy, if_neg (by omega)]; simp [Nat.add_assoc]
    rw [e4, hh]
    simp
  · intro b hb
    by_cases hcl : c = lo.toNat
    · rw [if_pos hcl] at hb
      cases a with
      | none => simp [bk] at hb
      | some ad => simp only [bk] at hb; rw [if_pos (by omega)] at hb; simp at hb
    · rw [if_neg hcl] at hb
      cases a with
      | none => simp [bk] at hb
      | some ad =>
        have hbl : ∀ k, (ad.add k).block = ad.block := fun k => by unfold Addr.add; split <;> rfl
        simp only [Option.map_some, bk] at hb ⊢
        split at hb
        · simp at hb
        · rw [if_neg (by omega)]; rw [hbl] at hb; exact hb
end HL
end Go.Proofs.YthocjpfibegjcaaGreatDoor
/- Ranges over functions: a rule by an invariant; slices.Chunk. -/
namespace Go.Proofs.YthocjpfibegjcaaGreatDoor
open HL
set_option maxRecDepth 100000
namespace HL
/-- A range over an iterator that gives N times something: what holds ahead of each round. -/
theorem rgE_i {fv : Value} {ps : List Nat} {body : (Exit → S → Hp → Prop) → S → Hp → Prop} {Q : Exit → S → Hp → Prop} {σ : S} {H : Hp} (N : Nat) (arg : Nat → List Value) (I : Nat → Hp → Prop) (hfv : match fv with | .func (.func _) _ _ => True | _ => False) (hps : ∀ t, (arg t).length = ps.length) (h0 : I 0 H)
    (hb : ∀ t A σ' (Q' : Exit → S → Hp → Prop), t < N → σ' = ups σ ps (arg t) → (∀ σ'' B, I (t + 1) B → Q' .normal σ'' B) → (∀ σ'' B, Q .ret σ B → Q' .ret σ'' B) → (∀ id σ'' B, Q (.exit id) σ B → Q' (.exit id) σ'' B) → I t A → body Q' σ' A)
    (hend : ∀ A, I N A → Q .normal σ A)
    (hcall : ∀ (yv : Value) (J : Nat → Hp → Prop) (St : Hp → Prop) (H1 : Hp) (K : Value → Hp → Prop), (∀ t A, J t A → ∃ A' b o, A = A'.put b o ∧ A' b = none ∧ I t A') → J 0 H1 →
      (∀ t A (Z : Value → Hp → Prop), t < N → J t A → (∀ B, J (t + 1) B → Z (.bool true) B) → (∀ B, St B → Z (.bool false) B) → callV prg yv (arg t) A Z) → (∀ A, J N A → K (.tuple #[]) A) → (∀ A, St A → K (.tuple #[]) A) → callV prg fv [yv] H1 K) :
    rgE prg fv ps body Q σ H := by
  refine ⟨hfv, fun l X hl hy => ?_⟩
  refine hcall _ (fun t A => ∃ A', A = A'.put l (X none) ∧ A' l = none ∧ I t A') (fun A => ∃ A' j, A = A'.put l (X j) ∧ A' l = none ∧ jmpQ Q σ A' j) _ _ ?_ ⟨H, rfl, hl, h0⟩ ?_ ?_ ?_
  · rintro t A ⟨A', rfl, hn, hI⟩
    exact ⟨A', l, X none, rfl, hn, hI⟩
  · rintro t A Z ht ⟨A', rfl, hn, hI⟩ hT hF
    refine hy (arg t) A' Z (hps t) hn (hb t A' _ _ ht rfl (fun σ'' B hB hBl => ?_) (fun σ'' B hB hBl => ?_) (fun id σ'' B hB hBl => ?_) hI)
    · exact hT _ ⟨B, rfl, hBl, hB⟩
    · exact hF _ ⟨B, some .ret, rfl, hBl, hB⟩
    · exact hF _ ⟨B, some (.exit id), rfl, hBl, hB⟩
  · rintro A ⟨A', rfl, hn, hI⟩
    exact ⟨A', none, rfl, hn, hend A' hI⟩
  · rintro A ⟨A', j, rfl, hn, hj⟩
    exact ⟨A', j, rfl, hn, hj⟩
/-- A piece of a slice, with no room behind it. -/
def chV (v : Value) (lo c : Nat) : Value := (vSl3 1 v (some (.int .i64 (lo : Int))) (some (.int .i64 ((lo : Int) + (c : Int)))) (some (.int .i64 ((lo : Int) + (c : Int))))).getD undef
theorem chV_sl {α : Type} {enc : α → Value} {H : Hp} {v : Value} {l : List α} (h : Sl enc H v l) {lo c : Nat} (h1 : lo + c ≤ l.length) :
    vSl3 1 v (some (.int .i64 (lo : Int))) (some (.int .i64 ((lo : Int) + (c : Int)))) (some (.int .i64 ((lo : Int) + (c : Int)))) = some (chV v lo c) ∧ Sl enc H (chV v lo c) ((l.drop lo).take c) := by
  obtain ⟨a, k, rfl, hc, hr⟩ := h
  have e0 : bnd (some (.int .i64 ((lo : Int) + (c : Int)))) k k = some (lo + c) := by simp only [bnd]; rw [if_pos ⟨by omega, by omega⟩]; congr 1
  have e1 : bnd (some (.int .i64 ((lo : Int) + (c : Int)))) (lo + c) (lo + c) = some (lo + c) := by simp only [bnd]; rw [if_pos ⟨by omega, by omega⟩]; congr 1
  have e2 : bnd (some (.int .i64 (lo : Int))) (lo + c) 0 = some lo := by simp only [bnd]; rw [if_pos ⟨by omega, by omega⟩]; simp
  have e : vSl3 1 (.slice a l.length k) (some (.int .i64 (lo : Int))) (some (.int .i64 ((lo : Int) + (c : Int)))) (some (.int .i64 ((lo : Int) + (c : Int)))) = some (.slice (if lo + c = lo then a else a.map (·.add (lo * 1))) (lo + c - lo) (lo + c - lo)) := by
    simp only [vSl3, e0, e1, e2]
  refine ⟨by unfold chV; rw [e]; rfl, ?_⟩
  unfold chV
  rw [e]
  show Sl enc H (.slice _ _ _) _
  have hl : ((l.drop lo).take c).length = c := by simp; omega
  refine ⟨_, _, by rw [hl]; congr 1; omega, by rw [hl]; omega, fun i hi' => ?_⟩
  rw [hl] at hi'
  obtain ⟨ad, rfl, hh⟩ := hr (lo + i) (by omega)
  rw [if_neg (by omega)]
  refine ⟨ad.add (lo * 1), rfl, ?_⟩
  have e4 : (ad.add (lo * 1)).add i = ad.add (lo + i) := by
    rw [Nat.mul_one]
    unfold Addr.add
    by_cases hx : lo = 0
    · rw [if_pos hx, hx, Nat.zero_add]
    · by_cases hy : i = 0
      · subst hy; simp
      · rw [if_neg hx, if_neg hy, if_neg (by omega)]; simp [Nat.add_assoc]
  rw [e4, hh]
  simp
theorem chV_isSl {α : Type} {enc : α → Value} {H : Hp} {v : Value} {l : List α} (h : Sl enc H v l) {lo c : Nat} (h1 : lo + c ≤ l.length) : (chV v lo c).cells = #[chV v lo c] := by
  obtain ⟨a, k, he, _⟩ := (chV_sl h h1).2
  rw [he]; rfl
end HL
/-- A row of a list. -/
def rowL (c : Nat) (l : List Int) (i : Nat) : List Int := (l.drop (i * c)).take c
theorem rowL_len {c r : Nat} {l : List Int} (hl : l.length = r * c) {i : Nat} (hi : i < r) : (rowL c l i).length = c := by
  unfold rowL
  have := Nat.mul_le_mul_right c (show i + 1 ≤ r by omega)
  rw [Nat.add_mul, Nat.one_mul] at this
  simp; omega
theorem C.slices_Chunk {vc : Value} {l : List Int} {n : Int} {H : Hp} {K : Value → Hp → Prop} (hv : Sl eI H vc l) (hn : 1 ≤ n)
    (hk : ∀ ps pn H', Cel H' ps [vc] → Cel H' pn [.int .i64 n] → Nw H ps → Nw H pn → Apart ps pn → Le H H' → K (.func (.func I.slices_Chunk_int64Zint64Z1) #[] #[ps, pn]) H') :
    HT prg I.slices_Chunk_int64Zint64 [vc, .int .i64 n].toArray H K := by
  refine R.slices_Chunk_int64Zint64 ?_
  unfold F.slices_Chunk_int64Zint64
  rw [hv.cells]
  refine nw_i (fun ps H2 ops nps le2 => ?_)
  refine nw_i (fun pn H4 opn npn le4 => ?_)
  refine ob_i (opn.ld0 rfl) ?_
  refine ob_i (vInt_lss _ _ _) ?_
  rw [decide_eq_false (show ¬ n < 1 by omega)]
  refine cnd_f1 ?_
  exact hk ps pn H4 (ops.le le4) opn nps (npn.le le2) (ops.apart npn) (le2.trans le4)
theorem C.slices_ChunkZ1 {yv ps pn vc : Value} {l : List Int} {c r : Nat} {H0 H : Hp} {K : Value → Hp → Prop} {J : Nat → Hp → Prop} {St : Hp → Prop} (hv : Sl eI H0 vc l) (hl : l.length = r * c) (c1 : 1 ≤ c) (c2 : c ≤ 1000000) (l2 : l.length ≤ 1000000)
    (hb : ∀ t A, J t A → Cel A ps [vc] ∧ Cel A pn [.int .i64 (c : Int)]) (h0 : J 0 H)
    (hst : ∀ t A (Z : Value → Hp → Prop), t < r → J t A → (∀ B, J (t + 1) B → Z (.bool true) B) → (∀ B, St B → Z (.bool false) B) → callV prg yv [chV vc (t * c) c] A Z)
    (hk : ∀ A, J r A → K (.tuple #[]) A) (hs : ∀ A, St A → K (.tuple #[]) A) :
    HT prg I.slices_Chunk_int64Zint64Z1 [yv, ps, pn].toArray H K := by
  refine R.slices_Chunk_int64Zint64Z1 ?_
  unfold F.slices_Chunk_int64Zint64Z1
  refine ⟨fun n σ H' => ∃ t : Nat, n = r - t ∧ t ≤ r ∧ σ 0 = yv ∧ σ 1 = ps ∧ σ 2 = pn ∧ σ 4 = .int .i64 ((t * c : Nat) : Int) ∧ J t H', ⟨_, 0, rfl, by omega, rfl, rfl, rfl, congrArg (Value.int .i64) (by simp), h0⟩, ?_⟩
  rintro n σ H1 ⟨t, rfl, ht, g0, g1, g2, g4, hJ⟩
  simp only [g0, g1, g2, g4]
  obtain ⟨ops, opn⟩ := hb t H1 hJ
  refine ob_i (ops.ld0 rfl) ?_
  refine ob_i hv.len ?_
  refine ob_i (vInt_lss _ _ _) ?_
  refine cnd_d (fun hlt => ?_) (fun hge => ?_)
  · have htr : t < r := Nat.lt_of_not_le fun hh => by
      have := Nat.mul_le_mul_right c hh
      omega
    have hm := Nat.mul_le_mul_right c (show t + 1 ≤ r by omega)
    rw [Nat.add_mul, Nat.one_mul] at hm
    refine ob_i (opn.ld0 rfl) ?_
    refine ob_i (ops.ld0 rfl) ?_
    obtain ⟨x, _, hx2, _, _, hx5, _⟩ := hv.cut (lo := ((t * c : Nat) : Int)) (hi := (l.length : Int)) (by omega) (by omega) (by omega)
    refine ob_i (hx2 rfl) ?_
    refine ob_i hx5.len ?_
    have hmin : vMx false (.int .i64 (c : Int)) [.int .i64 (((l.drop ((t * c : Nat) : Int).toNat).take ((l.length : Int).toNat - ((t * c : Nat) : Int).toNat)).length : Int)] = some (.int .i64 (c : Int)) := by
      simp only [vMx]
      rw [if_neg]
      rw [List.length_take, List.length_drop, Int.toNat_natCast, Int.toNat_natCast]
      omega
    refine ob_i hmin ?_
    refine ob_i (ops.ld0 rfl) ?_
    refine ob_i (vInt_add (by omega) (by omega)) ?_
    refine ob_i (vInt_add (by omega) (by omega)) ?_
    refine ob_i (chV_sl hv (lo := t * c) (c := c) (by omega)).1 ?_
    refine hst t H1 _ htr hJ (fun B hB => ?_) (fun B hB => ?_)
    · refine ob_i (a := .bool false) rfl ?_
      refine cnd_f1 ?_
      obtain ⟨ops, opn⟩ := hb _ B hB
      refine ob_i (opn.ld0 rfl) ?_
      refine ob_i (vInt_add (by omega) (by omega)) ?_
      exact nxt (r - (t + 1)) (by omega) ⟨t + 1, rfl, by omega, g0, g1, g2, congrArg (Value.int .i64) (by rw [Nat.add_mul, Nat.one_mul]; omega), hB⟩
    · refine ob_i (a := .bool true) rfl ?_
      refine cnd_t1 ?_
      exact hs B hB
  · obtain rfl : t = r := by
      have := Nat.le_antisymm ht (Nat.le_of_not_lt fun hh => by
        have hm := Nat.mul_le_mul_right c (show t + 1 ≤ r by omega)
        rw [Nat.add_mul, Nat.one_mul] at hm
        omega)
      exact this
    exact hk _ hJ
end Go.Proofs.YthocjpfibegjcaaGreatDoor
/- Maps by texts. -/
namespace Go.Proofs.YthocjpfibegjcaaGreatDoor.HL
set_option maxRecDepth 100000
def keyIs (k : ByteArray) (v : Value) : Bool := match v with | .string s => k == s | _ => false
/-- What a map has at a text: where, and what. -/
def findS (k : ByteArray) : List MapEntry → Nat → Option (Nat × Value)
  | [], _ => none
  | e :: es, i => bif keyIs k e.key then some (i, e.val) else findS k es (i + 1)
def keysS (es : List MapEntry) : Prop := ∀ e ∈ es, ∃ s, e.key = .string s
theorem findNow_s (k : ByteArray) : ∀ (es : List MapEntry) (i : Nat), keysS es → Instr.findNow .string (.string k) es i = some (findS k es i)
  | [], i, _ => rfl
  | e :: es, i, h => by
    obtain ⟨s, hs⟩ := h e (by simp)
    have ih := findNow_s k es (i + 1) (fun x hx => h x (by simp [hx]))
    unfold Instr.findNow findS
    rw [hs]
    simp only [Instr.sameNow, keyIs]
    cases e1 : (k == s) with
    | true => rfl
    | false => exact ih
theorem val_checkKey (P : Program) (b : Bool) (n : Nat) (t : TypeId) (k : ByteArray) (H : Hp) (ht : P.underlying t = some .string) : val P (Instr.checkKey b (n + 1) t (.string k)) H = some () := by
  unfold Instr.checkKey
  rw [val_bind', val_underlying, ht]
  rfl
theorem val_findKey (P : Program) (t : TypeId) (k : ByteArray) (es : List MapEntry) (H : Hp) (ht : P.underlying t = some .string) (hk : keysS es) : val P (Instr.findKey t (.string k) es) H = some (findS k es 0) := by
  unfold Instr.findKey
  rw [val_bind', val_underlying, ht]
  simp only [Option.bind_some]
  rw [findNow_s k es 0 hk]
  rfl
/-- A look into a map. -/
theorem hp_lookup {P : Program} {t kt et : TypeId} {r c : Nat} {es : Array MapEntry} {k : ByteArray} {z : Value} {H : Hp} {K : Value → Hp → Prop} (ht : P.underlying t = some (.map kt et)) (hk : P.underlying kt = some .string) (hz : zeroO P et = some z)
    (hr : H r = some (.map es c)) (hs : keysS es.toList) (h : K (.tuple #[match findS k es.toList 0 with | some (_, v) => v | none => z, .bool (findS k es.toList 0).isSome]) H) : hp P (Instr.lookup t (.map (some r)) (.string k) true) H K := by
  refine hp_of_val P _ H K _ ?_ h
  unfold Instr.lookup
  rw [val_bind', val_underlying, ht]
  simp only [Option.bind_some]
  rw [val_bind']
  have e1 : val P (getObj r) H = some (.map es c) := by
    show val P (Sem.getObj r Sem.pure) H = _
    simp only [val, hr]
  simp only [val_bind', e1, Option.bind_some, val_pure, val_checkKey P _ 9999 kt k H hk, val_findKey P kt k es.toList H hk hs]
  cases findS k es.toList 0 with
  | none => simp only [val_bind', val_zeroValue, hz, Option.bind_some, val_pure]; rfl
  | some x => simp only [val_pure, Option.bind_some]; rfl
/-- A new entry. -/
theorem hp_mapUpdate_new {P : Program} {t kt et : TypeId} {r c : Nat} {es : Array MapEntry} {k : ByteArray} {x : Value} {H : Hp} {K : Unit → Hp → Prop} (ht : P.underlying t = some (.map kt et)) (hk : P.underlying kt = some .string)
    (hr : H r = some (.map es c)) (hs : keysS es.toList) (hn : findS k es.toList 0 = none) (h : K () (H.put r (.map (es.push { key := .string k, val := x, born := c }) (c + 1)))) : hp P (Instr.mapUpdate t (.map (some r)) (.string k) x) H K := by
  unfold Instr.mapUpdate
  have e1 : val P (getObj r) H = some (.map es c) := by
    show val P (Sem.getObj r Sem.pure) H = _
    simp only [val, hr]
  refine hp_val_bind P _ _ H K _ (by rw [val_underlying, ht]) ?_
  refine hp_val_bind P _ _ H K _ e1 ?_
  refine hp_val_bind P _ _ H K _ (val_checkKey P _ 9999 kt k H hk) ?_
  refine hp_val_bind P _ _ H K _ (val_findKey P kt k es.toList H hk hs) ?_
  rw [hn]
  show hp P (Sem.setObj r _ (Sem.pure ())) H K
  simp only [hp, hr]
  exact h
end Go.Proofs.YthocjpfibegjcaaGreatDoor.HL
/- Slices whose elements have some cells each: what is read, what is owned. -/
namespace Go.Proofs.YthocjpfibegjcaaGreatDoor.HL
theorem add_add (a : Addr) (x y : Nat) : (a.add x).add y = a.add (x + y) := by
  unfold Addr.add
  by_cases hx : x = 0
  · subst hx; simp
  · by_cases hy : y = 0
    · subst hy; simp
    · rw [if_neg hx, if_neg hy, if_neg (by omega)]; simp [Nat.add_assoc]
theorem add_block (a : Addr) (x : Nat) : (a.add x).block = a.block := by unfold Addr.add; split <;> rfl
section
variable {α : Type} {enc : α → List Value} {n : Nat} {H H' : Hp} {u v : Value} {l m : List α}
theorem flat_len (hn : ∀ x, (enc x).length = n) : ∀ l : List α, (l.flatMap enc).length = l.length * n
  | [] => by simp
  | x :: r => by rw [List.flatMap_cons, List.length_append, hn, flat_len hn r, List.length_cons, Nat.add_mul, Nat.one_mul]; omega
theorem flat_get (hn : ∀ x, (enc x).length = n) : ∀ (l : List α) (i j : Nat) (h : i < l.length), j < n → (l.flatMap enc)[i * n + j]? = (enc l[i])[j]?
  | x :: r, 0, j, h, hj => by rw [List.flatMap_cons, Nat.zero_mul, Nat.zero_add, List.getElem?_append_left (by rw [hn]; exact hj)]; rfl
  | x :: r, i + 1, j, h, hj => by
    rw [List.flatMap_cons, List.getElem?_append_right (by rw [hn, Nat.add_mul]; omega), hn, show (i + 1) * n + j - n = i * n + j by rw [Nat.add_mul]; omega, flat_get hn r i j (by simpa using h) hj]
    rfl
theorem flat_ix {i j N : Nat} (h : i < N) (hj : j < n) : i * n + j < N * n := by
  have := Nat.mul_le_mul_right n (show i + 1 ≤ N by omega)
  rw [Nat.add_mul] at this; omega
/-- A slice of elements of n cells that reads so. -/
def SlE (n : Nat) (enc : α → List Value) (H : Hp) (v : Value) (l : List α) : Prop :=
  ∃ a c, v = .slice a l.length c ∧ l.length ≤ c ∧ ∀ t (h : t < (l.flatMap enc).length), ∃ ad, a = some ad ∧ H.cell? (ad.add t) = some (l.flatMap enc)[t]
/-- One whose block is known whole, and may be written. -/
def OwnE (n : Nat) (enc : α → List Value) (H : Hp) (v : Value) (l : List α) : Prop :=
  ∃ a c, v = .slice a l.length c ∧ l.length ≤ c ∧ (0 < c → ∃ b off cs e, a = some ⟨b, off, none⟩ ∧ H b = some (.cells cs e (0, 0)) ∧ off + c * n ≤ cs.size ∧ ∀ t (h : t < (l.flatMap enc).length), cs[off + t]? = some (l.flatMap enc)[t])
/-- The pointer to an element. -/
def ptrE (n : Nat) (v : Value) (i : Int) : Value := match v with | .slice (some a) _ _ => .pointer (some (a.add (i.toNat * n))) | _ => undef
theorem SlE.le (h : SlE n enc H v l) (hl : Le H H') : SlE n enc H' v l := by
  obtain ⟨a, c, rfl, hc, hr⟩ := h
  exact ⟨a, c, rfl, hc, fun i hi => by obtain ⟨ad, e, hh⟩ := hr i hi; exact ⟨ad, e, hl.cell hh⟩⟩
theorem SlE.len (h : SlE n enc H v l) : vLenSl v = some (.int .i64 l.length) := by
  obtain ⟨a, c, rfl, hc, hr⟩ := h; rfl
theorem SlE.base (h : SlE n enc H v l) (hn : ∀ x, (enc x).length = n) (n0 : 0 < n) {i : Nat} (hi : i < l.length) : ∃ a c, v = .slice (some a) l.length c ∧ ∀ j (hj : j < n), H.cell? (a.add (i * n + j)) = (enc l[i])[j]? := by
  obtain ⟨a, c, rfl, hc, hr⟩ := h
  have hb := flat_ix (n := n) hi n0
  obtain ⟨ad, rfl, _⟩ := hr (i * n + 0) (by rw [flat_len hn]; exact hb)
  refine ⟨ad, c, rfl, fun j hj => ?_⟩
  have hk := flat_ix (n := n) hi hj
  obtain ⟨ad', e, hh⟩ := hr (i * n + j) (by rw [flat_len hn]; exact hk)
  cases e
  rw [hh, ← flat_get hn l i j hi hj, List.getElem?_eq_getElem]
theorem SlE.ix (h : SlE n enc H v l) (hn : ∀ x, (enc x).length = n) (n0 : 0 < n) {k : IntKind} {i : Int} (h0 : 0 ≤ i) (h1 : i < l.length) : vIx n v (.int k i) = some (ptrE n v i) := by
  obtain ⟨a, c, rfl, _⟩ := h.base hn n0 (i := i.toNat) (by omega)
  simp only [vIx, ptrE]
  rw [if_pos ⟨h0, by simpa using h1⟩]
theorem SlE.ldn (h : SlE n enc H v l) (hn : ∀ x, (enc x).length = n) (n0 : 0 < n) (d : α) {i : Int} (h0 : 0 ≤ i) (h1 : i < l.length) : vLoadN n (ptrE n v i) H = some (.agg (enc (at_ d l i)).toArray) := by
  have hi : i.toNat < l.length := by omega
  obtain ⟨a, c, rfl, hr⟩ := h.base hn n0 hi
  have e : at_ d l i = l[i.toNat] := by unfold at_; rw [List.getD_eq_getElem?_getD, List.getElem?_eq_getElem hi]; rfl
  simp only [vLoadN, ptrE]
  rw [rd_cells (enc := id) _ n 0 (enc l[i.toNat]) (hn _) (fun j hj => by
    rw [add_add, Nat.zero_add, hr j (by rw [hn] at hj; exact hj), List.getElem?_eq_getElem hj]; rfl), e]
  simp
theorem SlE.fa (h : SlE n enc H v l) (hn : ∀ x, (enc x).length = n) (n0 : 0 < n) {i : Int} (h0 : 0 ≤ i) (h1 : i < l.length) (k : Nat) : vFa k (ptrE n v i) = some (fp (ptrE n v i) k) := by
  obtain ⟨a, c, rfl, _⟩ := h.base hn n0 (i := i.toNat) (by omega)
  rfl
theorem SlE.nilC (h : SlE n enc H v l) (hn : ∀ x, (enc x).length = n) (n0 : 0 < n) {i : Int} (h0 : 0 ≤ i) (h1 : i < l.length) : vNilC (ptrE n v i) = some (ptrE n v i) := by
  obtain ⟨a, c, rfl, _⟩ := h.base hn n0 (i := i.toNat) (by omega)
  rfl
theorem SlE.ld (h : SlE n enc H v l) (hn : ∀ x, (enc x).length = n) (n0 : 0 < n) (d : α) {i : Int} (h0 : 0 ≤ i) (h1 : i < l.length) {k : Nat} (hk : k < n) {x : Value} (hx : (enc (at_ d l i))[k]? = some x) : vLoad (fp (ptrE n v i) k) H = some x := by
  have hi : i.toNat < l.length := by omega
  obtain ⟨a, c, rfl, hr⟩ := h.base hn n0 hi
  have e : at_ d l i = l[i.toNat] := by unfold at_; rw [List.getD_eq_getElem?_getD, List.getElem?_eq_getElem hi]; rfl
  simp only [vLoad, fp, ptrE, add_add]
  rw [hr k hk, ← e, hx]
theorem SlE.firstC (h : SlE n enc H v l) (hn : ∀ x, (enc x).length = n) : firstC H n l.length v = some (l.flatMap enc) := by
  obtain ⟨a, c, rfl, hc, hr⟩ := h
  by_cases h0 : (l.flatMap enc).length = 0
  · have e : l.flatMap enc = [] := List.length_eq_zero_iff.mp h0
    have e2 : l.length * n = 0 := by rw [← flat_len hn]; exact h0
    cases a with
    | none => rw [e]; rfl
    | some ad => simp only [HL.firstC, e2, e]; rfl
  · obtain ⟨ad, rfl, _⟩ := hr 0 (by omega)
    simp only [HL.firstC]
    have := rd_cells (H := H) (enc := id) ad (l.length * n) 0 (l.flatMap enc) (flat_len hn l) (fun i hi => by obtain ⟨ad', e, hh⟩ := hr i hi; cases e; simpa using hh)
    rw [this]; simp
theorem SlE.lenO (h : SlE n enc H v l) : lenO v = some l.length := by
  obtain ⟨a, c, rfl, hc, hr⟩ := h; rfl
theorem OwnE.len (h : OwnE n enc H v l) : vLenSl v = some (.int .i64 l.length) := by
  obtain ⟨a, c, rfl, hc, hr⟩ := h; rfl
theorem OwnE.sl (h : OwnE n enc H v l) (hn : ∀ x, (enc x).length = n) : SlE n enc H v l := by
  obtain ⟨a, c, rfl, hc, hr⟩ := h
  refine ⟨a, c, rfl, hc, fun i hi => ?_⟩
  have h1 := flat_len hn l
  have hc0 : 0 < c := by
    rcases Nat.eq_zero_or_pos c with h | h
    · have : l.length = 0 := by omega
      rw [this, Nat.zero_mul] at h1; omega
    · exact h
  obtain ⟨b, off, cs, e, rfl, hb, hs, hcs⟩ := hr hc0
  exact ⟨_, rfl, by simp only [Hp.cell?, add_none, hb, hcs i hi]; rfl⟩
theorem OwnE.off (h : OwnE n enc H u l) (ho : Off v H H') (ha : Apart u v) : OwnE n enc H' u l := by
  obtain ⟨a, c, rfl, hc, hr⟩ := h
  refine ⟨a, c, rfl, hc, fun h0 => ?_⟩
  obtain ⟨b, off, cs, e, rfl, hb, hs, hcs⟩ := hr h0
  refine ⟨b, off, cs, e, rfl, ho b _ hb (ha b ?_), hs, hcs⟩
  simp only [bk]
  rw [if_neg (by omega)]
theorem OwnE.le (h : OwnE n enc H u l) (hl : Le H H') : OwnE n enc H' u l := by
  obtain ⟨a, c, rfl, hc, hr⟩ := h
  refine ⟨a, c, rfl, hc, fun h0 => ?_⟩
  obtain ⟨b, off, cs, e, rfl, hb, hs, hcs⟩ := hr h0
  exact ⟨b, off, cs, e, rfl, hl b _ hb, hs, hcs⟩
theorem OwnE.known (h : OwnE n enc H u l) : ∀ b, bk u = some b → ∃ o, H b = some o := by
  obtain ⟨a, c, rfl, hc, hr⟩ := h
  intro b hb
  cases a with
  | none => simp [bk] at hb
  | some ad =>
    simp only [bk] at hb
    by_cases h0 : c = 0
    · rw [if_pos h0] at hb; simp at hb
    · rw [if_neg h0] at hb
      obtain ⟨b', off, cs, e, he, hbb, _⟩ := hr (by omega)
      simp only [Option.some.injEq] at hb he
      subst he
      simp only at hb
      subst hb
      exact ⟨_, hbb⟩
theorem OwnE.apart (h : OwnE n enc H u l) (hn : Nw H v) : Apart u v := Apart.of_nw h.known hn
theorem OwnE.one (h : OwnE n enc H v l) : oneCell v = true := by
  obtain ⟨a, c, rfl, _⟩ := h; rfl
theorem OwnE.cells (h : OwnE n enc H v l) : v.cells = #[v] := by
  obtain ⟨a, c, rfl, _⟩ := h; rfl
theorem OwnE.isSl (h : OwnE n enc H v l) : ∃ a n c, v = .slice a n c := by
  obtain ⟨a, c, h, _⟩ := h; exact ⟨_, _, _, h⟩
theorem OwnE.cast {l' : List α} (e : l = l') (h : OwnE n enc H v l) : OwnE n enc H v l' := e ▸ h
theorem OwnE.nil_of (a : Option Addr) : OwnE n enc H (.slice a 0 0) ([] : List α) := ⟨a, 0, rfl, by simp, fun h0 => absurd h0 (by simp)⟩
theorem SlE.nil (c : Nat) (a : Option Addr) : SlE n enc H (.slice a 0 c) ([] : List α) := ⟨a, c, rfl, by simp, fun i hi => absurd hi (by simp)⟩
theorem SlE.one (h : SlE n enc H v l) : oneCell v = true := by
  obtain ⟨a, c, rfl, _⟩ := h; rfl
theorem SlE.cells (h : SlE n enc H v l) : v.cells = #[v] := by
  obtain ⟨a, c, rfl, _⟩ := h; rfl
theorem SlE.cast {l' : List α} (e : l = l') (h : SlE n enc H v l) : SlE n enc H v l' := e ▸ h
/-- A new row of elements of n cells: one element. -/
theorem bSE_one {z : Array Value} {e : TypeId} {x : α} {k : Nat} {cs : List Value} {K : Value → Hp → Prop} (hx : enc x = cs) (hl : cs.length = n) (n0 : 0 < n) (n1 : n ≤ 1000) (hz : z.size = n)
    (hk : ∀ v H', OwnE n enc H' v [x] → Nw H v → Le H H' → K v H') (hk1 : k = 1) : bS n k z e [(0, .agg cs.toArray)] H K := by
  subst hk1
  refine ⟨by omega, ?_⟩
  have hs : (zrow z (1 * n)).size = n := by simp [zrow]
  have hf : Instr.fill (fun i => some (i * n, n)) (if 1 * n = 0 then #[] else zrow z (1 * n)) [(0, .agg cs.toArray)] = some cs.toArray := by
    rw [if_neg (by omega)]
    simp only [Instr.fill, Value.cells, Nat.zero_mul, Nat.zero_add]
    rw [if_neg (by rw [hs]; simp [hl])]
    congr 1
    apply Array.ext_getElem?
    intro i
    have key : ∀ (r : List Value) (s : Nat) (a : Array Value), s + r.length ≤ a.size → ((r.toArray.zipIdx s).foldl (fun cs x => cs.setIfInBounds x.2 x.1) a)[i]? = if s ≤ i ∧ i < s + r.length then r[i - s]? else a[i]? := by
      intro r
      induction r with
      | nil => intro s a _; rw [if_neg (by simp only [List.length_nil]; omega), ← Array.foldl_toList, Array.toList_zipIdx]; rfl
      | cons y r ih =>
        intro s a ha
        simp only [List.length_cons] at ha ⊢
        rw [← Array.foldl_toList]
        simp only [Array.toList_zipIdx, List.zipIdx_cons, List.foldl_cons]
        have := ih (s + 1) (a.setIfInBounds s y) (by simp; omega)
        rw [← Array.foldl_toList] at this
        simp only [Array.toList_zipIdx] at this
        rw [this]
        by_cases h1 : s = i
        · subst h1
          rw [if_neg (by omega), if_pos (by omega), Array.getElem?_setIfInBounds_self_of_lt (by omega)]; simp
        · by_cases h2 : s + 1 ≤ i ∧ i < s + 1 + r.length
          · rw [if_pos h2, if_pos (by omega), show i - s = (i - (s + 1)) + 1 by omega]; simp
          · rw [if_neg h2, if_neg (by omega), Array.getElem?_setIfInBounds_ne h1]
    have := key cs 0 (zrow z (1 * n)) (by rw [hs]; omega)
    simp only [Nat.zero_add, Nat.zero_le, true_and, Nat.sub_zero] at this
    rw [this]
    split
    · simp
    · rw [Array.getElem?_eq_none (by rw [hs]; omega), Array.getElem?_eq_none (by simp; omega)]
  rw [hf]
  intro r hr
  refine hk _ _ ⟨some ⟨r, 0, none⟩, 1, rfl, Nat.le_refl _, fun _ => ⟨r, 0, _, e, rfl, Hp.put_same _ _ _, by simp [hl], fun t ht => ?_⟩⟩ ?_ (Le.put _ hr)
  · simp only [List.flatMap_cons, List.flatMap_nil, List.append_nil, hx] at ht ⊢
    simp [ht]
  · intro b hb
    simp only [bk] at hb
    split at hb
    · simp at hb
    · simp only [Option.some.injEq] at hb; subst hb; exact hr
theorem bSE_nil {z : Array Value} {e : TypeId} {K : Value → Hp → Prop} (hk : ∀ v H', OwnE n enc H' v ([] : List α) → Nw H v → bk v = none → Le H H' → K v H') : bS n 0 z e [] H K := by
  refine ⟨by simp, ?_⟩
  rw [if_pos (by simp)]
  show match some (#[] : Array Value) with
    | some cells => ∀ r, H r = none → K (.slice (some ⟨r, 0, none⟩) 0 0) (H.put r (.cells cells e))
    | none => False
  intro r hr
  refine hk _ _ (OwnE.nil_of _) ?_ rfl (Le.put _ hr)
  intro b hb
  simp [bk] at hb
/-- An append. -/
theorem OwnE.apd {bytes : Nat} {z : Array Value} {e : TypeId} {w : Value} {K : Value → Hp → Prop} (h : OwnE n enc H v l) (hn : ∀ x, (enc x).length = n) (hz : z.size = n) (hm : SlE n enc H w m) (ho : ∀ x ∈ m, ∀ y ∈ enc x, oneCell y = true)
    (hb : bytes ≤ 64) (hlm : l.length + m.length ≤ 68719476736)
    (hk : ∀ v' H', OwnE n enc H' v' (l ++ m) → Off v H H' → (∀ b, bk v' = some b → bk v = some b ∨ H b = none) → K v' H') : apd n bytes z e v w H K := by
  have hmf := hm.firstC hn
  have hml := hm.lenO
  have hlf := (h.sl hn).firstC hn
  have fl := flat_len hn l
  have fm := flat_len hn m
  have hap : (l ++ m).flatMap enc = l.flatMap enc ++ m.flatMap enc := List.flatMap_append
  obtain ⟨a, c, rfl, hlc, hr⟩ := h
  simp only [HL.apd, hml]
  by_cases hcap : l.length + m.length ≤ c
  · rw [if_pos hcap]
    simp only [hmf]
    by_cases hc0 : c = 0
    · have hl : l = [] := List.length_eq_zero_iff.mp (by omega)
      have hm' : m = [] := List.length_eq_zero_iff.mp (by omega)
      subst hl hm' hc0
      have : K (.slice a (([] : List α).length + ([] : List α).length) 0) H := hk _ H ⟨a, 0, rfl, by simp, fun h0 => absurd h0 (by simp)⟩ (fun b o hb _ => hb) (fun b hb => by cases a <;> simp [bk] at hb)
      cases a with
      | none => exact this
      | some ad => exact this
    · obtain ⟨b, off, cs, e', rfl, hbb, hs, hcs⟩ := hr (by omega)
      have hmul : (l.length + m.length) * n ≤ c * n := Nat.mul_le_mul_right n hcap
      rw [Nat.add_mul] at hmul
      simp only [add_none]
      refine stC_run (b := b) (e := e') (m.flatMap enc) _ 0 cs H rfl rfl hbb (by simp only [Nat.add_zero]; omega) (fun x hx => by
        obtain ⟨y, hy, hxy⟩ := List.mem_flatMap.mp hx; exact ho y hy x hxy) ?_
      intro H' cs' h1 h2 h3 h4 h5
      simp only [Nat.add_zero] at h3 h4
      refine hk _ H' ⟨some ⟨b, off, none⟩, c, by simp, by simpa using hcap, fun _ => ⟨b, off, cs', e', rfl, h1, by omega, ?_⟩⟩ ?_ ?_
      · simp only [hap]
        intro t ht
        rw [List.length_append] at ht
        by_cases htl : t < (l.flatMap enc).length
        · rw [h3 _ (by omega), hcs t htl, List.getElem_append_left htl]
        · have := h4 (t - (l.flatMap enc).length) (by omega)
          rw [show off + l.length * n + (t - (l.flatMap enc).length) = off + t by omega] at this
          rw [this, List.getElem_append_right (by omega)]
      · intro x o hx hne
        simp only [bk, if_neg hc0] at hne
        rw [h5 x (by rintro rfl; exact hne rfl)]; exact hx
      · intro x hx
        left; exact hx
  · rw [if_neg hcap]
    refine ⟨by omega, ?_, ?_⟩
    · have := nsc_le (n := l.length + m.length) (c := c) (by omega)
      exact Nat.le_trans (Nat.mul_le_mul this hb) (by omega)
    simp only [hlf, hmf]
    intro c' hc1 hc2 r hr'
    have hmul : (l.length + m.length) * n ≤ c' * n := Nat.mul_le_mul_right n hc1
    have hsub : (c' - (l.length + m.length)) * n = c' * n - (l.length + m.length) * n := Nat.sub_mul _ _ _
    rw [Nat.add_mul] at hmul hsub
    refine hk _ _ ⟨some ⟨r, 0, none⟩, c', by simp, by simpa using hc1, fun _ => ⟨r, 0, _, e, rfl, Hp.put_same _ _ _, ?_, ?_⟩⟩ ?_ ?_
    · have : (Builtin.zeroCells z (c' - (l.length + m.length))).size = (c' - (l.length + m.length)) * n := by simp [Builtin.zeroCells, hz]
      simp only [Nat.zero_add, Array.size_append, List.size_toArray, this, fl, fm]; omega
    · simp only [hap]
      intro t ht
      rw [Nat.zero_add, Array.getElem?_append_left (by simpa using ht)]
      rw [← Array.getElem?_toList]
      simp only [Array.toList_append]
      rw [List.getElem?_eq_getElem ht]
    · intro x o hx _
      rw [Hp.put_ne _ _ (by rintro rfl; rw [hr'] at hx; exact absurd hx (by simp))]; exact hx
    · intro x hx
      right
      simp only [bk] at hx
      split at hx
      · simp at hx
      · simp only [Option.some.injEq] at hx; subst hx; exact hr'
end
end Go.Proofs.YthocjpfibegjcaaGreatDoor.HL
/- Fields: which are valid, which are plain, and what lies where, round and round. -/
namespace Go.Proofs.YthocjpfibegjcaaGreatDoor
open HL
set_option maxRecDepth 100000
def sidesF (r c : Int) : Prop := (1 ≤ r ∧ r ≤ 24) ∧ (1 ≤ c ∧ c ≤ 24)
instance (r c : Int) : Decidable (sidesF r c) := by unfold sidesF; infer_instance
theorem sidesF_mul {r c : Int} (h : sidesF r c) : 1 ≤ r * c ∧ r * c ≤ 576 := by
  obtain ⟨⟨h1, h2⟩, h3, h4⟩ := h
  have a := Int.mul_le_mul h2 h4 (by omega) (by omega)
  have b := Int.mul_le_mul h1 h3 (by omega) (by omega)
  omega
/-- A field whose cells are from 0 to n. -/
def fieldN (n r c : Int) (l : List Int) : Prop := sidesF r c ∧ (l.length : Int) = r * c ∧ ∀ x ∈ l, 0 ≤ x ∧ x ≤ n
instance (n r c : Int) (l : List Int) : Decidable (fieldN n r c l) := by unfold fieldN; infer_instance
theorem vInt_mulF (a b : Int) : vInt .mul (.int .i64 a) (.int .i64 b) = some (.int .i64 (IntKind.i64.wrap (a * b))) := by simp only [vInt, if_true]
theorem fieldN_len {n r c : Int} {l : List Int} (h : fieldN n r c l) : l.length ≤ 576 := by
  have := sidesF_mul h.1
  have := h.2.1
  omega
theorem fieldN_at {n r c : Int} {l : List Int} (h : fieldN n r c l) {i : Int} (h0 : 0 ≤ i) (hi : i < r * c) : 0 ≤ at_ 0 l i ∧ at_ 0 l i ≤ n :=
  h.2.2 _ (at_mem 0 l h0 (by rw [h.2.1]; exact hi))
theorem C.spec_l04Is {p vc : Value} {r c : Int} {l : List Int} {H : Hp} {K : Value → Hp → Prop} (hp : Cel H p [.int .i64 r, .int .i64 c, vc]) (hc : Sl eI H vc l)
    (k1 : l.length ≤ 9223372036854775807) (hk : K (.bool (decide (fieldN 9 r c l))) H) : HT prg I.spec_l04Is [p].toArray H K := by
  refine R.spec_l04Is ?_
  unfold F.spec_l04Is
  simp only [hp.nilC, hp.fa, hp.ld 0 rfl, ob_some]
  refine C.spec_l00In ⟨Le.refl _, ?_⟩
  by_cases c1 : 1 ≤ r ∧ r ≤ 24
  · simp only [decide_eq_true c1, hp.nilC, hp.fa, hp.ld 1 rfl, EV]
    refine C.spec_l00In ⟨Le.refl _, ?_⟩
    by_cases c2 : 1 ≤ c ∧ c ≤ 24
    · have hs : sidesF r c := ⟨c1, c2⟩
      have hm := sidesF_mul hs
      simp only [decide_eq_true c2, hp.nilC, hp.fa, hp.ld 2 rfl, hp.ld 0 rfl, hp.ld 1 rfl, hc.len, vInt_mulF, wrap64 (show -9223372036854775808 ≤ r * c by omega) (show r * c < 9223372036854775808 by omega), EV]
      by_cases c3 : (l.length : Int) = r * c
      · have f3 : decide ((l.length : Int) ≠ r * c) = false := decide_eq_false (fun h => h c3)
        simp only [f3, EV]
        unfold jn; dsimp only
        refine ⟨fun n σ H1 => ∃ i : Nat, n = l.length - i ∧ i ≤ l.length ∧ H1 = H ∧ σ 0 = p ∧ σ 3 = .int .i64 i ∧ ∀ x ∈ l.take i, 0 ≤ x ∧ x ≤ 9, ⟨_, 0, rfl, by omega, rfl, rfl, rfl, by simp⟩, ?_⟩
        rintro n σ H1 ⟨i, rfl, hi', rfl, h0, h3, hall⟩
        simp only [h0, h3, hp.nilC, hp.fa, hp.ld 2 rfl, hc.len, vInt_lss, ob_some]
        refine cnd_d (fun hlt => ?_) (fun hge => ?_)
        · have hlt' : i < l.length := by omega
          rw [hc.ix (by omega) hlt, ob_some, hc.ld 0 (by omega) hlt, ob_some]
          refine C.spec_l00In ?_
          rw [vUn_not, ob_some]
          refine cnd_i (fun hb => ?_) (fun hb => ?_)
          · refine retK (K := K) (v' := .bool false) rfl (kF (K := K) hk ?_)
            intro hh
            have := hh.2.2 _ (at_mem 0 l (i := i) (by omega) hlt)
            simp [this] at hb
          · rw [vInt_add (by omega) (by omega), ob_some]
            refine nxt (l.length - (i + 1)) (by omega) ⟨i + 1, rfl, by omega, rfl, h0, rfl, ?_⟩
            rw [take_at 0 l hlt']
            intro x hx
            rcases List.mem_append.mp hx with hx | hx
            · exact hall x hx
            · simp only [List.mem_singleton] at hx; subst hx; simpa using hb
        · rw [List.take_of_length_le (by omega)] at hall
          exact retK (K := K) (v' := .bool true) rfl (kT (K := K) hk ⟨hs, c3, hall⟩)
      · have f3 : decide ((l.length : Int) ≠ r * c) = true := decide_eq_true c3
        simp only [f3, EV]; exact kF (K := K) hk (fun h => c3 h.2.1)
    · simp only [decide_eq_false c2, EV]; exact kF (K := K) hk (fun h => c2 h.1.2)
  · simp only [decide_eq_false c1, EV]; exact kF (K := K) hk (fun h => c1 h.1.1)
theorem C.spec_l04Plain {p vc : Value} {r c : Int} {l : List Int} {H : Hp} {K : Value → Hp → Prop} (hp : Cel H p [.int .i64 r, .int .i64 c, vc]) (hc : Sl eI H vc l)
    (k1 : l.length ≤ 9223372036854775807) (hk : K (.bool (decide (fieldN 1 r c l))) H) : HT prg I.spec_l04Plain [p].toArray H K := by
  refine R.spec_l04Plain ?_
  unfold F.spec_l04Plain
  refine C.spec_l04Is hp hc k1 ?_
  by_cases c1 : fieldN 9 r c l
  · simp only [decide_eq_true c1, EV]
    unfold jn; dsimp only
    refine ⟨fun n σ H1 => ∃ i : Nat, n = l.length - i ∧ i ≤ l.length ∧ H1 = H ∧ σ 0 = p ∧ σ 3 = .int .i64 i ∧ ∀ x ∈ l.take i, x ≤ 1, ⟨_, 0, rfl, by omega, rfl, rfl, rfl, by simp⟩, ?_⟩
    rintro n σ H1 ⟨i, rfl, hi', rfl, h0, h3, hall⟩
    simp only [h0, h3, hp.nilC, hp.fa, hp.ld 2 rfl, hc.len, vInt_lss, ob_some]
    refine cnd_d (fun hlt => ?_) (fun hge => ?_)
    · have hlt' : i < l.length := by omega
      rw [hc.ix (by omega) hlt, ob_some, hc.ld 0 (by omega) hlt, ob_some, vInt_gtr, ob_some]
      refine cnd_d (fun hb => ?_) (fun hb => ?_)
      · refine retK (K := K) (v' := .bool false) rfl (kF (K := K) hk ?_)
        intro hh
        have := hh.2.2 _ (at_mem 0 l (i := i) (by omega) hlt)
        omega
      · rw [vInt_add (by omega) (by omega), ob_some]
        refine nxt (l.length - (i + 1)) (by omega) ⟨i + 1, rfl, by omega, rfl, h0, rfl, ?_⟩
        rw [take_at 0 l hlt']
        intro x hx
        rcases List.mem_append.mp hx with hx | hx
        · exact hall x hx
        · simp only [List.mem_singleton] at hx; subst hx; omega
    · rw [List.take_of_length_le (by omega)] at hall
      exact retK (K := K) (v' := .bool true) rfl (kT (K := K) hk ⟨c1.1, c1.2.1, fun x hx => ⟨(c1.2.2 x hx).1, hall x hx⟩⟩)
  · simp only [decide_eq_false c1, EV]; exact kF (K := K) hk (fun h => c1 ⟨h.1, h.2.1, fun x hx => by have := h.2.2 x hx; omega⟩)
theorem C.impl_isSide {r : Int} {H : Hp} {K : Value → Hp → Prop} (hk : K (.bool (decide (1 ≤ r ∧ r ≤ 24))) H) : HT prg I.impl_isSide [.int .i64 r].toArray H K := R.impl_isSide (C.impl_within hk)
theorem C.impl_ValidField {vc : Value} {r c : Int} {l : List Int} {H : Hp} {K : Value → Hp → Prop} (hc : Sl eI H vc l)
    (k1 : l.length ≤ 9223372036854775807) (hk : ∀ H', Le H H' → K (.bool (decide (fieldN 9 r c l))) H') : HT prg I.impl_ValidField [.agg #[.int .i64 r, .int .i64 c, vc]].toArray H K := by
  refine R.impl_ValidField ?_
  unfold F.impl_ValidField
  refine nw_i (fun p H1 hp np le1 => ?_)
  replace hk := hk H1 le1
  replace hc := hc.le le1
  simp only [hp.fa, hp.ld 0 rfl, hp.ld 1 rfl, vInt_mulF, ob_some]
  refine C.impl_isSide ?_
  by_cases c1 : 1 ≤ r ∧ r ≤ 24
  · simp only [decide_eq_true c1, hp.fa, hp.ld 1 rfl, EV]
    refine C.impl_isSide ?_
    by_cases c2 : 1 ≤ c ∧ c ≤ 24
    · have hs : sidesF r c := ⟨c1, c2⟩
      have hm := sidesF_mul hs
      simp only [decide_eq_true c2, hp.fa, hp.ld 2 rfl, wrap64 (show -9223372036854775808 ≤ r * c by omega) (show r * c < 9223372036854775808 by omega), EV]
      refine C.impl_areMany hc k1 ?_
      exact kQ (K := K) hk ⟨fun h => ⟨⟨by have := h.2.1; omega, by have := h.2.1; omega⟩, h.2.2⟩, fun h => ⟨hs, by omega, h.2⟩⟩
    · simp only [decide_eq_false c2, EV]; exact kF (K := K) hk (fun h => c2 h.1.2)
  · simp only [decide_eq_false c1, EV]; exact kF (K := K) hk (fun h => c1 h.1.1)
theorem C.impl_isPlain {vc : Value} {r c : Int} {l : List Int} {H : Hp} {K : Value → Hp → Prop} (hc : Sl eI H vc l)
    (k1 : l.length ≤ 9223372036854775807) (hk : ∀ H', Le H H' → K (.bool (decide (fieldN 1 r c l))) H') : HT prg I.impl_isPlain [.agg #[.int .i64 r, .int .i64 c, vc]].toArray H K := by
  refine R.impl_isPlain ?_
  unfold F.impl_isPlain
  refine nw_i (fun p H1 hp np le1 => ?_)
  refine ob_i (hp.ldn rfl) ?_
  refine C.impl_ValidField (hc.le le1) k1 (fun H2 le2 => ?_)
  replace hk := hk H2 (le1.trans le2)
  replace hc := hc.le (le1.trans le2)
  replace hp := hp.le le2
  by_cases c1 : fieldN 9 r c l
  · simp only [decide_eq_true c1, hp.fa, hp.ld 2 rfl, EV]
    refine C.impl_areWithin hc k1 ?_
    exact kQ (K := K) hk ⟨fun h => h.2.2, fun h => ⟨c1.1, c1.2.1, h⟩⟩
  · simp only [decide_eq_false c1, EV]; exact kF (K := K) hk (fun h => c1 ⟨h.1, h.2.1, fun x hx => by have := h.2.2 x hx; omega⟩)
theorem fm_eq {a b : Int} (hb : 0 < b) : (a.tmod b + b).tmod b = a % b := by
  have h0 : 0 ≤ a.tmod b + b := by have := Int.lt_tmod_of_pos a hb; omega
  rw [Int.tmod_eq_emod_of_nonneg h0, Int.tmod_def, show a - b * a.tdiv b + b = a + b * (1 - a.tdiv b) by rw [Int.mul_sub, Int.mul_one]; omega, Int.add_mul_emod_self_left]
theorem tmod_bnd {a b : Int} (hb : 0 < b) : -b < a.tmod b ∧ a.tmod b < b := ⟨by have := Int.lt_tmod_of_pos a hb; omega, Int.tmod_lt_of_pos a hb⟩
/-- A place, round and round. -/
def roundF (r c i k : Int) : Int := i % r * c + k % c
theorem roundF_lt {r c i k : Int} (h : sidesF r c) : 0 ≤ i % r ∧ i % r < r ∧ 0 ≤ k % c ∧ k % c < c ∧ 0 ≤ i % r * c ∧ i % r * c ≤ 576 ∧ 0 ≤ roundF r c i k ∧ roundF r c i k < r * c := by
  obtain ⟨⟨h1, h2⟩, h3, h4⟩ := h
  have a1 := Int.emod_nonneg i (b := r) (by omega)
  have a2 := Int.emod_lt_of_pos i (b := r) (by omega)
  have a3 := Int.emod_nonneg k (b := c) (by omega)
  have a4 := Int.emod_lt_of_pos k (b := c) (by omega)
  have a5 := Int.mul_nonneg (a := i % r) (b := c) a1 (by omega)
  have a6 := Int.mul_le_mul (a := i % r) (b := c) (c := r - 1) (d := c) (by omega) (by omega) (by omega) (by omega)
  rw [Int.sub_mul] at a6
  have a7 := Int.mul_le_mul h2 h4 (by omega) (by omega)
  unfold roundF
  omega
theorem C.impl_Field_at {vc : Value} {r c i k : Int} {l : List Int} {H : Hp} {K : Value → Hp → Prop} (hc : Sl eI H vc l) (h0 : 0 ≤ i * c) (h1 : i * c ≤ 1000000) (h2 : 0 ≤ i * c + k) (h3 : i * c + k < l.length) (h4 : l.length ≤ 1000000)
    (hk : ∀ H', Le H H' → K (.int .i64 (at_ 0 l (i * c + k))) H') : HT prg I.impl_Field_at [.agg #[.int .i64 r, .int .i64 c, vc], .int .i64 i, .int .i64 k].toArray H K := by
  refine R.impl_Field_at ?_
  unfold F.impl_Field_at
  refine nw_i (fun p H1 hp np le1 => ?_)
  simp only [hp.fa, hp.ld 1 rfl, hp.ld 2 rfl, ob_some]
  rw [vInt_mul (by omega) (by omega), ob_some, vInt_add (by omega) (by omega), ob_some, (hc.le le1).ix h2 h3, ob_some, (hc.le le1).ld 0 h2 h3, ob_some]
  exact hk _ le1
end Go.Proofs.YthocjpfibegjcaaGreatDoor
/- Fields in slices: one of them. -/
namespace Go.Proofs.YthocjpfibegjcaaGreatDoor
open HL
/-- A field as it lies in cells. -/
structure Fv where
  r : Int
  c : Int
  v : Value
def fv0 : Fv := ⟨0, 0, .slice none 0 0⟩
def encFv (x : Fv) : List Value := [.int .i64 x.r, .int .i64 x.c, x.v]
theorem encFv_n (x : Fv) : (encFv x).length = 3 := rfl
end Go.Proofs.YthocjpfibegjcaaGreatDoor
/- Slices of fields whose cells are owned. -/
namespace Go.Proofs.YthocjpfibegjcaaGreatDoor
open HL
set_option maxRecDepth 100000
namespace HL
/-- What has blocks: a slice or a pointer, or a set of blocks. -/
class Bks (α : Type) where inb : α → Nat → Prop
instance instBV : Bks Value := ⟨fun v b => bk v = some b⟩
def Rg : Type := Nat → Prop
instance instBR : Bks Rg := ⟨fun S b => S b⟩
def Apt {α β : Type} [Bks α] [Bks β] (u : α) (v : β) : Prop := ∀ b, Bks.inb u b → ¬ Bks.inb v b
def Kn {α : Type} [Bks α] (H : Hp) (u : α) : Prop := ∀ b, Bks.inb u b → ∃ o, H b = some o
def Nws (H : Hp) (S : Rg) : Prop := ∀ b, S b → H b = none
def OffS (S : Rg) (H H' : Hp) : Prop := ∀ b o, H b = some o → ¬ S b → H' b = some o
section
variable {α β : Type} [Bks α] [Bks β] {u : α} {v : β} {H H' : Hp} {S : Rg}
theorem Apt.symm (h : Apt u v) : Apt v u := fun b h1 h2 => h b h2 h1
theorem Apt.nil_r {c : Nat} : Apt u (Value.slice none c c) := fun b _ h => by
  have : bk (.slice none c c) = some b := h
  simp [bk] at this
theorem Apt.nil_l {c : Nat} : Apt (Value.slice none c c) u := Apt.nil_r.symm
theorem Apt.of_nws (hu : Kn H u) (hn : Nws H S) : Apt u S := fun b h1 h2 => by
  obtain ⟨o, ho⟩ := hu b h1
  rw [hn b h2] at ho; exact absurd ho (by simp)
theorem Apt.of_nw {w : Value} (hu : Kn H u) (hn : Nw H w) : Apt u w := fun b h1 h2 => by
  obtain ⟨o, ho⟩ := hu b h1
  rw [hn b h2] at ho; exact absurd ho (by simp)
theorem Nws.le (h : Nws H' S) (hl : Le H H') : Nws H S := fun b hb => by
  cases ho : H b with
  | none => rfl
  | some o => have := hl b o ho; rw [h b hb] at this; exact absurd this (by simp)
theorem OffS.le {H0 : Hp} (h : OffS S H H') (hl : Le H0 H) (hn : Nws H0 S) : Le H0 H' := fun b o hb =>
  h b o (hl b o hb) (fun e => by rw [hn b e] at hb; exact absurd hb (by simp))
theorem OffS.trans {A B C : Hp} (h : OffS S A B) (h' : OffS S B C) : OffS S A C := fun b o hb hv => h' b o (h b o hb hv) hv
theorem OffS.of_le (h : Le H H') : OffS S H H' := fun b o hb _ => h b o hb
/-- What has no block of a set stays. -/
theorem OffS.off {w x : Value} (h : OffS S H H') (ha : Apt w S) : ∀ b o, bk w = some b → H b = some o → H' b = some o := fun b o hb ho => h b o ho (ha b hb)
end
theorem Own.offS {α : Type} {enc : α → Value} {H H' : Hp} {u : Value} {l : List α} {S : Rg} (h : Own enc H u l) (ho : OffS S H H') (ha : Apt u S) : Own enc H' u l := by
  obtain ⟨a, c, rfl, hc, hr⟩ := h
  refine ⟨a, c, rfl, hc, fun h0 => ?_⟩
  obtain ⟨b, off, cs, e, rfl, hb, hs, hcs⟩ := hr h0
  refine ⟨b, off, cs, e, rfl, ho b _ hb (ha b ?_), hs, hcs⟩
  show bk _ = some b
  simp only [bk]
  rw [if_neg (by omega)]
theorem Cel.offS {H H' : Hp} {p : Value} {cs : List Value} {S : Rg} (h : Cel H p cs) (ho : OffS S H H') (ha : Apt p S) : Cel H' p cs := by
  obtain ⟨r, e, rfl, hr⟩ := h
  exact ⟨r, e, rfl, ho r _ hr (ha r rfl)⟩
theorem Ro.offS {α : Type} {enc : α → Value} {H H' : Hp} {u : Value} {l : List α} {S : Rg} (h : Ro enc H u l) (ho : OffS S H H') (ha : Apt u S) : Ro enc H' u l := by
  obtain ⟨⟨a, c, rfl, hc, hr⟩, hk⟩ := h
  have key : ∀ b, bk (.slice a l.length c) = some b → H' b = H b := fun b hb => by
    obtain ⟨o, hbo⟩ := hk b hb
    rw [ho b o hbo (ha b hb), hbo]
  refine ⟨⟨a, c, rfl, hc, fun i hi => ?_⟩, fun b hb => by rw [key b hb]; exact hk b hb⟩
  obtain ⟨ad, rfl, hh⟩ := hr i hi
  refine ⟨ad, rfl, ?_⟩
  have e : H' (ad.add i).block = H (ad.add i).block := by
    rw [add_block]
    exact key _ (by simp only [bk]; rw [if_neg (by omega)])
  unfold Hp.cell? at hh ⊢
  rw [e]; exact hh
/-- A field. -/
structure FdL where
  r : Int
  c : Int
  l : List Int
  deriving DecidableEq
def fd0 : FdL := ⟨0, 0, []⟩
def RelF (P : Value → List Int → Prop) : List Fv → List FdL → Prop
  | [], [] => True
  | x :: L, f :: fs => (x.r = f.r ∧ x.c = f.c ∧ P x.v f.l) ∧ RelF P L fs
  | _, _ => False
section
variable {P Q : Value → List Int → Prop}
theorem RelF.len : ∀ {L : List Fv} {fs : List FdL}, RelF P L fs → L.length = fs.length
  | [], [], _ => rfl
  | x :: L, f :: fs, h => congrArg (· + 1) (RelF.len h.2)
  | [], _ :: _, h => h.elim
  | _ :: _, [], h => h.elim
theorem RelF.imp : ∀ {L : List Fv} {fs : List FdL}, RelF P L fs → (∀ x ∈ L, ∀ l, P x.v l → Q x.v l) → RelF Q L fs
  | [], [], _, _ => trivial
  | x :: L, f :: fs, h, g => ⟨⟨h.1.1, h.1.2.1, g x (by simp) _ h.1.2.2⟩, RelF.imp h.2 (fun y hy => g y (by simp [hy]))⟩
  | [], _ :: _, h, _ => h.elim
  | _ :: _, [], h, _ => h.elim
theorem RelF.app : ∀ {L M : List Fv} {fs gs : List FdL}, RelF P L fs → RelF P M gs → RelF P (L ++ M) (fs ++ gs)
  | [], M, [], gs, _, h => h
  | x :: L, M, f :: fs, gs, h1, h2 => ⟨h1.1, RelF.app h1.2 h2⟩
  | [], _, _ :: _, _, h, _ => h.elim
  | _ :: _, _, [], _, h, _ => h.elim
theorem RelF.get : ∀ {L : List Fv} {fs : List FdL} {i : Nat}, RelF P L fs → i < L.length → (at_ fv0 L (i : Int)).r = (at_ fd0 fs (i : Int)).r ∧ (at_ fv0 L (i : Int)).c = (at_ fd0 fs (i : Int)).c ∧ P (at_ fv0 L (i : Int)).v (at_ fd0 fs (i : Int)).l
  | [], [], i, _, hi => absurd hi (by simp)
  | x :: L, f :: fs, 0, h, _ => h.1
  | x :: L, f :: fs, i + 1, h, hi => RelF.get (L := L) (fs := fs) (i := i) h.2 (by simpa using hi)
  | [], _ :: _, _, h, _ => h.elim
  | _ :: _, [], _, h, _ => h.elim
end
/-- A slice of fields, whose blocks and those of its fields are owned. -/
def Fam (H : Hp) (v : Value) (S : Rg) (fs : List FdL) : Prop :=
  ∃ L, OwnE 3 encFv H v L ∧ RelF (Own eI H) L fs ∧ (∀ x ∈ L, Apart v x.v) ∧ L.Pairwise (fun x y => Apart x.v y.v) ∧ ∀ b, S b ↔ (bk v = some b ∨ ∃ x ∈ L, bk x.v = some b)
theorem RelF.mem {P : Value → List Int → Prop} : ∀ {L : List Fv} {fs : List FdL}, RelF P L fs → ∀ x ∈ L, ∃ l, P x.v l
  | [], [], _ => by simp
  | x :: L, f :: fs, h => fun y hy => by
    rcases List.mem_cons.mp hy with rfl | hy
    · exact ⟨_, h.1.2.2⟩
    · exact RelF.mem h.2 y hy
  | [], _ :: _, h => h.elim
  | _ :: _, [], h => h.elim
section
variable {H H' : Hp} {v : Value} {S : Rg} {fs : List FdL}
theorem Fam.known (h : Fam H v S fs) : Kn H S := by
  obtain ⟨L, h1, h2, h3, h4, h5⟩ := h
  intro b hb
  rcases (h5 b).mp hb with e | ⟨x, hx, e⟩
  · exact h1.known b e
  · obtain ⟨l, hl⟩ := h2.mem x hx
    exact hl.known b e
theorem Fam.le (h : Fam H v S fs) (hl : Le H H') : Fam H' v S fs := by
  obtain ⟨L, h1, h2, h3, h4, h5⟩ := h
  exact ⟨L, h1.le hl, h2.imp (fun _ _ _ h => h.le hl), h3, h4, h5⟩
theorem Fam.off {w : Value} (h : Fam H v S fs) (ho : Off w H H') (ha : Apt S w) : Fam H' v S fs := by
  obtain ⟨L, h1, h2, h3, h4, h5⟩ := h
  exact ⟨L, h1.off ho (fun b hb => ha b ((h5 b).mpr (.inl hb))), h2.imp (fun x hx _ h => h.off ho (fun b hb => ha b ((h5 b).mpr (.inr ⟨x, hx, hb⟩)))), h3, h4, h5⟩
theorem OwnE.offS {n : Nat} {α : Type} {enc : α → List Value} {u : Value} {l : List α} (h : OwnE n enc H u l) (ho : OffS S H H') (ha : Apt u S) : OwnE n enc H' u l := by
  obtain ⟨a, c, rfl, hc, hr⟩ := h
  refine ⟨a, c, rfl, hc, fun h0 => ?_⟩
  obtain ⟨b, off, cs, e, rfl, hb, hs, hcs⟩ := hr h0
  refine ⟨b, off, cs, e, rfl, ho b _ hb (ha b ?_), hs, hcs⟩
  show bk _ = some b
  simp only [bk]
  rw [if_neg (by omega)]
theorem Fam.offS {T : Rg} (h : Fam H v S fs) (ho : OffS T H H') (ha : Apt S T) : Fam H' v S fs := by
  obtain ⟨L, h1, h2, h3, h4, h5⟩ := h
  exact ⟨L, h1.offS ho (fun b hb => ha b ((h5 b).mpr (.inl hb))), h2.imp (fun x hx _ h => h.offS ho (fun b hb => ha b ((h5 b).mpr (.inr ⟨x, hx, hb⟩)))), h3, h4, h5⟩
theorem Fam.len (h : Fam H v S fs) : vLenSl v = some (.int .i64 fs.length) := by
  obtain ⟨L, h1, h2, _⟩ := h
  rw [h1.len, h2.len]
theorem Fam.one (h : Fam H v S fs) : oneCell v = true := by obtain ⟨L, h1, _⟩ := h; exact h1.one
theorem Fam.cells (h : Fam H v S fs) : v.cells = #[v] := by obtain ⟨L, h1, _⟩ := h; exact h1.cells
theorem Fam.isSl (h : Fam H v S fs) : ∃ a n c, v = .slice a n c := by obtain ⟨L, h1, _⟩ := h; exact h1.isSl
theorem Fam.cast {gs : List FdL} (e : fs = gs) (h : Fam H v S fs) : Fam H v S gs := e ▸ h
theorem Fam.nil_of (a : Option Addr) : Fam H (.slice a 0 0) (fun _ => False) [] :=
  ⟨[], OwnE.nil_of a, trivial, by simp, List.Pairwise.nil, fun b => ⟨fun h => h.elim, fun h => by
    rcases h with h | ⟨x, hx, _⟩
    · cases a <;> simp [bk] at h
    · simp at hx⟩⟩
/-- A new slice of fields. -/
theorem bSE_fam {z : Array Value} {e : TypeId} {K : Value → Hp → Prop} (hk : ∀ v S H', Fam H' v S [] → Nws H S → Le H H' → K v H') : bS 3 0 z e [] H K :=
  bSE_nil (n := 3) (enc := encFv) fun v H' ov nv hb le => hk v (fun _ => False) H' ⟨[], ov, trivial, by simp, List.Pairwise.nil, fun b => ⟨fun h => h.elim, fun h => by
    rcases h with h | ⟨x, hx, _⟩
    · rw [hb] at h; simp at h
    · simp at hx⟩⟩ (fun b h => h.elim) le
/-- One more. -/
theorem Fam.push {bytes : Nat} {z : Array Value} {e : TypeId} {w x : Value} {r c : Int} {l : List Int} {K : Value → Hp → Prop} (h : Fam H v S fs) (hz : z.size = 3) (hw : SlE 3 encFv H w [⟨r, c, x⟩]) (hx : Own eI H x l) (ax : Apt x S)
    (hb : bytes ≤ 64) (hl : fs.length < 1000000)
    (hk : ∀ v' S' H', Fam H' v' S' (fs ++ [⟨r, c, l⟩]) → OffS S H H' → (∀ b, S' b → S b ∨ bk x = some b ∨ H b = none) → (∀ b, bk x = some b → S' b) → Own eI H' x l → K v' H') : apd 3 bytes z e v w H K := by
  obtain ⟨L, h1, h2, h3, h4, h5⟩ := h
  have hlen := h2.len
  have axv : Apart x v := fun b hb hv => ax b hb ((h5 b).mpr (.inl hv))
  refine OwnE.apd h1 encFv_n hz hw (fun y hy t ht => ?_) hb (by simp; omega) (fun v' H' ov off hb' => ?_)
  · simp only [List.mem_singleton] at hy
    subst hy
    simp only [encFv, List.mem_cons, List.not_mem_nil, or_false] at ht
    rcases ht with rfl | rfl | rfl
    · rfl
    · rfl
    · exact hx.one
  have ax' : ∀ y ∈ L, Apart v' y.v := fun y hy b e1 e2 => by
    rcases hb' b e1 with e3 | e3
    · exact h3 y hy b e3 e2
    · obtain ⟨m, hm⟩ := h2.mem y hy
      obtain ⟨o, ho⟩ := hm.known b e2
      rw [e3] at ho; simp at ho
  have axx : Apart v' x := fun b e1 e2 => by
    rcases hb' b e1 with e3 | e3
    · exact axv b e2 e3
    · obtain ⟨o, ho⟩ := hx.known b e2
      rw [e3] at ho; simp at ho
  have hx' := hx.off off axv
  refine hk v' (fun b => bk v' = some b ∨ ∃ y ∈ L ++ [⟨r, c, x⟩], bk y.v = some b) H' ⟨_, ov, ?_, ?_, ?_, fun b => Iff.rfl⟩ (fun b o hbo hn => off b o hbo (fun e => hn ((h5 b).mpr (.inl e)))) ?_ (fun b hb => .inr ⟨⟨r, c, x⟩, by simp, hb⟩) hx'
  · exact (h2.imp (fun y hy m h => h.off off (h3 y hy).symm)).app ⟨⟨rfl, rfl, hx'⟩, trivial⟩
  · intro y hy
    rcases List.mem_append.mp hy with hy | hy
    · exact ax' y hy
    · simp only [List.mem_singleton] at hy; subst hy; exact axx
  · rw [List.pairwise_append]
    refine ⟨h4, List.pairwise_singleton _ _, fun y hy t ht => ?_⟩
    simp only [List.mem_singleton] at ht
    subst ht
    exact fun b e1 e2 => ax b e2 ((h5 b).mpr (.inr ⟨y, hy, e1⟩))
  · intro b hb
    rcases hb with hb | ⟨y, hy, e⟩
    · rcases hb' b hb with e3 | e3
      · exact .inl ((h5 b).mpr (.inl e3))
      · exact .inr (.inr e3)
    · rcases List.mem_append.mp hy with hy | hy
      · exact .inl ((h5 b).mpr (.inr ⟨y, hy, e⟩))
      · simp only [List.mem_singleton] at hy; subst hy; exact .inr (.inl e)
/-- Apart from what was pushed to. -/
theorem Apt.push {α : Type} [Bks α] {u : α} {S' : Rg} {x : Value} (hu : Kn H u) (hS : Apt u S) (hx : Apt u x) (hb : ∀ b, S' b → S b ∨ bk x = some b ∨ H b = none) : Apt u S' := fun b h1 h2 => by
  rcases hb b h2 with h | h | h
  · exact hS b h1 h
  · exact hx b h1 h
  · obtain ⟨o, ho⟩ := hu b h1
    rw [h] at ho; simp at ho
theorem Nws.push {H0 : Hp} {S' : Rg} {x : Value} (hl : Le H0 H) (hS : Nws H0 S) (hx : Nw H0 x) (hb : ∀ b, S' b → S b ∨ bk x = some b ∨ H b = none) : Nws H0 S' := fun b h2 => by
  rcases hb b h2 with h | h | h
  · exact hS b h
  · exact hx b h
  · cases ho : H0 b with
    | none => rfl
    | some o => rw [hl b o ho] at h; simp at h
end
end HL
end Go.Proofs.YthocjpfibegjcaaGreatDoor
/- Maps from texts to numbers, as owned things. -/
namespace Go.Proofs.YthocjpfibegjcaaGreatDoor.HL
set_option maxRecDepth 100000
/-- The entries of a map, told as texts and numbers. -/
def entsS (es : List MapEntry) : List (ByteArray × Int) → Prop := fun ms => es.map (fun e => (e.key, e.val)) = ms.map (fun m => (Value.string m.1, Value.int .i64 m.2))
theorem entsS_keys {es : List MapEntry} {ms : List (ByteArray × Int)} (h : entsS es ms) : keysS es := fun e he => by
  have : (e.key, e.val) ∈ es.map (fun e => (e.key, e.val)) := List.mem_map.mpr ⟨e, he, rfl⟩
  rw [h] at this
  obtain ⟨m, _, hm⟩ := List.mem_map.mp this
  exact ⟨m.1, by injection hm with h1 _; exact h1.symm⟩
/-- A map that is owned. -/
def Mp (H : Hp) (p : Value) (S : Rg) (ms : List (ByteArray × Int)) : Prop := ∃ r es c, p = .map (some r) ∧ H r = some (.map es c) ∧ entsS es.toList ms ∧ ∀ b, S b ↔ b = r
section
variable {H H' : Hp} {p : Value} {S : Rg} {ms : List (ByteArray × Int)}
theorem Mp.known (h : Mp H p S ms) : Kn H S := by
  obtain ⟨r, es, c, _, hr, _, hS⟩ := h
  intro b hb
  rw [(hS b).mp hb]; exact ⟨_, hr⟩
theorem Mp.le (h : Mp H p S ms) (hl : Le H H') : Mp H' p S ms := by
  obtain ⟨r, es, c, e, hr, he, hS⟩ := h
  exact ⟨r, es, c, e, hl r _ hr, he, hS⟩
theorem Mp.off {w : Value} (h : Mp H p S ms) (ho : Off w H H') (ha : Apt S w) : Mp H' p S ms := by
  obtain ⟨r, es, c, e, hr, he, hS⟩ := h
  exact ⟨r, es, c, e, ho r _ hr (ha r ((hS r).mpr rfl)), he, hS⟩
theorem Mp.offS {T : Rg} (h : Mp H p S ms) (ho : OffS T H H') (ha : Apt S T) : Mp H' p S ms := by
  obtain ⟨r, es, c, e, hr, he, hS⟩ := h
  exact ⟨r, es, c, e, ho r _ hr (ha r ((hS r).mpr rfl)), he, hS⟩
/-- A new map. -/
theorem Mp.new_ {K : Value → Hp → Prop} (hk : ∀ p S H', Mp H' p S [] → Nws H S → Le H H' → K p H') : opEv.nwM H K := fun r hr =>
  hk (.map (some r)) (fun b => b = r) (H.put r (.map #[] 0)) ⟨r, #[], 0, rfl, Hp.put_same _ _ _, rfl, fun _ => Iff.rfl⟩ (fun b hb => by have : b = r := hb; rw [this]; exact hr) (Le.put _ hr)
/-- What the map has at a text. -/
def mget (k : ByteArray) : List (ByteArray × Int) → Option Int
  | [] => none
  | m :: ms => bif k == m.1 then some m.2 else mget k ms
theorem findS_mget (k : ByteArray) : ∀ (es : List MapEntry) (ms : List (ByteArray × Int)) (i : Nat), entsS es ms → (findS k es i).map Prod.snd = (mget k ms).map (Value.int .i64)
  | [], [], _, _ => rfl
  | e :: es, m :: ms, i, h => by
    simp only [entsS, List.map_cons, List.cons.injEq, Prod.mk.injEq] at h
    obtain ⟨⟨h1, h2⟩, h3⟩ := h
    have ih := findS_mget k es ms (i + 1) h3
    unfold findS mget
    rw [h1]
    simp only [keyIs]
    cases k == m.1
    · exact ih
    · simp [h2]
  | [], _ :: _, _, h => by simp [entsS] at h
  | _ :: _, [], _, h => by simp [entsS] at h
theorem Mp.look {P : Program} {t kt et : TypeId} {k : ByteArray} {K : Value → Hp → Prop} (h : Mp H p S ms) (ht : P.underlying t = some (.map kt et)) (hk : P.underlying kt = some .string) (hz : zeroO P et = some (.int .i64 0))
    (hK : K (.tuple #[.int .i64 ((mget k ms).getD 0), .bool (mget k ms).isSome]) H) : hp P (Instr.lookup t p (.string k) true) H K := by
  obtain ⟨r, es, c, rfl, hr, he, hS⟩ := h
  refine hp_lookup ht hk hz hr (entsS_keys he) ?_
  have e := findS_mget k es.toList ms 0 he
  cases hf : findS k es.toList 0 with
  | none =>
    rw [hf] at e
    cases hm : mget k ms with
    | none => rw [hm] at hK; exact hK
    | some v => rw [hm] at e; simp at e
  | some x =>
    rw [hf] at e
    cases hm : mget k ms with
    | none => rw [hm] at e; simp at e
    | some v =>
      rw [hm] at hK e
      simp only [Option.map_some, Option.some.injEq] at e
      simp only [e]; exact hK
/-- One more entry. -/
theorem Mp.add {P : Program} {t kt et : TypeId} {k : ByteArray} {x : Int} {K : Unit → Hp → Prop} (h : Mp H p S ms) (ht : P.underlying t = some (.map kt et)) (hk : P.underlying kt = some .string) (hn : mget k ms = none)
    (hK : ∀ H', Mp H' p S (ms ++ [(k, x)]) → OffS S H H' → K () H') : hp P (Instr.mapUpdate t p (.string k) (.int .i64 x)) H K := by
  obtain ⟨r, es, c, rfl, hr, he, hS⟩ := h
  have e := findS_mget k es.toList ms 0 he
  have hf : findS k es.toList 0 = none := by
    rw [hn] at e
    cases h : findS k es.toList 0 with
    | none => rfl
    | some x => rw [h] at e; simp at e
  refine hp_mapUpdate_new ht hk hr (entsS_keys he) hf ?_
  refine hK _ ⟨r, _, c + 1, rfl, Hp.put_same _ _ _, ?_, hS⟩ (fun b o hb hn => ?_)
  · unfold entsS at he ⊢
    rw [Array.toList_push, List.map_append, he, List.map_append]; rfl
  · rw [Hp.put_ne _ _ (by rintro rfl; exact hn ((hS _).mpr rfl))]; exact hb
end
end Go.Proofs.YthocjpfibegjcaaGreatDoor.HL
/- Bytes in slices. -/
namespace Go.Proofs.YthocjpfibegjcaaGreatDoor.HL
abbrev eU : Int → Value := .int .u8
/-- Numbers that are bytes. -/
def bytP (l : List Int) : Prop := ∀ x ∈ l, 0 ≤ x ∧ x ≤ 255
end Go.Proofs.YthocjpfibegjcaaGreatDoor.HL
/- Bytes told as texts. -/
namespace Go.Proofs.YthocjpfibegjcaaGreatDoor.HL
set_option maxRecDepth 100000
def bytesS (s : ByteArray) (l : List Int) : ByteArray := l.foldl (fun s n => s.push (UInt8.ofNat n.toNat)) s
theorem val_bytesFrom (P : Program) (H : Hp) : ∀ (l : List Int) (s : ByteArray),
    val P (forIn (l.map eU) s fun c r => (match c with
      | Value.int IntKind.u8 n => pure (ForInStep.yield (r.push (UInt8.ofNat n.toNat)))
      | _ => do
        stuck "bytesToString: byte expected"
        pure (ForInStep.yield r) : Sem (ForInStep ByteArray))) H = some (bytesS s l)
  | [], s => rfl
  | n :: l, s => by
    simp only [List.map_cons, List.forIn_cons, val_bind', val_pure, Option.bind_some]
    exact val_bytesFrom P H l _
theorem val_bytesToString {P : Program} {H : Hp} {v : Value} {l : List Int} (h : Sl eU H v l) : val P (Conv.bytesToString v) H = some (.string (bytesS .empty l)) := by
  have hf := h.firstC
  obtain ⟨a, c, rfl, hc, hr⟩ := h
  cases a with
  | none =>
    have : l = [] := by
      cases l with
      | nil => rfl
      | cons x r => obtain ⟨ad, e, _⟩ := hr 0 (by simp); simp at e
    subst this
    rfl
  | some ad =>
    simp only [HL.firstC, Nat.mul_one] at hf
    unfold Conv.bytesToString
    simp only [val_bind', val_loadCells P H ad l.length _ hf, Option.bind_some]
    have := val_bytesFrom P H l .empty
    simp only [List.forIn_toArray]
    exact Eq.trans (congrArg (fun o => Option.bind o (fun v => val P (pure (Value.string v)) H)) this) rfl
theorem bytesS_data : ∀ (l : List Int) (s : ByteArray), (bytesS s l).data.toList = s.data.toList ++ l.map fun n => UInt8.ofNat n.toNat
  | [], s => by simp [bytesS]
  | n :: l, s => by
    have := bytesS_data l (s.push (UInt8.ofNat n.toNat))
    simp only [bytesS, List.foldl_cons, List.map_cons] at this ⊢
    rw [this, ByteArray.data_push, Array.toList_push, List.append_assoc]; rfl
theorem bytesS_inj {l m : List Int} (hl : ∀ x ∈ l, 0 ≤ x ∧ x ≤ 255) (hm : ∀ x ∈ m, 0 ≤ x ∧ x ≤ 255) (h : bytesS .empty l = bytesS .empty m) : l = m := by
  have e := congrArg (fun b => b.data.toList) h
  simp only [bytesS_data] at e
  have e2 := List.append_cancel_left e
  clear e h
  induction l generalizing m with
  | nil => cases m with
    | nil => rfl
    | cons y m => simp at e2
  | cons x l ih => cases m with
    | nil => simp at e2
    | cons y m =>
      simp only [List.map_cons, List.cons.injEq] at e2
      have b1 := hl x (by simp)
      have b2 := hm y (by simp)
      have e3 : x = y := by
        have := congrArg UInt8.toNat e2.1
        simp only [UInt8.toNat_ofNat'] at this
        omega
      rw [e3, ih (fun z hz => hl z (by simp [hz])) (fun z hz => hm z (by simp [hz])) e2.2]
theorem beq_bytes (a b : ByteArray) : (a == b) = decide (a = b) := by
  have e : (a == b) = (a.data == b.data) := rfl
  rw [e, Bool.eq_iff_iff, decide_eq_true_eq, beq_iff_eq]
  exact ⟨fun h => ByteArray.ext h, fun h => congrArg ByteArray.data h⟩
end Go.Proofs.YthocjpfibegjcaaGreatDoor.HL
/- Lanes that are switched: what the program's and the reference's functions come to. -/
namespace Go.Proofs.YthocjpfibegjcaaGreatDoor
open HL
set_option maxRecDepth 100000
/-- May the car at i leave lane a for lane b? -/
def chg (a b : List Int) (i : Int) : Prop :=
  0 ≤ at_ 0 a i ∧ 0 ≤ at_ 0 a ((i + 1).tmod a.length) ∧ at_ 0 b i < 0 ∧ at_ 0 b ((i + 1).tmod a.length) < 0 ∧ at_ 0 b ((i + a.length - 1).tmod a.length) < 0
instance (a b : List Int) (i : Int) : Decidable (chg a b i) := by unfold chg; infer_instance
theorem tmod_lt {i n : Int} (h : 0 ≤ i) (hn : 0 < n) : 0 ≤ i.tmod n ∧ i.tmod n < n := ⟨Int.tmod_nonneg _ h, Int.tmod_lt_of_pos _ hn⟩
/-- Numbers from k on. -/
def ramp (k : Int) (n : Nat) : List Int := (List.range n).map fun (i : Nat) => k + i
theorem ramp_length (k : Int) (n : Nat) : (ramp k n).length = n := by simp [ramp]
theorem ramp_succ (k : Int) (n : Nat) : ramp k (n + 1) = ramp k n ++ [k + n] := by simp [ramp, List.range_succ]
theorem C.laws_markInt64S {a : Value} {l : List Int} {k : Int} {H : Hp} {K : Value → Hp → Prop} (ha : Own eI H a l) (hl : l.length ≤ 4611686018427387904) (hk0 : 0 ≤ k) (hk1 : k ≤ 4611686018427387903)
    (hk : ∀ H', Own eI H' a (ramp k l.length) → Off a H H' → K (.int .i64 (k + l.length)) H') : HT prg I.laws_markInt64S [a, .int .i64 k].toArray H K := by
  refine R.laws_markInt64S ?_
  unfold F.laws_markInt64S jn; dsimp only
  refine ⟨fun n σ H1 => ∃ i : Nat, n = l.length - i ∧ i ≤ l.length ∧ σ 0 = a ∧ σ 1 = .int .i64 (k + i) ∧ σ 5 = .int .i64 i ∧ Own eI H1 a (ramp k i ++ l.drop i) ∧ Off a H H1,
    ⟨_, 0, rfl, by omega, rfl, by show Value.int .i64 k = _; simp, rfl, by simpa [ramp] using ha, fun b o hb _ => hb⟩, ?_⟩
  rintro n σ H1 ⟨i, rfl, hi', h0, h1, h5, ho, hoff⟩
  have hlen : (ramp k i ++ l.drop i).length = l.length := by simp [ramp_length]; omega
  have hlen2 := ho.len
  rw [hlen] at hlen2
  simp only [h0, h1, h5, hlen2, vInt_lss, ob_some]
  refine cnd_d (fun hlt => ?_) (fun hge => ?_)
  · have hlt' : i < l.length := by omega
    rw [ho.sl.ix (by omega) (by rw [hlen]; omega), ob_some]
    refine ho.st (x := k + i) (by omega) (by rw [hlen]; omega) rfl rfl (fun H2 ho2 hoff2 => ?_)
    rw [vInt_add (by omega) (by omega), ob_some, vInt_add (by omega) (by omega), ob_some]
    refine nxt (l.length - (i + 1)) (by omega) ⟨i + 1, rfl, by omega, h0, ?_, rfl, ?_, hoff.trans hoff2⟩
    · show Value.int .i64 (k + i + 1) = _
      congr 1; omega
    · have e : (ramp k i ++ l.drop i).set (i : Int).toNat (k + i) = ramp k (i + 1) ++ l.drop (i + 1) := by
        rw [ramp_succ, Int.toNat_natCast, List.set_append_right _ _ (by rw [ramp_length]; exact Nat.le_refl _), ramp_length, Nat.sub_self, List.drop_eq_getElem_cons hlt']
        simp only [List.set_cons_zero, List.append_assoc, List.singleton_append]
      rw [← e]; exact ho2
  · have : i = l.length := by omega
    subst this
    refine retK (K := K) h1 (hk H1 ?_ hoff)
    simpa using ho
theorem ramp_take (k : Int) (n i : Nat) (h : i ≤ n) : (ramp k n).take i = ramp k i := by
  simp only [ramp, ← List.map_take, List.take_range, Nat.min_eq_left h]
theorem at_ramp (k : Int) (n i : Nat) (h : i < n) : at_ 0 (ramp k n) (i : Int) = k + i := by
  rw [at_eq 0 _ (by rw [ramp_length]; exact h)]; simp [ramp]
theorem C.laws_heldInt64S {a : Value} {k : Int} {m : Nat} {H : Hp} {K : Value → Hp → Prop} (ha : Sl eI H a (ramp k m)) (hl : m ≤ 4611686018427387904) (hk0 : 0 ≤ k) (hk1 : k ≤ 4611686018427387903)
    (hk : K (.int .i64 (k + m)) H) : HT prg I.laws_heldInt64S [a, .int .i64 k].toArray H K := by
  refine R.laws_heldInt64S ?_
  unfold F.laws_heldInt64S jn; dsimp only
  have hlen := ha.len
  rw [ramp_length] at hlen
  refine ⟨fun n σ H1 => ∃ i : Nat, n = m - i ∧ i ≤ m ∧ H1 = H ∧ σ 0 = a ∧ σ 1 = .int .i64 (k + i) ∧ σ 5 = .int .i64 i,
    ⟨_, 0, rfl, by omega, rfl, rfl, by show Value.int .i64 k = _; simp, rfl⟩, ?_⟩
  rintro n σ H1 ⟨i, rfl, hi', rfl, h0, h1, h5⟩
  simp only [h0, h1, h5, hlen, vInt_lss, ob_some]
  refine cnd_d (fun hlt => ?_) (fun hge => ?_)
  · have hlt' : i < m := by omega
    rw [ha.ix (by omega) (by rw [ramp_length]; omega), ob_some, ha.ld 0 (by omega) (by rw [ramp_length]; omega), ob_some, at_ramp k m i hlt', vInt_neq, ob_some]
    refine cnd_d (fun hne => absurd rfl hne) (fun _ => ?_)
    rw [vInt_add (by omega) (by omega), ob_some, vInt_add (by omega) (by omega), ob_some]
    refine nxt (m - (i + 1)) (by omega) ⟨i + 1, rfl, by omega, rfl, h0, ?_, rfl⟩
    show Value.int .i64 (k + i + 1) = _
    congr 1; omega
  · have : i = m := by omega
    subst this
    exact retK (K := K) h1 hk
theorem C.slices_Clone_int64Zint64 {a : Value} {l : List Int} {H : Hp} {K : Value → Hp → Prop} (ha : Sl eI H a l) (hl : l.length ≤ 68719476736) (hk : ∀ v H', Own eI H' v l → Nw H v → Le H H' → K v H') :
    HT prg I.slices_Clone_int64Zint64 [a].toArray H K := by
  refine R.slices_Clone_int64Zint64 ?_
  unfold F.slices_Clone_int64Zint64
  obtain ⟨p, c, rfl, hc, hr⟩ := id ha
  show cnd (.bool p.isNone) _ _
  cases p with
  | none =>
    have : l = [] := by
      cases l with
      | nil => rfl
      | cons x r => obtain ⟨ad, h, _⟩ := hr 0 (by simp); cases h
    subst this
    exact hk _ H ⟨none, 0, rfl, by simp, fun h => absurd h (by simp)⟩ (fun b hb => by simp [bk] at hb) (Le.refl H)
  | some p => exact clone_i (b := 8) ha (fun _ => rfl) (by omega) hl (fun _ => hk)
def swp (a b : List Int) (i : Nat) : Int := if chg a b i ∨ chg b a i then at_ 0 b i else at_ 0 a i
def swL (a b : List Int) (k : Nat) : List Int := (List.range k).map (swp a b) ++ a.drop k
theorem swL_length {a b : List Int} {k : Nat} (h : k ≤ a.length) : (swL a b k).length = a.length := by simp [swL]; omega
theorem swL_set {a b : List Int} {k : Nat} (h : k < a.length) (x : Int) (hx : x = swp a b k) : (swL a b k).set (k : Int).toNat x = swL a b (k + 1) := by
  subst hx
  unfold swL
  rw [Int.toNat_natCast, List.set_append_right _ _ (by simp), List.length_map, List.length_range, Nat.sub_self, List.drop_eq_getElem_cons h, List.range_succ]
  simp only [List.set_cons_zero, List.map_append, List.map_cons, List.map_nil, List.append_assoc, List.singleton_append]
theorem swL_keep {a b : List Int} {k : Nat} (h : k < a.length) (hx : ¬ (chg a b k ∨ chg b a k)) : swL a b (k + 1) = swL a b k := by
  have : swp a b k = a[k] := by unfold swp; rw [if_neg hx, at_eq 0 a h]
  unfold swL
  rw [List.range_succ, List.drop_eq_getElem_cons h]
  simp only [List.map_append, List.map_cons, List.map_nil, List.append_assoc, List.singleton_append, this]
def okSw (l m : List Int) : Prop := isLane l ∧ isLane m ∧ l.length = m.length
instance (l m : List Int) : Decidable (okSw l m) := by unfold okSw; infer_instance
def sw1 (l m : List Int) : List Int := if okSw l m then swL l m l.length else []
def sw2 (l m : List Int) : List Int := if okSw l m then swL m l m.length else []
theorem swOneLen {l m : List Int} {n : Nat} (h : l.length ≤ n) : (sw1 l m).length ≤ n := by
  unfold sw1; split
  · rw [swL_length (Nat.le_refl _)]; exact h
  · simp
theorem swTwoLen {l m : List Int} {n : Nat} (h : m.length ≤ n) : (sw2 l m).length ≤ n := by
  unfold sw2; split
  · rw [swL_length (Nat.le_refl _)]; exact h
  · simp
theorem st_new {x y : Value} {e : TypeId} {H : Hp} {r : Nat} {K : Hp → Prop} (ho : oneCell y = true) (hz : y.cells = #[y])
    (hk : ∀ H', (∀ b, b ≠ r → H' b = H b) → vLoad (.pointer (some ⟨r, 0, none⟩)) H' = some y → (∃ o, H' r = some o) → K H') : st 1 (.pointer (some ⟨r, 0, none⟩)) y (H.put r (.cells #[x] e)) K := by
  simp only [HL.st, hz, List.toList_toArray, List.size_toArray, List.length_singleton, true_and, stC, add_none, Nat.add_zero]
  refine ⟨ho, by simp [Hp.cell?, Hp.put_same], by simp [Hp.frozen?, Hp.put_same], ?_⟩
  have e1 : (H.put r (.cells #[x] e)).setCell ⟨r, 0, none⟩ y = H.put r (.cells #[y] e) := by
    unfold Hp.setCell
    simp only [Hp.put_same, Hp.put_put]
    rfl
  rw [e1]
  refine hk _ (fun b hb => Hp.put_ne _ _ hb) ?_ ⟨_, Hp.put_same _ _ _⟩
  simp [vLoad, Hp.cell?, Hp.put_same]
theorem vLoad_le {p v : Value} {H H' : Hp} (h : vLoad p H = some v) (hl : Le H H') : vLoad p H' = some v := by
  cases p <;> simp only [vLoad] at h ⊢ <;> try (simp at h; done)
  rename_i a
  cases a <;> simp only at h ⊢ <;> try (simp at h; done)
  exact hl.cell h
/-- All but two slices' blocks stay: so a cell elsewhere does. -/
theorem vLoad_off {r : Nat} {v x : Value} {H H' : Hp} (h : vLoad (.pointer (some ⟨r, 0, none⟩)) H = some v) (ho : Off x H H') (hx : bk x ≠ some r) : vLoad (.pointer (some ⟨r, 0, none⟩)) H' = some v := by
  simp only [vLoad, Hp.cell?] at h ⊢
  cases hr : H r with
  | none => simp [hr] at h
  | some o => rw [ho r o hr hx]; rw [hr] at h; exact h
end Go.Proofs.YthocjpfibegjcaaGreatDoor
/- What the small functions of structs come to: copies, sizes, what is alike. -/
namespace Go.Proofs.YthocjpfibegjcaaGreatDoor
open HL
set_option maxRecDepth 100000
theorem C.laws_toField {xa : Int} {xb : Int} {xc : Value} {sxc : List Int} {H : Hp} {K : Value → Hp → Prop} (hxc0 : Sl eI H xc sxc) (msxc : (sxc).length ≤ 17592186044416)
    (hk : ∀ uc H', Own eI H' uc sxc → Nw H uc → Le H H' → K (.agg #[(.int .i64 (xa)), (.int .i64 (xb)), uc]) H') : HT prg I.laws_toField [(.agg #[(.int .i64 (xa)), (.int .i64 (xb)), xc])].toArray H K := by
  have lE := Le.refl H
  have hxc := hxc0
  refine R.laws_toField ?_
  unfold F.laws_toField
  refine nw_i (fun p1 H2 op1 nn3 le4 => ?_)
  have np1 : Nw H p1 := nn3.le lE
  replace hxc := hxc.le le4
  replace lE := lE.trans le4
  replace op1 : Cel H2 p1 [(.int .i64 (xa)), (.int .i64 (xb)), xc] := op1
  refine nw_i (fun p5 H6 op5 nn7 le8 => ?_)
  have ap1Xp5 : Apart p1 p5 := op1.apart nn7
  have np5 : Nw H p5 := nn7.le lE
  replace op1 := op1.le le8
  replace hxc := hxc.le le8
  replace lE := lE.trans le8
  replace op5 : Cel H6 p5 [(.int .i64 (0)), (.int .i64 (0)), (.slice none 0 0)] := op5
  refine nw_i (fun p9 H10 op9 nn11 le12 => ?_)
  have ap1Xp9 : Apart p1 p9 := op1.apart nn11
  have ap5Xp9 : Apart p5 p9 := op5.apart nn11
  have np9 : Nw H p9 := nn11.le lE
  replace op1 := op1.le le12
  replace op5 := op5.le le12
  replace hxc := hxc.le le12
  replace lE := lE.trans le12
  replace op9 : Cel H10 p9 [(.int .i64 (0)), (.int .i64 (0)), (.slice none 0 0)] := op9
  refine ob_i (op1.fa 0) ?_
  refine ob_i (op1.ld 0 rfl) ?_
  refine ob_i (op9.fa 0) ?_
  refine op9.st (by simp) rfl rfl (fun H13 op9 off14 => ?_)
  replace op1 := op1.off off14 ap1Xp9
  replace op5 := op5.off off14 ap5Xp9
  replace hxc := hxc0.le (off14.le lE np9)
  replace lE := off14.le lE np9
  replace op9 : Cel H13 p9 [(.int .i64 (xa)), (.int .i64 (0)), (.slice none 0 0)] := op9
  refine ob_i (op1.fa 1) ?_
  refine ob_i (op1.ld 1 rfl) ?_
  refine ob_i (op9.fa 1) ?_
  refine op9.st (by simp) rfl rfl (fun H15 op9 off16 => ?_)
  replace op1 := op1.off off16 ap1Xp9
  replace op5 := op5.off off16 ap5Xp9
  replace hxc := hxc0.le (off16.le lE np9)
  replace lE := off16.le lE np9
  replace op9 : Cel H15 p9 [(.int .i64 (xa)), (.int .i64 (xb)), (.slice none 0 0)] := op9
  refine ob_i (op1.fa 2) ?_
  refine ob_i (op1.ld 2 rfl) ?_
  refine C.laws_toInt64S hxc (by omega) (fun u17 H18 ou17 nn19 le20 => ?_)
  have ap1Xu17 : Apart p1 u17 := op1.apart nn19
  have ap5Xu17 : Apart p5 u17 := op5.apart nn19
  have ap9Xu17 : Apart p9 u17 := op9.apart nn19
  have nu17 : Nw H u17 := nn19.le lE
  replace op1 := op1.le le20
  replace op5 := op5.le le20
  replace op9 := op9.le le20
  replace hxc := hxc.le le20
  replace lE := lE.trans le20
  refine ob_i (op9.fa 2) ?_
  refine op9.st (by simp) ou17.one ou17.cells (fun H21 op9 off22 => ?_)
  replace op1 := op1.off off22 ap1Xp9
  replace op5 := op5.off off22 ap5Xp9
  replace ou17 := ou17.off off22 ap9Xu17.symm
  replace hxc := hxc0.le (off22.le lE np9)
  replace lE := off22.le lE np9
  replace op9 : Cel H21 p9 [(.int .i64 (xa)), (.int .i64 (xb)), u17] := op9
  refine ob_i (op9.ldn rfl) ?_
  refine op5.stn (ws := [(.int .i64 (xa)), (.int .i64 (xb)), u17]) rfl rfl (oc1 rfl (oc1 rfl (oc1 ou17.one oc0))) (fun H23 op5 off24 => ?_)
  replace op1 := op1.off off24 ap1Xp5
  replace op9 := op9.off off24 ap5Xp9.symm
  replace ou17 := ou17.off off24 ap5Xu17.symm
  replace hxc := hxc0.le (off24.le lE np5)
  replace lE := off24.le lE np5
  replace op5 : Cel H23 p5 [(.int .i64 (xa)), (.int .i64 (xb)), u17] := op5
  refine ob_i (op5.ldn rfl) ?_
  exact hk u17 _ ou17 nu17  lE

theorem C.laws_szField {xa : Int} {xb : Int} {xc : Value} {sxc : List Int} {k : Int} {H : Hp} {K : Value → Hp → Prop} (hxc0 : Sl eI H xc sxc) (msxc : (sxc).length ≤ 9223372036854775807) (hk0 : 0 ≤ k) (hk1 : k < 9223372036854775808) (h1 : ∀ H', Le H H' → K (.int .i64 (-1)) H')
    (h2 : ∀ H', Le H H' → 0 ≤ k - (sxc).length → K (.int .i64 (k - (sxc).length)) H') : HT prg I.laws_szField [(.agg #[(.int .i64 (xa)), (.int .i64 (xb)), xc]), .int .i64 k].toArray H K := by
  have lE := Le.refl H
  have hxc := hxc0
  refine R.laws_szField ?_
  unfold F.laws_szField
  refine nw_i (fun p1 H2 op1 nn3 le4 => ?_)
  have np1 : Nw H p1 := nn3.le lE
  replace hxc := hxc.le le4
  replace lE := lE.trans le4
  replace op1 : Cel H2 p1 [(.int .i64 (xa)), (.int .i64 (xb)), xc] := op1
  refine ob_i (op1.fa 2) ?_
  refine ob_i (op1.ld 2 rfl) ?_
  refine C.laws_szInt64S hxc.len (by omega) (by omega) (fun hz5 => ?_) (fun hz5 => ?_)
  · skip
    refine ob_i (vInt_lss_t (by omega)) ?_
    refine cnd_t1 ?_
    exact h1 _ lE
  refine ob_i (vInt_lss_f (by omega)) ?_
  refine cnd_f1 ?_
  exact h2 _ lE (by omega)

theorem C.laws_eqField {xa : Int} {xb : Int} {xc : Value} {sxc : List Int} {yc : Value} {H : Hp} {K : Value → Hp → Prop} (hxc0 : Sl eI H xc sxc) (hyc0 : Sl eI H yc sxc) (msxc : (sxc).length ≤ 9223372036854775807)
    (hk : ∀ H', Le H H' → K (.bool true) H') : HT prg I.laws_eqField [(.agg #[(.int .i64 (xa)), (.int .i64 (xb)), xc]), (.agg #[(.int .i64 (xa)), (.int .i64 (xb)), yc])].toArray H K := by
  have lE := Le.refl H
  have hxc := hxc0
  have hyc := hyc0
  refine R.laws_eqField ?_
  unfold F.laws_eqField
  refine nw_i (fun p1 H2 op1 nn3 le4 => ?_)
  have np1 : Nw H p1 := nn3.le lE
  replace hxc := hxc.le le4
  replace hyc := hyc.le le4
  replace lE := lE.trans le4
  replace op1 : Cel H2 p1 [(.int .i64 (xa)), (.int .i64 (xb)), xc] := op1
  refine nw_i (fun p5 H6 op5 nn7 le8 => ?_)
  have ap1Xp5 : Apart p1 p5 := op1.apart nn7
  have np5 : Nw H p5 := nn7.le lE
  replace op1 := op1.le le8
  replace hxc := hxc.le le8
  replace hyc := hyc.le le8
  replace lE := lE.trans le8
  replace op5 : Cel H6 p5 [(.int .i64 (xa)), (.int .i64 (xb)), yc] := op5
  refine ob_i (op1.fa 0) ?_
  refine ob_i (op1.ld 0 rfl) ?_
  refine ob_i (op5.fa 0) ?_
  refine ob_i (op5.ld 0 rfl) ?_
  refine ob_i (vInt_neq_same _ _) ?_
  refine cnd_f1 ?_
  refine ob_i (op1.fa 1) ?_
  refine ob_i (op1.ld 1 rfl) ?_
  refine ob_i (op5.fa 1) ?_
  refine ob_i (op5.ld 1 rfl) ?_
  refine ob_i (vInt_neq_same _ _) ?_
  refine cnd_f1 ?_
  refine ob_i (op1.fa 2) ?_
  refine ob_i (op1.ld 2 rfl) ?_
  refine ob_i (op5.fa 2) ?_
  refine ob_i (op5.ld 2 rfl) ?_
  refine C.laws_eqInt64S hxc hyc (by omega) ?_
  rw [decide_eq_true rfl]
  refine ob_i (a := .bool false) rfl ?_
  refine cnd_f1 ?_
  exact hk _ lE
end Go.Proofs.YthocjpfibegjcaaGreatDoor
/- Slices of fields that are compared, marked and held. -/
namespace Go.Proofs.YthocjpfibegjcaaGreatDoor
open HL
set_option maxRecDepth 100000
namespace HL
theorem at_get {α : Type} (d : α) {l : List α} {i : Nat} (h : i < l.length) : at_ d l (i : Int) = l[i] := by
  unfold at_; rw [List.getD_eq_getElem?_getD, Int.toNat_natCast, List.getElem?_eq_getElem h]; rfl
/-- A write of one cell of an element. -/
theorem OwnE.stj {α : Type} {enc : α → List Value} {n : Nat} {H : Hp} {v : Value} {l : List α} (h : OwnE n enc H v l) (hn : ∀ x, (enc x).length = n) {i j : Nat} {x : Value} {y : α} {K : Hp → Prop} (hi : i < l.length) (hj : j < n) (hy : enc y = (enc l[i]).set j x)
    (h1 : oneCell x = true) (h2 : x.cells = #[x]) (hk : ∀ H', OwnE n enc H' v (l.set i y) → Off v H H' → K H') : st 1 (fp (ptrE n v (i : Int)) j) x H K := by
  have fl := flat_len hn l
  have fl2 := flat_len hn (l.set i y)
  rw [List.length_set] at fl2
  have hx := flat_ix (n := n) hi hj
  obtain ⟨a, c, rfl, hc, hr⟩ := h
  have hmul : l.length * n ≤ c * n := Nat.mul_le_mul_right n hc
  obtain ⟨b, off, cs, e, rfl, hb, hs, hcs⟩ := hr (by omega)
  have hpos : i * n + j < (l.flatMap enc).length := by omega
  simp only [HL.st, ptrE, fp, add_add, Int.toNat_natCast, h2, List.toList_toArray, List.size_toArray, List.length_singleton, true_and, stC]
  refine ⟨h1, ?_, ?_, ?_⟩
  · simp only [Hp.cell?, add_none, hb, Nat.add_zero, hcs _ hpos]; rfl
  · simp only [Hp.frozen?, add_none, hb]; simp
  · refine hk _ ⟨_, c, by simp, by simpa using hc, fun _ => ⟨b, off, cs.setIfInBounds (off + (i * n + j)) x, e, rfl, ?_, by simpa using hs, ?_⟩⟩ ?_
    · simp only [Hp.setCell, add_none, hb, Nat.add_zero, Hp.put_same]; rfl
    · intro t ht
      rw [fl2] at ht
      have h0 : 0 < n := by omega
      have hq : t / n < l.length := Nat.div_lt_of_lt_mul (by rw [Nat.mul_comm]; exact ht)
      have hm : t % n < n := Nat.mod_lt _ h0
      have et : t = t / n * n + t % n := by rw [Nat.mul_comm]; exact (Nat.div_add_mod t n).symm
      have g1 := flat_get hn l (t / n) (t % n) hq hm
      have g2 := flat_get hn (l.set i y) (t / n) (t % n) (by simpa using hq) hm
      rw [← et] at g1 g2
      rw [← List.getElem?_eq_getElem, g2, Array.getElem?_setIfInBounds, hcs t (by omega), ← List.getElem?_eq_getElem, g1]
      by_cases e1 : i = t / n
      · have e3 : (l.set i y)[t / n]'(by simpa using hq) = y := by simp [e1]
        rw [e3, hy]
        by_cases e2 : j = t % n
        · have e4 : i * n + j = t := by rw [e1, e2]; exact et.symm
          rw [if_pos (by omega), if_pos (by omega), ← e2, List.getElem?_set_self (by rw [hn]; exact hj)]
        · have : i * n + j ≠ t := by rw [e1]; omega
          have e5 : l[i] = l[t / n] := by simp only [e1]
          rw [if_neg (by omega), List.getElem?_set_ne e2, e5]
      · have e3 : (l.set i y)[t / n]'(by simpa using hq) = l[t / n] := List.getElem_set_ne e1 _
        have hne : i * n + j ≠ t := by
          intro h
          apply e1
          rw [← h, Nat.mul_comm, Nat.mul_add_div h0, Nat.div_eq_of_lt hj]; omega
        rw [e3, if_neg (by omega)]
    · intro x' o ho hv
      simp only [bk] at hv
      rw [if_neg (by omega)] at hv
      simp only [Hp.setCell, add_none, hb]
      rw [Hp.put_ne _ _ (by rintro rfl; exact hv rfl)]
      exact ho
/-- A new row of elements. -/
theorem bSE_i {α : Type} {enc : α → List Value} {n len : Nat} {z : Array Value} {e : TypeId} {parts : List (Nat × Value)} {l : List α} {H : Hp} {K : Value → Hp → Prop} (h1 : len * n ≤ 1000000) (hl : l.length = len) (hn : ∀ x, (enc x).length = n)
    (hf : Instr.fill (fun i => some (i * n, n)) (if len * n = 0 then #[] else zrow z (len * n)) parts = some (l.flatMap enc).toArray) (hk : ∀ v H', OwnE n enc H' v l → Nw H v → Le H H' → K v H') : bS n len z e parts H K := by
  refine ⟨by omega, ?_⟩
  rw [hf]
  intro r hr
  subst hl
  have fl := flat_len hn l
  refine hk _ _ ⟨some ⟨r, 0, none⟩, l.length, rfl, Nat.le_refl _, fun _ => ⟨r, 0, _, e, rfl, Hp.put_same _ _ _, by simp only [List.size_toArray]; omega, fun i hi => by simp [hi]⟩⟩ ?_ (Le.put _ hr)
  intro b hb
  simp only [bk] at hb
  split at hb
  · simp at hb
  · simp only [Option.some.injEq] at hb; subst hb; exact hr
/-- Fields that are read. -/
def FamS (H : Hp) (v : Value) (fs : List FdL) : Prop := ∃ L, SlE 3 encFv H v L ∧ RelF (Sl eI H) L fs
section
variable {H H' : Hp} {v : Value} {S : Rg} {fs : List FdL}
theorem Fam.sl (h : Fam H v S fs) : FamS H v fs := by
  obtain ⟨L, h1, h2, _⟩ := h
  exact ⟨L, h1.sl encFv_n, h2.imp (fun _ _ _ h => h.sl)⟩
theorem FamS.le (h : FamS H v fs) (hl : Le H H') : FamS H' v fs := by
  obtain ⟨L, h1, h2⟩ := h
  exact ⟨L, h1.le hl, h2.imp (fun _ _ _ h => h.le hl)⟩
theorem FamS.len (h : FamS H v fs) : vLenSl v = some (.int .i64 fs.length) := by
  obtain ⟨L, h1, h2⟩ := h
  rw [h1.len, h2.len]
theorem FamS.one (h : FamS H v fs) : oneCell v = true := by obtain ⟨L, h1, _⟩ := h; exact h1.one
theorem FamS.cells (h : FamS H v fs) : v.cells = #[v] := by obtain ⟨L, h1, _⟩ := h; exact h1.cells
theorem FamS.cast {gs : List FdL} (e : fs = gs) (h : FamS H v fs) : FamS H v gs := e ▸ h
theorem FamS.ix (h : FamS H v fs) {i : Int} (h0 : 0 ≤ i) (h1 : i < fs.length) : vIx 3 v (.int .i64 i) = some (ptrE 3 v i) := by
  obtain ⟨L, g1, g2⟩ := h
  exact g1.ix encFv_n (by omega) h0 (by rw [g2.len]; exact h1)
theorem FamS.at_ (h : FamS H v fs) {i : Nat} (h1 : i < fs.length) : ∃ x, vLoadN 3 (ptrE 3 v i) H = some (.agg #[.int .i64 (at_ fd0 fs (i : Int)).r, .int .i64 (at_ fd0 fs (i : Int)).c, x]) ∧ Sl eI H x (at_ fd0 fs (i : Int)).l ∧
    vLoad (fp (ptrE 3 v i) 0) H = some (.int .i64 (at_ fd0 fs (i : Int)).r) ∧ vLoad (fp (ptrE 3 v i) 1) H = some (.int .i64 (at_ fd0 fs (i : Int)).c) ∧ vLoad (fp (ptrE 3 v i) 2) H = some x ∧ vFa 0 (ptrE 3 v i) = some (fp (ptrE 3 v i) 0) ∧ vFa 1 (ptrE 3 v i) = some (fp (ptrE 3 v i) 1) ∧ vFa 2 (ptrE 3 v i) = some (fp (ptrE 3 v i) 2) := by
  obtain ⟨L, g1, g2⟩ := h
  have hi : (i : Int) < L.length := by rw [g2.len]; omega
  obtain ⟨e1, e2, e3⟩ := g2.get (i := i) (by omega)
  have e := g1.ldn encFv_n (by omega) fv0 (i := (i : Int)) (by omega) hi
  refine ⟨_, ?_, e3, ?_, ?_, ?_, g1.fa encFv_n (by omega) (by omega) hi 0, g1.fa encFv_n (by omega) (by omega) hi 1, g1.fa encFv_n (by omega) (by omega) hi 2⟩
  · rw [e]; simp only [encFv, e1, e2]
  · rw [g1.ld encFv_n (by omega) fv0 (by omega) hi (k := 0) (by omega) rfl, e1]
  · rw [g1.ld encFv_n (by omega) fv0 (by omega) hi (k := 1) (by omega) rfl, e2]
  · exact g1.ld encFv_n (by omega) fv0 (by omega) hi (k := 2) (by omega) rfl
theorem FamS.at0 (h : FamS H v fs) {i : Nat} (h1 : i < fs.length) : ∃ x, (∀ H', Le H H' → vLoadN 3 (ptrE 3 v i) H' = some (.agg #[.int .i64 (HL.at_ fd0 fs (i : Int)).r, .int .i64 (HL.at_ fd0 fs (i : Int)).c, x])) ∧ Sl eI H x (HL.at_ fd0 fs (i : Int)).l := by
  obtain ⟨L, g1, g2⟩ := h
  have hi : (i : Int) < L.length := by rw [g2.len]; omega
  obtain ⟨e1, e2, e3⟩ := g2.get (i := i) (by omega)
  refine ⟨_, fun H' le => ?_, e3⟩
  rw [(g1.le le).ldn encFv_n (by omega) fv0 (by omega) hi]
  simp only [encFv, e1, e2]
theorem RelF.set : ∀ {P : Value → List Int → Prop} {L : List Fv} {fs : List FdL} {i : Nat} {x : Fv} {f : FdL}, RelF P L fs → (x.r = f.r ∧ x.c = f.c ∧ P x.v f.l) → RelF P (L.set i x) (fs.set i f)
  | P, [], [], i, x, f, _, _ => trivial
  | P, y :: L, g :: fs, 0, x, f, h, hx => ⟨hx, h.2⟩
  | P, y :: L, g :: fs, i + 1, x, f, h, hx => ⟨h.1, RelF.set h.2 hx⟩
  | _, [], _ :: _, _, _, _, h, _ => h.elim
  | _, _ :: _, [], _, _, _, h, _ => h.elim
theorem RelF.gete {P : Value → List Int → Prop} {L : List Fv} {fs : List FdL} {i : Nat} (h : RelF P L fs) (h1 : i < L.length) (h2 : i < fs.length) : L[i].r = fs[i].r ∧ L[i].c = fs[i].c ∧ P L[i].v fs[i].l := by
  have := h.get h1
  rw [at_get fv0 h1, at_get fd0 h2] at this
  exact this
theorem Fam.setr {L : List Fv} {i : Nat} {x : Fv} (hi : i < L.length) (hx : x.v = L[i].v) : (∀ y ∈ L.set i x, ∃ z ∈ L, y.v = z.v) ∧ (∀ z ∈ L, ∃ y ∈ L.set i x, y.v = z.v) := by
  constructor
  · intro y hy
    rcases List.mem_or_eq_of_mem_set hy with h | rfl
    · exact ⟨y, h, rfl⟩
    · exact ⟨L[i], List.getElem_mem hi, hx⟩
  · intro z hz
    obtain ⟨j, hj, rfl⟩ := List.mem_iff_getElem.mp hz
    by_cases e : i = j
    · subst e; exact ⟨x, List.mem_iff_getElem.mpr ⟨i, by simpa using hi, by simp⟩, hx⟩
    · exact ⟨L[j], List.mem_iff_getElem.mpr ⟨j, by simpa using hj, List.getElem_set_ne e _⟩, rfl⟩
theorem Fam.pwr {L : List Fv} {i : Nat} {x : Fv} (hi : i < L.length) (hx : x.v = L[i].v) (h : L.Pairwise (fun x y => Apart x.v y.v)) : (L.set i x).Pairwise (fun x y => Apart x.v y.v) := by
  have e : (L.set i x).map Fv.v = L.map Fv.v := by
    rw [List.map_set, hx]
    apply List.ext_getElem (by simp)
    intro j h1 h2
    by_cases e : i = j
    · subst e; simp
    · rw [List.getElem_set_ne e]
  have h2 : (L.map Fv.v).Pairwise Apart := List.pairwise_map.mpr h
  rw [← e] at h2
  exact List.pairwise_map.mp h2
/-- Rows or columns written. -/
theorem Fam.sti (h : Fam H v S fs) {i j : Nat} {t : Int} {K : Hp → Prop} (hi : i < fs.length) (hj : j < 2)
    (hk : ∀ H', Fam H' v S (fs.set i (if j = 0 then ⟨t, fs[i].c, fs[i].l⟩ else ⟨fs[i].r, t, fs[i].l⟩)) → OffS S H H' → K H') : st 1 (fp (ptrE 3 v (i : Int)) j) (.int .i64 t) H K := by
  obtain ⟨L, h1, h2, h3, h4, h5⟩ := h
  have hi' : i < L.length := by rw [h2.len]; exact hi
  have g := h2.gete hi' hi
  obtain ⟨y, ey⟩ : ∃ y : Fv, y = (if j = 0 then ⟨t, L[i].c, L[i].v⟩ else ⟨L[i].r, t, L[i].v⟩) := ⟨_, rfl⟩
  have hyv : y.v = L[i].v := by rw [ey]; split <;> rfl
  have s1 := Fam.setr hi' hyv
  refine h1.stj encFv_n (y := y) hi' (by omega) ?_ rfl rfl (fun H' o off => ?_)
  · rw [ey]
    rcases (by omega : j = 0 ∨ j = 1) with rfl | rfl <;> rfl
  · refine hk H' ⟨_, o, ?_, ?_, Fam.pwr hi' hyv h4, fun b => ?_⟩ (fun b o hb hn => off b o hb (fun e => hn ((h5 b).mpr (.inl e))))
    · refine RelF.set (h2.imp (fun x hx _ h => h.off off (h3 x hx).symm)) ?_
      have g3 := g.2.2.off off (h3 _ (List.getElem_mem hi')).symm
      rw [ey]
      split
      · exact ⟨rfl, g.2.1, g3⟩
      · exact ⟨g.1, rfl, g3⟩
    · intro x hx
      obtain ⟨z, hz, e⟩ := s1.1 x hx
      rw [e]; exact h3 z hz
    · rw [h5 b]
      constructor
      · rintro (h | ⟨z, hz, e⟩)
        · exact .inl h
        · obtain ⟨x, hx, e2⟩ := s1.2 z hz
          exact .inr ⟨x, hx, by rw [e2]; exact e⟩
      · rintro (h | ⟨x, hx, e⟩)
        · exact .inl h
        · obtain ⟨z, hz, e2⟩ := s1.1 x hx
          exact .inr ⟨z, hz, by rw [← e2]; exact e⟩
/-- The cells of one of them, and what is put back. -/
theorem Fam.cut (h : Fam H v S fs) {i : Nat} (hi : i < fs.length) : ∃ x, vLoad (fp (ptrE 3 v (i : Int)) 2) H = some x ∧ Own eI H x fs[i].l ∧ ∀ H' m, Own eI H' x m → Off x H H' → Fam H' v S (fs.set i ⟨fs[i].r, fs[i].c, m⟩) ∧ OffS S H H' := by
  obtain ⟨L, h1, h2, h3, h4, h5⟩ := h
  have hi' : i < L.length := by rw [h2.len]; exact hi
  have g := h2.gete hi' hi
  have hx : ∀ b, bk L[i].v = some b → S b := fun b hb => (h5 b).mpr (.inr ⟨_, List.getElem_mem hi', hb⟩)
  refine ⟨L[i].v, ?_, g.2.2, fun H' m om off => ⟨⟨L, h1.off off (h3 _ (List.getElem_mem hi')), ?_, h3, h4, h5⟩, fun b o hb hn => off b o hb (fun e => hn (hx b e))⟩⟩
  · have := (h1.sl encFv_n).ld encFv_n (by omega) fv0 (i := (i : Int)) (by omega) (by omega) (k := 2) (by omega) (x := L[i].v) (by rw [at_get fv0 hi']; rfl)
    exact this
  · have key : ∀ (L : List Fv) (fs : List FdL) (i : Nat) (hi : i < L.length) (hi2 : i < fs.length), RelF (Own eI H) L fs → L.Pairwise (fun x y => Apart x.v y.v) → Off L[i].v H H' → Own eI H' L[i].v m → RelF (Own eI H') L (fs.set i ⟨fs[i].r, fs[i].c, m⟩) := by
      intro L
      induction L with
      | nil => intro fs i hi; simp at hi
      | cons x L ih =>
        intro fs i hi hi2 hr hp hoff ho
        cases fs with
        | nil => simp at hi2
        | cons f fs =>
          rw [List.pairwise_cons] at hp
          cases i with
          | zero =>
            refine ⟨⟨hr.1.1, hr.1.2.1, ho⟩, hr.2.imp (fun y hy _ h => h.off hoff (fun b e1 e2 => hp.1 y hy b e2 e1))⟩
          | succ i =>
            have hi3 : i < L.length := by simpa using hi
            refine ⟨⟨hr.1.1, hr.1.2.1, hr.1.2.2.off hoff (hp.1 _ (List.getElem_mem hi3))⟩, ih fs i hi3 (by simpa using hi2) hr.2 hp.2 hoff ho⟩
    exact key L fs i hi' hi h2 h4 off om
end
/-- How many cells fields have, and marks. -/
def fsz : List FdL → Nat
  | [] => 0
  | f :: fs => 2 + f.l.length + fsz fs
def markF (k : Int) : List FdL → List FdL
  | [] => []
  | f :: fs => ⟨k, k + 1, ramp (k + 2) f.l.length⟩ :: markF (k + (2 + f.l.length : Nat)) fs
theorem fsz_take : ∀ (fs : List FdL) {i : Nat} (h : i < fs.length), fsz (fs.take (i + 1)) = fsz (fs.take i) + (2 + fs[i].l.length)
  | f :: fs, 0, _ => by simp [fsz]
  | f :: fs, i + 1, h => by
    simp only [List.take_succ_cons, fsz, List.getElem_cons_succ]
    rw [fsz_take fs (by simpa using h)]; omega
theorem fsz_le : ∀ (fs : List FdL) (i : Nat), fsz (fs.take i) ≤ fsz fs
  | [], i => by simp
  | f :: fs, 0 => by simp [fsz]
  | f :: fs, i + 1 => by simp only [List.take_succ_cons, fsz]; have := fsz_le fs i; omega
theorem markF_len : ∀ (k : Int) (fs : List FdL), (markF k fs).length = fs.length
  | _, [] => rfl
  | k, f :: fs => congrArg (· + 1) (markF_len _ fs)
theorem markF_get : ∀ (k : Int) (fs : List FdL) {i : Nat} (h : i < fs.length), (markF k fs)[i]'(by rw [markF_len]; exact h) = ⟨k + fsz (fs.take i), k + fsz (fs.take i) + 1, ramp (k + fsz (fs.take i) + 2) fs[i].l.length⟩
  | k, f :: fs, 0, _ => by simp [markF, fsz]
  | k, f :: fs, i + 1, h => by
    simp only [markF, List.getElem_cons_succ, List.take_succ_cons, fsz]
    rw [markF_get _ fs (by simpa using h)]
    have e : k + ((2 + f.l.length : Nat) : Int) + (fsz (fs.take i) : Int) = k + ((2 + f.l.length + fsz (fs.take i) : Nat) : Int) := by omega
    rw [e]
/-- Marked up to a place. -/
def mkTo (k : Int) (fs : List FdL) (i : Nat) : List FdL := (markF k fs).take i ++ fs.drop i
theorem mkTo_len (k : Int) (fs : List FdL) {i : Nat} (h : i ≤ fs.length) : (mkTo k fs i).length = fs.length := by simp [mkTo, markF_len]; omega
theorem mkTo_get (k : Int) (fs : List FdL) {i : Nat} (h : i < fs.length) : (mkTo k fs i)[i]'(by rw [mkTo_len k fs (by omega)]; exact h) = fs[i] := by
  unfold mkTo
  rw [List.getElem_append_right (by simp [markF_len]; omega)]
  simp [markF_len, Nat.min_eq_left (Nat.le_of_lt h)]
theorem mkTo_set (k : Int) (fs : List FdL) {i : Nat} (h : i < fs.length) : (mkTo k fs i).set i ⟨k + fsz (fs.take i), k + fsz (fs.take i) + 1, ramp (k + fsz (fs.take i) + 2) fs[i].l.length⟩ = mkTo k fs (i + 1) := by
  unfold mkTo
  have e : ((markF k fs).take i).length = i := by simp [markF_len]; omega
  rw [List.set_append_right _ _ (by omega), List.take_succ_eq_append_getElem (by rw [markF_len]; exact h), markF_get k fs h, e, Nat.sub_self, List.append_assoc, List.singleton_append]
  congr 1
  conv => lhs; rw [List.drop_eq_getElem_cons h]
  rfl
end HL
end Go.Proofs.YthocjpfibegjcaaGreatDoor
/- Pointers that are only read; elements of a family; texts as keys. -/
namespace Go.Proofs.YthocjpfibegjcaaGreatDoor
open HL
set_option maxRecDepth 100000
namespace HL
/-- What follows a call, by a name. -/
theorem HTk {P : Program} {f : FuncId} {args : Array Value} {H : Hp} {K0 : Value → Hp → Prop} (h : ∀ K, (∀ v H', K0 v H' → K v H') → HT P f args H K) : HT P f args H K0 := h K0 (fun _ _ h => h)
/-- A pointer to cells that are read. -/
def CelR (H : Hp) (p : Value) (cs : List Value) : Prop := ∃ a, p = .pointer (some a) ∧ (∃ o, H a.block = some o) ∧ ∀ i (h : i < cs.length), H.cell? (a.add i) = some cs[i]
section
variable {H H' : Hp} {p u v : Value} {cs : List Value}
theorem Cel.r (h : Cel H p cs) : CelR H p cs := by
  obtain ⟨r, e, rfl, hr⟩ := h
  refine ⟨_, rfl, ⟨_, hr⟩, fun i hi => ?_⟩
  simp only [add_none, Hp.cell?, hr, Nat.zero_add]
  simp [hi]
theorem CelR.known (h : CelR H p cs) : ∀ b, bk p = some b → ∃ o, H b = some o := by
  obtain ⟨a, rfl, ho, _⟩ := h
  intro b hb
  simp only [bk, Option.some.injEq] at hb
  subst hb; exact ho
theorem CelR.le (h : CelR H p cs) (hl : Le H H') : CelR H' p cs := by
  obtain ⟨a, rfl, ⟨o, ho⟩, hc⟩ := h
  exact ⟨a, rfl, ⟨o, hl _ _ ho⟩, fun i hi => hl.cell (hc i hi)⟩
theorem CelR.keep (h : CelR H p cs) (hk : ∀ b, bk p = some b → H' b = H b) : CelR H' p cs := by
  obtain ⟨a, rfl, ⟨o, ho⟩, hc⟩ := h
  have e := hk a.block rfl
  refine ⟨a, rfl, ⟨o, by rw [e]; exact ho⟩, fun i hi => ?_⟩
  have := hc i hi
  unfold Hp.cell? at this ⊢
  rw [add_block] at this ⊢
  rw [e]; exact this
theorem CelR.off (h : CelR H p cs) (ho : Off v H H') (ha : Apart p v) : CelR H' p cs := h.keep fun b hb => by
  obtain ⟨o, hh⟩ := h.known b hb
  rw [ho b o hh (ha b hb), hh]
theorem CelR.offS {S : Rg} (h : CelR H p cs) (ho : OffS S H H') (ha : Apt p S) : CelR H' p cs := h.keep fun b hb => by
  obtain ⟨o, hh⟩ := h.known b hb
  rw [ho b o hh (ha b hb), hh]
theorem CelR.apart (h : CelR H p cs) (hn : Nw H v) : Apart p v := Apart.of_nw h.known hn
theorem CelR.fa (h : CelR H p cs) (k : Nat) : vFa k p = some (fp p k) := by
  obtain ⟨a, rfl, _⟩ := h; rfl
theorem CelR.nilC (h : CelR H p cs) : vNilC p = some p := by
  obtain ⟨a, rfl, _⟩ := h; rfl
theorem CelR.ld (h : CelR H p cs) (k : Nat) {x : Value} (hx : cs[k]? = some x) : vLoad (fp p k) H = some x := by
  obtain ⟨a, rfl, _, hc⟩ := h
  obtain ⟨hk, rfl⟩ := List.getElem?_eq_some_iff.mp hx
  exact hc k hk
theorem CelR.ld0 (h : CelR H p cs) {x : Value} (hx : cs[0]? = some x) : vLoad p H = some x := by
  obtain ⟨a, rfl, _, hc⟩ := h
  obtain ⟨hk, rfl⟩ := List.getElem?_eq_some_iff.mp hx
  have := hc 0 hk
  rw [show a.add 0 = a by unfold Addr.add; simp] at this
  exact this
theorem CelR.ldn (h : CelR H p cs) {n : Nat} (hn : cs.length = n) : vLoadN n p H = some (.agg cs.toArray) := by
  obtain ⟨a, rfl, _, hc⟩ := h
  simp only [vLoadN]
  rw [rd_cells (enc := id) a n 0 cs hn (fun i hi => by rw [Nat.zero_add]; exact hc i hi)]
  simp
theorem CelR.cast {ds : List Value} (e : cs = ds) (h : CelR H p cs) : CelR H p ds := e ▸ h
end
theorem OwnE.blk {n : Nat} {α : Type} {enc : α → List Value} {H : Hp} {v : Value} {l : List α} (h : OwnE n enc H v l) (hn : ∀ x, (enc x).length = n) (n0 : 0 < n) {i : Nat} (hi : i < l.length) :
    ∃ a c, v = .slice (some a) l.length c ∧ (∃ o, H a.block = some o) ∧ bk v = some a.block ∧ ∀ j (hj : j < n), H.cell? (a.add (i * n + j)) = (enc l[i])[j]? := by
  have hs := h.sl hn
  obtain ⟨a, c, e, hc⟩ := hs.base hn n0 hi
  have hb : bk v = some a.block := by
    obtain ⟨a', c', e', h1, _⟩ := h
    rw [e] at e'
    simp only [Value.slice.injEq] at e'
    rw [e]
    simp only [bk]
    rw [if_neg (by omega)]
  exact ⟨a, c, e, h.known _ hb, hb, hc⟩
/-- An element of a family, by its pointer. -/
theorem Fam.el {H : Hp} {v : Value} {S : Rg} {fs : List FdL} {f : FdL} (h : Fam H v S fs) {i : Int} (i0 : 0 ≤ i) (i1 : i < fs.length) (e : at_ fd0 fs i = f) :
    ∃ P x, vIx 3 v (.int .i64 i) = some P ∧ CelR H P [.int .i64 f.r, .int .i64 f.c, x] ∧ Ro eI H x f.l ∧ (∀ b, bk P = some b → S b) ∧ (∀ b, bk x = some b → S b) := by
  obtain ⟨L, h1, h2, h3, h4, h5⟩ := h
  obtain ⟨n, rfl⟩ := Int.eq_ofNat_of_zero_le i0
  have hl := h2.len
  have hn : n < L.length := by omega
  obtain ⟨g1, g2, g3⟩ := h2.get hn
  obtain ⟨a, c, rfl, ho, hb, hc⟩ := h1.blk encFv_n (by omega) hn
  have hx := at_get fv0 hn
  subst e
  refine ⟨.pointer (some (a.add (n * 3))), (at_ fv0 L (n : Int)).v, ?_, ⟨_, rfl, by rw [add_block]; exact ho, fun j hj => ?_⟩, g3.ro, fun b hb2 => ?_, fun b hb2 => ?_⟩
  · simp only [vIx]
    rw [if_pos (by omega)]; rfl
  · simp only [List.length_cons, List.length_nil] at hj
    rw [add_add, hc j (by omega), ← hx]
    simp only [encFv]
    have hj3 : j = 0 ∨ j = 1 ∨ j = 2 := by omega
    rcases hj3 with rfl | rfl | rfl
    · simp [g1]
    · simp [g2]
    · simp
  · simp only [bk, add_block, Option.some.injEq] at hb2
    subst hb2
    exact (h5 _).mpr (.inl hb)
  · exact (h5 _).mpr (.inr ⟨_, at_mem fv0 L (by omega) (by omega), hb2⟩)
/-- A family of one field. -/
theorem Fam.one_of {H : Hp} {u x : Value} {r c : Int} {l : List Int} (h : OwnE 3 encFv H u [⟨r, c, x⟩]) (hx : Own eI H x l) (ap : Apart u x) : ∃ S : Rg, Fam H u S [⟨r, c, l⟩] ∧ ∀ b, S b → bk u = some b ∨ bk x = some b :=
  ⟨fun b => bk u = some b ∨ bk x = some b, ⟨[⟨r, c, x⟩], h, ⟨⟨rfl, rfl, hx⟩, trivial⟩, by simpa using ap, List.pairwise_singleton _ _, fun b => by simp⟩, fun b hb => hb⟩
theorem Apt.of_two {α : Type} [Bks α] {z : α} {u x : Value} {S : Rg} (hS : ∀ b, S b → bk u = some b ∨ bk x = some b) (hu : Apt z u) (hx : Apt z x) : Apt z S := fun b h1 h2 => by
  rcases hS b h2 with h | h
  · exact hu b h1 h
  · exact hx b h1 h
theorem Nws.of_two {H : Hp} {u x : Value} {S : Rg} (hS : ∀ b, S b → bk u = some b ∨ bk x = some b) (hu : Nw H u) (hx : Nw H x) : Nws H S := fun b h => by
  rcases hS b h with h | h
  · exact hu b h
  · exact hx b h
theorem Apt.ap2 {α : Type} [Bks α] {z : α} {u u' : Value} {H : Hp} (hz : Kn H z) (ha : Apt z u) (hb : ∀ b, bk u' = some b → bk u = some b ∨ H b = none) : Apt z u' := fun b h1 h2 => by
  rcases hb b h2 with h | h
  · exact ha b h1 h
  · obtain ⟨o, ho⟩ := hz b h1
    rw [h] at ho; simp at ho
def mapSI (P : Program) (t : TypeId) : Bool := match P.underlying t with
  | some (.map kt et) => (match P.underlying kt, zeroO P et with | some .string, some (.int .i64 0) => true | _, _ => false)
  | _ => false
theorem mapSI_of {P : Program} {t : TypeId} (h : mapSI P t = true) : ∃ kt et, P.underlying t = some (.map kt et) ∧ P.underlying kt = some .string ∧ zeroO P et = some (.int .i64 0) := by
  unfold mapSI at h
  split at h
  · rename_i kt et he
    split at h
    · rename_i h1 h2; exact ⟨kt, et, he, h1, h2⟩
    · simp at h
  · simp at h
theorem Mp.look' {P : Program} {t : TypeId} {k : ByteArray} {H : Hp} {p : Value} {S : Rg} {ms : List (ByteArray × Int)} {K : Value → Hp → Prop} (h : Mp H p S ms) (ht : mapSI P t = true)
    (hK : K (.tuple #[.int .i64 ((mget k ms).getD 0), .bool (mget k ms).isSome]) H) : hp P (Instr.lookup t p (.string k) true) H K := by
  obtain ⟨kt, et, h1, h2, h3⟩ := mapSI_of ht
  exact h.look h1 h2 h3 hK
theorem Mp.add' {P : Program} {t : TypeId} {k : ByteArray} {x : Int} {H : Hp} {p : Value} {S : Rg} {ms : List (ByteArray × Int)} {K : Unit → Hp → Prop} (h : Mp H p S ms) (ht : mapSI P t = true) (hn : mget k ms = none)
    (hK : ∀ H', Mp H' p S (ms ++ [(k, x)]) → OffS S H H' → K () H') : hp P (Instr.mapUpdate t p (.string k) (.int .i64 x)) H K := by
  obtain ⟨kt, et, h1, h2, h3⟩ := mapSI_of ht
  exact h.add h1 h2 hn hK
theorem Mp.cast {H : Hp} {p : Value} {S : Rg} {ms ns : List (ByteArray × Int)} (e : ms = ns) (h : Mp H p S ms) : Mp H p S ns := e ▸ h
def cvBS (P : Program) (s d : TypeId) : Bool := match P.underlying s, P.underlying d with
  | some (.slice e), some .string => (match P.underlying e with | some (.int .u8) => true | _ => false)
  | _, _ => false
theorem val_convBS {P : Program} {s d : TypeId} {H : Hp} {v : Value} {l : List Int} (h : cvBS P s d = true) (hs : Sl eU H v l) : val P (convert s d v) H = some (.string (bytesS .empty l)) := by
  unfold cvBS at h
  split at h
  · rename_i e h1 h2
    split at h
    · rename_i h3
      have hv := val_bytesToString (P := P) hs
      obtain ⟨a, n, c, rfl⟩ := hs.isSl
      unfold convert
      rw [val_bind', val_underlying, h1, Option.bind_some, val_bind', val_underlying, h2, Option.bind_some]
      simp only
      rw [val_bind', val_underlying, h3, Option.bind_some]
      exact hv
    · simp at h
  · simp at h
theorem vCI_u8 {k : IntKind} {a : Int} (h : 0 ≤ a) (h' : a ≤ 255) : vCI .u8 (.int k a) = some (.int .u8 a) := by
  have : IntKind.u8.wrap a = a := by unfold IntKind.wrap; simp [IntKind.signed, IntKind.bits]; omega
  simp only [vCI, this]
end HL
end Go.Proofs.YthocjpfibegjcaaGreatDoor
/- Texts: bytes turned to texts, small numbers, the rows of a field. -/
namespace Go.Proofs.YthocjpfibegjcaaGreatDoor
open HL
set_option maxRecDepth 100000
namespace HL
def btT (l : List Int) : List UInt8 := l.map fun n => UInt8.ofNat n.toNat
theorem val_convT {P : Program} {s d : TypeId} {H : Hp} {v : Value} {l : List Int} (h : cvBS P s d = true) (hs : Sl eU H v l) : val P (convert s d v) H = some (vS (btT l)) := by
  rw [val_convBS h hs, tS_of (bytesS .empty l), bytesS_data]
  rfl
theorem Cel.castX {H : Hp} {p : Value} {cs ds : List Value} (e : cs = ds) (h : Cel H p cs) : Cel H p ds := e ▸ h
end HL
def digT : List UInt8 := [48, 49, 50, 51, 52, 53, 54, 55, 56, 57, 97, 98, 99, 100, 101, 102, 103, 104, 105, 106, 107, 108, 109, 110, 111, 112, 113, 114, 115, 116, 117, 118, 119, 120, 121, 122]
def dig2T : List UInt8 := [48, 48, 48, 49, 48, 50, 48, 51, 48, 52, 48, 53, 48, 54, 48, 55, 48, 56, 48, 57, 49, 48, 49, 49, 49, 50, 49, 51, 49, 52, 49, 53, 49, 54, 49, 55, 49, 56, 49, 57, 50, 48, 50, 49, 50, 50, 50, 51, 50, 52, 50, 53, 50, 54, 50, 55, 50, 56, 50, 57, 51, 48, 51, 49, 51, 50, 51, 51, 51, 52, 51, 53, 51, 54, 51, 55, 51, 56, 51, 57, 52, 48, 52, 49, 52, 50, 52, 51, 52, 52, 52, 53, 52, 54, 52, 55, 52, 56, 52, 57, 53, 48, 53, 49, 53, 50, 53, 51, 53, 52, 53, 53, 53, 54, 53, 55, 53, 56, 53, 57, 54, 48, 54, 49, 54, 50, 54, 51, 54, 52, 54, 53, 54, 54, 54, 55, 54, 56, 54, 57, 55, 48, 55, 49, 55, 50, 55, 51, 55, 52, 55, 53, 55, 54, 55, 55, 55, 56, 55, 57, 56, 48, 56, 49, 56, 50, 56, 51, 56, 52, 56, 53, 56, 54, 56, 55, 56, 56, 56, 57, 57, 48, 57, 49, 57, 50, 57, 51, 57, 52, 57, 53, 57, 54, 57, 55, 57, 56, 57, 57]
theorem dig_one : ∀ n : Nat, n < 10 → (digT.drop n).take (n + 1 - n) = decT n := by decide +kernel
theorem dig_two : ∀ n : Nat, n < 100 → 10 ≤ n → (dig2T.drop (n * 2)).take (n * 2 + 2 - n * 2) = decT n := by decide +kernel
theorem small_one {n : Int} (h0 : 0 ≤ n) (h1 : n < 10) : (digT.drop n.toNat).take ((n + 1).toNat - n.toNat) = decT n.toNat := by
  have := dig_one n.toNat (by omega)
  rw [show (n + 1).toNat = n.toNat + 1 by omega]; exact this
theorem small_two {n : Int} (h0 : 10 ≤ n) (h1 : n < 100) : (dig2T.drop (n * 2).toNat).take ((n * 2 + 2).toNat - (n * 2).toNat) = decT n.toNat := by
  have := dig_two n.toNat (by omega) (by omega)
  rw [show (n * 2 + 2).toNat = n.toNat * 2 + 2 by omega, show (n * 2).toNat = n.toNat * 2 by omega]; exact this
theorem num_one {n : Int} (h0 : 0 ≤ n) (h1 : n < 10) : btT [48 + n] = decT n.toNat := by
  unfold btT decT
  rw [if_pos (by omega)]
  simp only [List.map_cons, List.map_nil]
  rw [show (48 + n).toNat = 48 + n.toNat by omega]
theorem num_two {n : Int} (h0 : 10 ≤ n) (h1 : n < 100) : decT (n / 10).toNat ++ btT [48 + n % 10] = decT n.toNat := by
  unfold btT decT
  rw [if_pos (by omega), if_neg (by omega)]
  simp only [List.map_cons, List.map_nil, List.singleton_append]
  rw [show (48 + n % 10).toNat = 48 + n.toNat % 10 by omega, show (n / 10).toNat = n.toNat / 10 by omega]
theorem bo_T {x : Int} (h0 : 0 ≤ x) (h1 : x ≤ 1) : (([98, 111] : List UInt8).drop x.toNat).take ((x + 1).toNat - x.toNat) = [chT x] := by
  rcases show x = 0 ∨ x = 1 by omega with rfl | rfl <;> rfl
theorem chT_1 {x : Int} (h : x = 1) : ([111] : List UInt8) = [chT x] := by subst h; rfl
theorem chT_0 {x : Int} (h : ¬ x = 1) : ([98] : List UInt8) = [chT x] := by unfold chT; rw [if_neg h]
/-- The rows' texts. -/
def rowsT (c : Nat) (l : List Int) (n : Nat) : List (List UInt8) := (List.range n).map fun i => rtx (rowL c l i)
theorem rowsT_len {c : Nat} {l : List Int} {n : Nat} : (rowsT c l n).length = n := by simp [rowsT]
theorem rowsT_succ {c : Nat} {l : List Int} {n : Nat} : rowsT c l (n + 1) = rowsT c l n ++ [rtx (rowL c l n)] := by simp [rowsT, List.range_succ]
theorem rowsT_flat {c : Nat} {l : List Int} : ∀ n : Nat, (rowsT c l n).flatten.length ≤ n * (3 * c)
  | 0 => by simp [rowsT]
  | n + 1 => by
    have ih := rowsT_flat (c := c) (l := l) n
    have h2 := rtx_len c (rowL c l n) (by unfold rowL; simp; omega)
    have h3 : (rowL c l n).length ≤ c := by unfold rowL; simp; omega
    rw [rowsT_succ]
    simp only [List.flatten_append, List.length_append, List.flatten_cons, List.flatten_nil, List.append_nil]
    rw [Nat.add_mul]
    omega
def joinR (c : Nat) (l : List Int) (n : Nat) : List UInt8 := joinT [36] (rowsT c l n)
theorem joinR_zero {c : Nat} {l : List Int} : joinR c l 0 = [] := rfl
theorem joinR_one {c : Nat} {l : List Int} {n : Nat} (h : n = 0) : joinR c l (n + 1) = rtx (rowL c l n) := by
  subst h
  simp [joinR, rowsT, joinT]
theorem joinR_succ {c : Nat} {l : List Int} {n : Nat} (h : 0 < n) : joinR c l (n + 1) = joinR c l n ++ [36] ++ rtx (rowL c l n) := by
  unfold joinR
  rw [rowsT_succ]
  exact joinT_snoc _ _ _ (fun he => by have := congrArg List.length he; rw [rowsT_len] at this; simp at this; omega)
theorem joinR_len {c : Nat} {l : List Int} : ∀ n : Nat, (joinR c l n).length ≤ n * (3 * c + 1)
  | 0 => by simp [joinR_zero]
  | n + 1 => by
    have ih := joinR_len (c := c) (l := l) n
    have h2 := rtx_len c (rowL c l n) (by unfold rowL; simp; omega)
    have h3 : (rowL c l n).length ≤ c := by unfold rowL; simp; omega
    rcases Nat.eq_zero_or_pos n with h | h
    · rw [joinR_one h, Nat.add_mul]; omega
    · rw [joinR_succ h, Nat.add_mul]; simp only [List.length_append, List.length_singleton]; omega
/-- What is written ahead of the rows. -/
def headT (r c : Int) : List UInt8 := decT c.toNat ++ [44] ++ decT r.toNat ++ [58]
theorem headT_len (r c : Int) : (headT r c).length ≤ 6 := by
  have := decT_len c.toNat
  have := decT_len r.toNat
  simp only [headT, List.length_append, List.length_singleton]
  omega
/-- A field's text. -/
def fieldT (r c : Int) (l : List Int) : List UInt8 := headT r c ++ joinR c.toNat l r.toNat ++ [33]
theorem fieldT_len {r c : Int} {l : List Int} (hs : sidesF r c) : (fieldT r c l).length ≤ 2000 := by
  have h1 := headT_len r c
  have h2 := joinR_len (c := c.toNat) (l := l) r.toNat
  obtain ⟨⟨_, _⟩, _, _⟩ := hs
  have h3 : r.toNat * (3 * c.toNat + 1) ≤ 24 * (3 * 24 + 1) := Nat.mul_le_mul (by omega) (by omega)
  simp only [fieldT, List.length_append, List.length_singleton]
  omega
theorem row_mul {r c : Int} {i : Nat} (hs : sidesF r c) (hi : (i : Int) < r) : ((i * c.toNat : Nat) : Int) = (i : Int) * c ∧ 0 ≤ (i : Int) * c ∧ (i : Int) * c + c ≤ r * c ∧ ((i : Int) + 1) * c = (i : Int) * c + c := by
  obtain ⟨⟨_, _⟩, _, _⟩ := hs
  have e : ((i * c.toNat : Nat) : Int) = (i : Int) * c := by rw [Int.natCast_mul, Int.toNat_of_nonneg (by omega)]
  have h1 : ((i : Int) + 1) * c ≤ r * c := Int.mul_le_mul_of_nonneg_right (by omega) (by omega)
  have h2 : ((i : Int) + 1) * c = (i : Int) * c + c := by rw [Int.add_mul, Int.one_mul]
  refine ⟨e, ?_, by omega, h2⟩
  have := Int.mul_nonneg (show (0 : Int) ≤ i by omega) (show 0 ≤ c by omega)
  exact this
theorem row_eq {r c : Int} {l : List Int} {i : Nat} (hs : sidesF r c) (hi : (i : Int) < r) : (l.drop ((i : Int) * c).toNat).take ((((i : Int) + 1) * c).toNat - ((i : Int) * c).toNat) = rowL c.toNat l i := by
  obtain ⟨e, h0, h1, h2⟩ := row_mul hs hi
  unfold rowL
  rw [show ((i : Int) * c).toNat = i * c.toNat by omega, show (((i : Int) + 1) * c).toNat - i * c.toNat = c.toNat by have := hs.2.1; omega]
theorem row_01 {c : Nat} {l : List Int} {i : Nat} (h : ∀ x ∈ l, 0 ≤ x ∧ x ≤ 1) : ∀ x ∈ rowL c l i, 0 ≤ x ∧ x ≤ 1 := fun x hx => h x (List.mem_of_mem_drop (List.mem_of_mem_take hx))
theorem endP_back {row : List Int} {e : Nat} (h : endP row e) (he : 0 < e) (h0 : at_ 0 row ((e : Int) - 1) = 0) {d : Nat} (hd : d = e - 1) : endP row d := by
  subst hd
  refine ⟨by have := h.1; omega, fun q h1 h2 => ?_⟩
  rcases Nat.lt_or_ge q e with h3 | h3
  · rw [show (q : Int) = (e : Int) - 1 by omega]; exact h0
  · exact h.2 q h3 h2
end Go.Proofs.YthocjpfibegjcaaGreatDoor
/- Fields that are made by a function of rows and columns, and fields that grow. -/
namespace Go.Proofs.YthocjpfibegjcaaGreatDoor
open HL
set_option maxRecDepth 100000
theorem Apart.app {H : Hp} {x u u' : Value} (hx : ∀ b, bk x = some b → ∃ o, H b = some o) (ha : Apart x u) (hb : ∀ b, bk u' = some b → bk u = some b ∨ H b = none) : Apart x u' := fun b h1 h2 => by
  rcases hb b h2 with h | h
  · exact ha b h1 h
  · obtain ⟨o, ho⟩ := hx b h1; rw [h] at ho; simp at ho
theorem Nw.app {H0 H : Hp} {u u' : Value} (hn : Nw H0 u) (hl : Le H0 H) (hb : ∀ b, bk u' = some b → bk u = some b ∨ H b = none) : Nw H0 u' := fun b h => by
  rcases hb b h with h1 | h1
  · exact hn b h1
  · cases ho : H0 b with
    | none => rfl
    | some o => rw [hl b o ho] at h1; simp at h1
theorem apd_one {α : Type} {enc : α → Value} {z : Value} {b : Nat} {e : TypeId} {u t : Value} {x : α} {l : List α} {H : Hp} {K : Value → Hp → Prop} (o : Own enc H u l) (ot : Sl enc H t [x]) (ho : ∀ x, oneCell (enc x) = true) (hb : b ≤ 64) (hl : l.length ≤ 68719476736)
    (hk : ∀ u' H', Own enc H' u' (l ++ [x]) → Off u H H' → (∀ b, bk u' = some b → bk u = some b ∨ H b = none) → K u' H') : apd 1 b #[z] e u t H K := by
  refine o.apd ot ho (by simp; omega) (fun c hc => ?_) hk
  have := nsc_le hc
  simp only [List.length_singleton] at this ⊢
  exact Nat.le_trans (Nat.mul_le_mul this hb) (by omega)
theorem bS_i {α : Type} {enc : α → Value} {len : Nat} {z : Value} {e : TypeId} {parts : List (Nat × Value)} {l : List α} {H : Hp} {K : Value → Hp → Prop} (h1 : len ≤ 1000) (hl : l.length = len)
    (hf : Instr.fill (fun i => some (i * 1, 1)) (if len * 1 = 0 then #[] else zrow #[z] (len * 1)) parts = some (l.map enc).toArray) (hk : ∀ v H', Own enc H' v l → Nw H v → Le H H' → K v H') : bS 1 len #[z] e parts H K := by
  refine ⟨by omega, ?_⟩
  rw [hf]
  intro r hr
  subst hl
  refine hk _ _ ⟨some ⟨r, 0, none⟩, l.length, rfl, Nat.le_refl _, fun _ => ⟨r, 0, _, e, rfl, Hp.put_same _ _ _, by simp, fun i hi => by simp [hi]⟩⟩ ?_ (Le.put _ hr)
  intro b hb
  simp only [bk] at hb
  split at hb
  · simp at hb
  · simp only [Option.some.injEq] at hb; subst hb; exact hr
/-- A field's cells, row by row, by a function. -/
def mkL (c : Int) (g : Int → Int → Int) (n : Nat) : List Int := (List.range n).map fun (t : Nat) => g ((t : Int) / c) ((t : Int) % c)
theorem mkL_length (c : Int) (g : Int → Int → Int) (n : Nat) : (mkL c g n).length = n := by simp [mkL]
theorem mkL_succ (c : Int) (g : Int → Int → Int) (n : Nat) : mkL c g (n + 1) = mkL c g n ++ [g ((n : Int) / c) ((n : Int) % c)] := by simp [mkL, List.range_succ]
theorem divmod {c : Int} {i k : Int} (hc : 0 < c) (k0 : 0 ≤ k) (k1 : k < c) : (i * c + k) / c = i ∧ (i * c + k) % c = k := by
  constructor
  · rw [Int.add_comm, Int.add_mul_ediv_right _ _ (by omega), Int.ediv_eq_zero_of_lt k0 k1]; omega
  · rw [Int.add_comm, Int.add_mul_emod_self_right, Int.emod_eq_of_lt k0 k1]
theorem cast_ix {c : Int} {i k : Nat} (hc : 0 ≤ c) : ((i * c.toNat + k : Nat) : Int) = i * c + k := by rw [Int.natCast_add, Int.natCast_mul, Int.toNat_of_nonneg hc]
theorem C.impl_madeField {fv : Value} {rr cc : Int} {g : Int → Int → Int} {H : Hp} {K : Value → Hp → Prop} (r1 : 0 ≤ rr) (r2 : rr ≤ 1000) (c1 : 1 ≤ cc) (c2 : cc ≤ 1000)
    (hcl : ∀ H' (i k : Nat) (Z : Value → Hp → Prop), Le H H' → (i : Int) < rr → (k : Int) < cc → (∀ H'', Le H' H'' → Z (.int .i64 (g i k)) H'') → callV prg fv [.int .i64 i, .int .i64 k] H' Z)
    (hk : ∀ u H', Own eI H' u (mkL cc g (rr.toNat * cc.toNat)) → Nw H u → Le H H' → K (.agg #[.int .i64 rr, .int .i64 cc, u]) H') :
    HT prg I.impl_madeField [.int .i64 rr, .int .i64 cc, fv].toArray H K := by
  refine R.impl_madeField ?_
  unfold F.impl_madeField
  refine nw_i (fun q H1 oq nq le1 => ?_)
  replace oq : Cel H1 q [.int .i64 0, .int .i64 0, .slice none 0 0] := oq
  refine ob_i (a := .agg #[.int .i64 rr, .int .i64 cc, .slice none 0 0]) rfl ?_
  refine nw_i (fun s H2 os ns le2 => ?_)
  have aqs : Apart q s := oq.apart ns
  replace oq := oq.le le2
  have ns0 : Nw H s := ns.le le1
  have nq0 : Nw H q := nq
  refine os.stn (ws := [.int .i64 rr, .int .i64 cc, .slice none 0 0]) rfl rfl (by simp [oneCell]) (fun H3 os off3 => ?_)
  replace oq := oq.off off3 aqs
  have leB : Le H H3 := off3.le (le1.trans le2) ns0
  refine jn_i (fun σ' H' => σ' 6 = q ∧ σ' 7 = s ∧ Cel H' q [.int .i64 0, .int .i64 0, .slice none 0 0] ∧ Le H H' ∧ ∃ u, Cel H' s [.int .i64 rr, .int .i64 cc, u] ∧ Own eI H' u (mkL cc g (rr.toNat * cc.toNat)) ∧ Nw H u ∧ Apart q u) (fun σ' H' hP => ?_) (fun J7 hJ7 => ?_)
  · obtain ⟨g6, g7, oq, le, u, os, ou, nu, aqu⟩ := hP
    rw [g6, g7]
    refine ob_i (os.ldn rfl) ?_
    refine oq.stn (ws := [.int .i64 rr, .int .i64 cc, u]) rfl rfl (oc1 rfl (oc1 rfl (oc1 ou.one oc0))) (fun H6 oq off6 => ?_)
    refine ob_i (oq.ldn rfl) ?_
    exact hk u H6 (ou.off off6 aqu.symm) nu (off6.le le nq0)
  refine ⟨fun n σ H4 => ∃ i : Nat, n = rr.toNat - i ∧ (i : Int) ≤ rr ∧ σ 1 = .int .i64 cc ∧ σ 2 = fv ∧ σ 6 = q ∧ σ 7 = s ∧ σ 13 = .int .i64 rr ∧ σ 14 = .int .i64 i ∧ Cel H4 q [.int .i64 0, .int .i64 0, .slice none 0 0] ∧ Le H H4 ∧
      ∃ u, Cel H4 s [.int .i64 rr, .int .i64 cc, u] ∧ Own eI H4 u (mkL cc g (i * cc.toNat)) ∧ Nw H u ∧ Apart q u ∧ Apart s u,
    ⟨_, 0, rfl, by omega, rfl, rfl, rfl, rfl, rfl, rfl, oq, leB, .slice none 0 0, os, by rw [Nat.zero_mul]; exact Own.nil_of none, fun b hb => by simp [bk] at hb, fun b _ hb => by simp [bk] at hb, fun b _ hb => by simp [bk] at hb⟩, ?_⟩
  rintro n σ H4 ⟨i, rfl, hiR, g1, g2, g6, g7, g13, g14, oq, le4, hu⟩
  simp only [g1, g13, g14, vInt_lss, ob_some]
  refine cnd_d (fun hlt => ?_) (fun hge => ?_)
  · refine jn_i (fun σ' H' => σ' 1 = .int .i64 cc ∧ σ' 2 = fv ∧ σ' 6 = q ∧ σ' 7 = s ∧ σ' 13 = .int .i64 rr ∧ σ' 14 = .int .i64 i ∧ Cel H' q [.int .i64 0, .int .i64 0, .slice none 0 0] ∧ Le H H' ∧
        ∃ u, Cel H' s [.int .i64 rr, .int .i64 cc, u] ∧ Own eI H' u (mkL cc g ((i + 1) * cc.toNat)) ∧ Nw H u ∧ Apart q u ∧ Apart s u) (fun σ' H' hP => ?_) (fun J13 hJ13 => ?_)
    · obtain ⟨z1, z2, z6, z7, z13, z14, zq, zle, zu⟩ := hP
      rw [z14, vInt_add (by omega) (by omega), ob_some]
      exact nxt (rr.toNat - (i + 1)) (by omega) ⟨i + 1, rfl, by omega, z1, z2, z6, z7, z13, rfl, zq, zle, zu⟩
    refine ⟨fun n σ H5 => ∃ k : Nat, n = cc.toNat - k ∧ (k : Int) ≤ cc ∧ σ 1 = .int .i64 cc ∧ σ 2 = fv ∧ σ 6 = q ∧ σ 7 = s ∧ σ 13 = .int .i64 rr ∧ σ 14 = .int .i64 i ∧ σ 8 = .int .i64 i ∧ σ 17 = .int .i64 cc ∧ σ 18 = .int .i64 k ∧ Cel H5 q [.int .i64 0, .int .i64 0, .slice none 0 0] ∧ Le H H5 ∧
        ∃ u, Cel H5 s [.int .i64 rr, .int .i64 cc, u] ∧ Own eI H5 u (mkL cc g (i * cc.toNat + k)) ∧ Nw H u ∧ Apart q u ∧ Apart s u,
      ⟨_, 0, rfl, by omega, g1, g2, g6, g7, g13, g14, rfl, rfl, rfl, oq, le4, hu⟩, ?_⟩
    rintro n σ H5 ⟨k, rfl, hkC, z1, z2, z6, z7, z13, z14, z8, z17, z18, zq, le5, u, zs, zu, nu, aqu, asu⟩
    simp only [z2, z7, z8, z17, z18, vInt_lss, ob_some]
    refine cnd_d (fun hkl => ?_) (fun hkg => ?_)
    · simp only [zs.fa, zs.ld 2 rfl, ob_some]
      refine hcl H5 i k _ le5 hlt hkl (fun H6 le6 => ⟨le6, ?_⟩)
      refine bS_i (enc := eI) (l := [g i k]) (by omega) rfl (by kernel_rfl) (fun t H7 ot nt le7 => ?_)
      have le57 := le6.trans le7
      replace zq := zq.le le57
      replace zs := zs.le le57
      replace zu := zu.le le57
      have leB7 := le5.trans le57
      have hlen : (mkL cc g (i * cc.toNat + k)).length ≤ 68719476736 := by
        rw [mkL_length]
        have : i * cc.toNat ≤ 1000 * 1000 := Nat.mul_le_mul (by omega) (by omega)
        omega
      refine apd_one zu ot.sl (fun _ => rfl) (by omega) hlen (fun u' H8 ou' off8 hbk => ?_)
      have aqu' : Apart q u' := Apart.app zq.known aqu hbk
      have asu' : Apart s u' := Apart.app zs.known asu hbk
      have nu' : Nw H u' := Nw.app nu leB7 hbk
      replace zq := zq.off off8 aqu
      replace zs := zs.off off8 asu
      have leB8 : Le H H8 := off8.le leB7 nu
      refine zs.st (by simp) ou'.one ou'.cells (fun H9 os9 off9 => ?_)
      rw [vInt_add (by omega) (by omega), ob_some]
      refine nxt (cc.toNat - (k + 1)) (by omega) ⟨k + 1, rfl, by omega, z1, z2, z6, z7, z13, z14, z8, z17, rfl, zq.off off9 aqs, off9.le leB8 ns0, u', os9, ?_, nu', aqu', asu'⟩
      have hd := divmod (c := cc) (i := i) (k := k) (by omega) (by omega) hkl
      rw [← Nat.add_assoc, mkL_succ, cast_ix (by omega), hd.1, hd.2]
      exact ou'.off off9 asu'.symm
    · have e : k = cc.toNat := by omega
      refine hJ13 _ _ ⟨z1, z2, z6, z7, z13, z14, zq, le5, u, zs, ?_, nu, aqu, asu⟩
      rw [Nat.add_mul, Nat.one_mul, ← e]; rw [← e] at zu; exact zu
  · have e : i = rr.toNat := by omega
    subst e
    obtain ⟨u, os, ou, nu, aqu, asu⟩ := hu
    exact hJ7 _ _ ⟨g6, g7, oq, le4, u, os, ou, nu, aqu⟩
/-- A cell, or 0 beyond the border. -/
def flatF (r c : Int) (l : List Int) (i k : Int) : Int := if (0 ≤ i ∧ i ≤ r - 1) ∧ 0 ≤ k ∧ k ≤ c - 1 then at_ 0 l (i * c + k) else 0
theorem C.impl_Field_has {vc : Value} {r c i k : Int} {H : Hp} {K : Value → Hp → Prop} (hs : sidesF r c) (hk : ∀ H', Le H H' → K (.bool (decide ((0 ≤ i ∧ i ≤ r - 1) ∧ 0 ≤ k ∧ k ≤ c - 1))) H') :
    HT prg I.impl_Field_has [.agg #[.int .i64 r, .int .i64 c, vc], .int .i64 i, .int .i64 k].toArray H K := by
  refine R.impl_Field_has ?_
  unfold F.impl_Field_has
  refine nw_i (fun p H1 hp np le1 => ?_)
  replace hk := hk H1 le1
  have q1 := hs.1
  have q2 := hs.2
  simp only [hp.fa, hp.ld 0 rfl, ob_some]
  rw [vInt_sub (by omega) (by omega), ob_some]
  refine C.impl_within ?_
  by_cases c1 : 0 ≤ i ∧ i ≤ r - 1
  · simp only [decide_eq_true c1, hp.fa, hp.ld 1 rfl, EV]
    rw [vInt_sub (by omega) (by omega), ob_some]
    refine C.impl_within ?_
    exact kQ (K := K) hk ⟨fun h => h.2, fun h => ⟨c1, h⟩⟩
  · simp only [decide_eq_false c1, EV]; exact kF (K := K) hk (fun h => c1 h.1)
end Go.Proofs.YthocjpfibegjcaaGreatDoor
/- Fields with a border of zeros: the program's and the reference's. -/
namespace Go.Proofs.YthocjpfibegjcaaGreatDoor
open HL
set_option maxRecDepth 100000
def groOk (r c : Int) (l : List Int) (b : Int) : Prop := fieldN 1 r c l ∧ (0 ≤ b ∧ b ≤ 24) ∧ (1 ≤ r + 2 * b ∧ r + 2 * b ≤ 24) ∧ (1 ≤ c + 2 * b ∧ c + 2 * b ≤ 24)
instance (r c : Int) (l : List Int) (b : Int) : Decidable (groOk r c l b) := by unfold groOk; infer_instance
def groG (r c : Int) (l : List Int) (b : Int) (i k : Int) : Int := flatF r c l (i - b) (k - b)
def groW (r c : Int) (l : List Int) (b : Int) : List Int := mkL (c + 2 * b) (groG r c l b) ((r + 2 * b).toNat * (c + 2 * b).toNat)
def groL (r c : Int) (l : List Int) (b : Int) : List Int := if groOk r c l b then groW r c l b else []
def groI (x r c : Int) (l : List Int) (b : Int) : Int := if groOk r c l b then x else 0
theorem groL_len {r c : Int} {l : List Int} {b : Int} : (groL r c l b).length ≤ 576 := by
  unfold groL
  split
  · rename_i h
    unfold groW
    rw [mkL_length]
    have := h.2.2.1
    have := h.2.2.2
    have := Nat.mul_le_mul (show (r + 2 * b).toNat ≤ 24 by omega) (show (c + 2 * b).toNat ≤ 24 by omega)
    omega
  · simp
theorem C.spec_l04New {rr cc : Int} {H : Hp} {K : Value → Hp → Prop} (r0 : 0 ≤ rr) (r1 : rr ≤ 24) (c0 : 0 ≤ cc) (c1 : cc ≤ 24)
    (hk : ∀ u H', Own eI H' u (List.replicate (rr.toNat * cc.toNat) 0) → Nw H u → Le H H' → K (.agg #[.int .i64 rr, .int .i64 cc, u]) H') : HT prg I.spec_l04New [.int .i64 rr, .int .i64 cc].toArray H K := by
  refine R.spec_l04New ?_
  unfold F.spec_l04New
  have m := Int.mul_le_mul r1 c1 c0 (by omega)
  have m0 := Int.mul_nonneg r0 c0
  refine nw_i (fun q H1 oq nq le1 => ?_)
  rw [vInt_mul (by omega) (by omega), ob_some]
  refine Own.mk_ (z := (0 : Int)) (by omega) (by omega) (by omega) (by omega) (fun u H2 ou nu le2 => ?_)
  have aqu : Apart q u := oq.apart nu
  replace oq := oq.le le2
  refine ob_i (a := .agg #[.int .i64 rr, .int .i64 cc, u]) (by obtain ⟨_, _, _, rfl⟩ := ou.isSl; rfl) ?_
  refine oq.stn (ws := [.int .i64 rr, .int .i64 cc, u]) rfl rfl (oc1 rfl (oc1 rfl (oc1 ou.one oc0))) (fun H3 oq off3 => ?_)
  refine ob_i (oq.ldn rfl) ?_
  rw [Int.toNat_mul r0 c0] at ou
  exact hk u H3 (ou.off off3 aqu.symm) (nu.le le1) (off3.le (le1.trans le2) nq)
def groP (r c : Int) (l : List Int) (b : Int) (t : Nat) (j : Nat) : Int :=
  if ((0 ≤ (j : Int) / (c + 2 * b) - b ∧ (j : Int) / (c + 2 * b) - b ≤ r - 1) ∧ 0 ≤ (j : Int) % (c + 2 * b) - b ∧ (j : Int) % (c + 2 * b) - b ≤ c - 1) ∧ ((j : Int) / (c + 2 * b) - b) * c + ((j : Int) % (c + 2 * b) - b) < t then
    at_ 0 l (((j : Int) / (c + 2 * b) - b) * c + ((j : Int) % (c + 2 * b) - b)) else 0
def groS (r c : Int) (l : List Int) (b : Int) (t : Nat) : List Int := (List.range ((r + 2 * b).toNat * (c + 2 * b).toNat)).map (groP r c l b t)
theorem groS_length (r c : Int) (l : List Int) (b : Int) (t : Nat) : (groS r c l b t).length = (r + 2 * b).toNat * (c + 2 * b).toNat := by simp [groS]
theorem groS_zero {r c : Int} {l : List Int} {b : Int} (h : groOk r c l b) : groS r c l b 0 = List.replicate ((r + 2 * b).toNat * (c + 2 * b).toNat) 0 := by
  rw [List.eq_replicate_iff]
  refine ⟨groS_length r c l b 0, fun x hx => ?_⟩
  simp only [groS, List.mem_map] at hx
  obtain ⟨j, _, rfl⟩ := hx
  unfold groP
  rw [if_neg]
  rintro ⟨⟨h1, h2⟩, h3⟩
  have := Int.mul_nonneg h1.1 (show (0 : Int) ≤ c by have := h.1.1.2; omega)
  omega
theorem groS_end {r c : Int} {l : List Int} {b : Int} (h : groOk r c l b) (t : Nat) (ht : (t : Int) = r * c) : groS r c l b t = groW r c l b := by
  unfold groS groW mkL
  apply List.map_congr_left
  intro j _
  unfold groP groG flatF
  by_cases h1 : (0 ≤ (j : Int) / (c + 2 * b) - b ∧ (j : Int) / (c + 2 * b) - b ≤ r - 1) ∧ 0 ≤ (j : Int) % (c + 2 * b) - b ∧ (j : Int) % (c + 2 * b) - b ≤ c - 1
  · rw [if_pos h1, if_pos]
    refine ⟨h1, ?_⟩
    have := Int.mul_le_mul (a := (j : Int) / (c + 2 * b) - b) (b := c) (c := r - 1) (d := c) (by omega) (by omega) (by have := h.1.1.2; omega) (by have := h.1.1.1; omega)
    rw [Int.sub_mul r 1 c] at this
    omega
  · rw [if_neg h1, if_neg (fun h2 => h1 h2.1)]
theorem groS_set {r c : Int} {l : List Int} {b : Int} (h : groOk r c l b) {i k : Int} (i0 : 0 ≤ i) (i1 : i < r) (k0 : 0 ≤ k) (k1 : k < c) (t : Nat) (ht : (t : Int) = i * c + k) :
    (groS r c l b t).set ((i + b) * (c + 2 * b) + k + b).toNat (at_ 0 l (i * c + k)) = groS r c l b (t + 1) := by
  have hb := h.2.1
  have hj0 : 0 ≤ (i + b) * (c + 2 * b) := Int.mul_nonneg (by omega) (by omega)
  have hd := divmod (c := c + 2 * b) (i := i + b) (k := k + b) (by omega) (by omega) (by omega)
  apply List.ext_getElem?
  intro j
  rw [List.getElem?_set]
  simp only [groS, List.getElem?_map, List.length_map, List.length_range]
  by_cases hj : j < (r + 2 * b).toNat * (c + 2 * b).toNat
  · rw [List.getElem?_range hj]
    simp only [Option.map_some]
    by_cases e : ((i + b) * (c + 2 * b) + k + b).toNat = j
    · rw [if_pos e, if_pos (by omega)]
      have ej : (j : Int) = (i + b) * (c + 2 * b) + (k + b) := by omega
      unfold groP
      rw [ej, hd.1, hd.2, show i + b - b = i by omega, show k + b - b = k by omega, if_pos ⟨⟨⟨i0, by omega⟩, k0, by omega⟩, by omega⟩]
    · rw [if_neg e]
      congr 1
      unfold groP
      by_cases h1 : (0 ≤ (j : Int) / (c + 2 * b) - b ∧ (j : Int) / (c + 2 * b) - b ≤ r - 1) ∧ 0 ≤ (j : Int) % (c + 2 * b) - b ∧ (j : Int) % (c + 2 * b) - b ≤ c - 1
      · have hne : ((j : Int) / (c + 2 * b) - b) * c + ((j : Int) % (c + 2 * b) - b) ≠ t := by
          intro hh
          rw [ht] at hh
          have d1 := divmod (c := c) (i := (j : Int) / (c + 2 * b) - b) (k := (j : Int) % (c + 2 * b) - b) (by omega) h1.2.1 (by omega)
          have d2 := divmod (c := c) (i := i) (k := k) (by omega) k0 k1
          rw [hh] at d1
          have e1 : (j : Int) / (c + 2 * b) = i + b := by omega
          have e2 : (j : Int) % (c + 2 * b) = k + b := by omega
          have e3 := Int.mul_ediv_add_emod (j : Int) (c + 2 * b)
          rw [e1, e2, Int.mul_comm] at e3
          omega
        by_cases h2 : ((j : Int) / (c + 2 * b) - b) * c + ((j : Int) % (c + 2 * b) - b) < t
        · rw [if_pos ⟨h1, h2⟩, if_pos ⟨h1, by omega⟩]
        · rw [if_neg (fun h3 => h2 h3.2), if_neg (fun h3 => by have := h3.2; omega)]
      · rw [if_neg (fun h3 => h1 h3.1), if_neg (fun h3 => h1 h3.1)]
  · rw [List.getElem?_eq_none (by simpa using hj)]
    simp only [Option.map_none]
    split
    · rw [if_neg (by omega)]
    · rfl
end Go.Proofs.YthocjpfibegjcaaGreatDoor
