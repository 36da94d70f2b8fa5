/- Several texts in one. -/
import Derived.Test.YthmdmbbdjbhcoaaMDepthOf0
import Derived.Test.YthmdmbbdjbhcoaaG0
import Derived.Below
import Derived.WalkKit
import Derived.ProofKit
/- Slices whose elements have some cells each: what is read, what is owned. -/
namespace Go.Proofs.Ythmdmbbdjbhcoaa.HL
theorem add_add (a : Addr) (x y : Nat) : (a.add x).add y = a.add (x + y) := by
  unfold Addr.add
  by_cases hx : x = 0
  · subst hx; simp
  · by_cases hy : y = 0
    · subst hy; simp
    · rw [if_neg hx, if_neg hy, if_neg (by omega)]; simp [Nat.add_assoc]
section
variable {α : Type} {enc : α → List Value} {n : Nat} {H H' : Hp} {u v : Value} {l m : List α}
theorem flat_len (hn : ∀ x, (enc x).length = n) : ∀ l : List α, (l.flatMap enc).length = l.length * n
  | [] => by simp
  | x :: r => by rw [List.flatMap_cons, List.length_append, hn, flat_len hn r, List.length_cons, Nat.add_mul, Nat.one_mul]; omega
theorem flat_get (hn : ∀ x, (enc x).length = n) : ∀ (l : List α) (i j : Nat) (h : i < l.length), j < n → (l.flatMap enc)[i * n + j]? = (enc l[i])[j]?
  | x :: r, 0, j, h, hj => by rw [List.flatMap_cons, Nat.zero_mul, Nat.zero_add, List.getElem?_append_left (by rw [hn]; exact hj)]; rfl
  | x :: r, i + 1, j, h, hj => by
    rw [List.flatMap_cons, List.getElem?_append_right (by rw [hn, Nat.add_mul]; omega), hn, show (i + 1) * n + j - n = i * n + j by rw [Nat.add_mul]; omega, flat_get hn r i j (by simpa using h) hj]
    rfl
theorem flat_ix {i j N : Nat} (h : i < N) (hj : j < n) : i * n + j < N * n := by
  have := Nat.mul_le_mul_right n (show i + 1 ≤ N by omega)
  rw [Nat.add_mul] at this; omega
/-- A slice of elements of n cells that reads so. -/
def SlE (n : Nat) (enc : α → List Value) (H : Hp) (v : Value) (l : List α) : Prop :=
  ∃ a c, v = .slice a l.length c ∧ l.length ≤ c ∧ ∀ t (h : t < (l.flatMap enc).length), ∃ ad, a = some ad ∧ H.cell? (ad.add t) = some (l.flatMap enc)[t]
/-- One whose block is known whole, and may be written. -/
def OwnE (n : Nat) (enc : α → List Value) (H : Hp) (v : Value) (l : List α) : Prop :=
  ∃ a c, v = .slice a l.length c ∧ l.length ≤ c ∧ (0 < c → ∃ b off cs e, a = some ⟨b, off, none⟩ ∧ H b = some (.cells cs e (0, 0)) ∧ off + c * n ≤ cs.size ∧ ∀ t (h : t < (l.flatMap enc).length), cs[off + t]? = some (l.flatMap enc)[t])
/-- The pointer to an element. -/
def ptrE (n : Nat) (v : Value) (i : Int) : Value := match v with | .slice (some a) _ _ => .pointer (some (a.add (i.toNat * n))) | _ => undef
theorem SlE.le (h : SlE n enc H v l) (hl : Le H H') : SlE n enc H' v l := by
  obtain ⟨a, c, rfl, hc, hr⟩ := h
  exact ⟨a, c, rfl, hc, fun i hi => by obtain ⟨ad, e, hh⟩ := hr i hi; exact ⟨ad, e, hl.cell hh⟩⟩
theorem SlE.len (h : SlE n enc H v l) : vLenSl v = some (.int .i64 l.length) := by
  obtain ⟨a, c, rfl, hc, hr⟩ := h; rfl
theorem SlE.base (h : SlE n enc H v l) (hn : ∀ x, (enc x).length = n) (n0 : 0 < n) {i : Nat} (hi : i < l.length) : ∃ a c, v = .slice (some a) l.length c ∧ ∀ j (hj : j < n), H.cell? (a.add (i * n + j)) = (enc l[i])[j]? := by
  obtain ⟨a, c, rfl, hc, hr⟩ := h
  have hb := flat_ix (n := n) hi n0
  obtain ⟨ad, rfl, _⟩ := hr (i * n + 0) (by rw [flat_len hn]; exact hb)
  refine ⟨ad, c, rfl, fun j hj => ?_⟩
  have hk := flat_ix (n := n) hi hj
  obtain ⟨ad', e, hh⟩ := hr (i * n + j) (by rw [flat_len hn]; exact hk)
  cases e
  rw [hh, ← flat_get hn l i j hi hj, List.getElem?_eq_getElem]
theorem SlE.ix (h : SlE n enc H v l) (hn : ∀ x, (enc x).length = n) (n0 : 0 < n) {k : IntKind} {i : Int} (h0 : 0 ≤ i) (h1 : i < l.length) : vIx n v (.int k i) = some (ptrE n v i) := by
  obtain ⟨a, c, rfl, _⟩ := h.base hn n0 (i := i.toNat) (by omega)
  simp only [vIx, ptrE]
  rw [if_pos ⟨h0, by simpa using h1⟩]
theorem SlE.ldn (h : SlE n enc H v l) (hn : ∀ x, (enc x).length = n) (n0 : 0 < n) (d : α) {i : Int} (h0 : 0 ≤ i) (h1 : i < l.length) : vLoadN n (ptrE n v i) H = some (.agg (enc (at_ d l i)).toArray) := by
  have hi : i.toNat < l.length := by omega
  obtain ⟨a, c, rfl, hr⟩ := h.base hn n0 hi
  have e : at_ d l i = l[i.toNat] := by unfold at_; rw [List.getD_eq_getElem?_getD, List.getElem?_eq_getElem hi]; rfl
  simp only [vLoadN, ptrE]
  rw [rd_cells (enc := id) _ n 0 (enc l[i.toNat]) (hn _) (fun j hj => by
    rw [add_add, Nat.zero_add, hr j (by rw [hn] at hj; exact hj), List.getElem?_eq_getElem hj]; rfl), e]
  simp
theorem SlE.fa (h : SlE n enc H v l) (hn : ∀ x, (enc x).length = n) (n0 : 0 < n) {i : Int} (h0 : 0 ≤ i) (h1 : i < l.length) (k : Nat) : vFa k (ptrE n v i) = some (fp (ptrE n v i) k) := by
  obtain ⟨a, c, rfl, _⟩ := h.base hn n0 (i := i.toNat) (by omega)
  rfl
theorem SlE.nilC (h : SlE n enc H v l) (hn : ∀ x, (enc x).length = n) (n0 : 0 < n) {i : Int} (h0 : 0 ≤ i) (h1 : i < l.length) : vNilC (ptrE n v i) = some (ptrE n v i) := by
  obtain ⟨a, c, rfl, _⟩ := h.base hn n0 (i := i.toNat) (by omega)
  rfl
theorem SlE.ld (h : SlE n enc H v l) (hn : ∀ x, (enc x).length = n) (n0 : 0 < n) (d : α) {i : Int} (h0 : 0 ≤ i) (h1 : i < l.length) {k : Nat} (hk : k < n) {x : Value} (hx : (enc (at_ d l i))[k]? = some x) : vLoad (fp (ptrE n v i) k) H = some x := by
  have hi : i.toNat < l.length := by omega
  obtain ⟨a, c, rfl, hr⟩ := h.base hn n0 hi
  have e : at_ d l i = l[i.toNat] := by unfold at_; rw [List.getD_eq_getElem?_getD, List.getElem?_eq_getElem hi]; rfl
  simp only [vLoad, fp, ptrE, add_add]
  rw [hr k hk, ← e, hx]
theorem SlE.firstC (h : SlE n enc H v l) (hn : ∀ x, (enc x).length = n) : firstC H n l.length v = some (l.flatMap enc) := by
  obtain ⟨a, c, rfl, hc, hr⟩ := h
  by_cases h0 : (l.flatMap enc).length = 0
  · have e : l.flatMap enc = [] := List.length_eq_zero_iff.mp h0
    have e2 : l.length * n = 0 := by rw [← flat_len hn]; exact h0
    cases a with
    | none => rw [e]; rfl
    | some ad => simp only [HL.firstC, e2, e]; rfl
  · obtain ⟨ad, rfl, _⟩ := hr 0 (by omega)
    simp only [HL.firstC]
    have := rd_cells (H := H) (enc := id) ad (l.length * n) 0 (l.flatMap enc) (flat_len hn l) (fun i hi => by obtain ⟨ad', e, hh⟩ := hr i hi; cases e; simpa using hh)
    rw [this]; simp
theorem SlE.lenO (h : SlE n enc H v l) : lenO v = some l.length := by
  obtain ⟨a, c, rfl, hc, hr⟩ := h; rfl
theorem OwnE.len (h : OwnE n enc H v l) : vLenSl v = some (.int .i64 l.length) := by
  obtain ⟨a, c, rfl, hc, hr⟩ := h; rfl
theorem OwnE.sl (h : OwnE n enc H v l) (hn : ∀ x, (enc x).length = n) : SlE n enc H v l := by
  obtain ⟨a, c, rfl, hc, hr⟩ := h
  refine ⟨a, c, rfl, hc, fun i hi => ?_⟩
  have h1 := flat_len hn l
  have hc0 : 0 < c := by
    rcases Nat.eq_zero_or_pos c with h | h
    · have : l.length = 0 := by omega
      rw [this, Nat.zero_mul] at h1; omega
    · exact h
  obtain ⟨b, off, cs, e, rfl, hb, hs, hcs⟩ := hr hc0
  exact ⟨_, rfl, by simp only [Hp.cell?, add_none, hb, hcs i hi]; rfl⟩
theorem OwnE.off (h : OwnE n enc H u l) (ho : Off v H H') (ha : Apart u v) : OwnE n enc H' u l := by
  obtain ⟨a, c, rfl, hc, hr⟩ := h
  refine ⟨a, c, rfl, hc, fun h0 => ?_⟩
  obtain ⟨b, off, cs, e, rfl, hb, hs, hcs⟩ := hr h0
  refine ⟨b, off, cs, e, rfl, ho b _ hb (ha b ?_), hs, hcs⟩
  simp only [bk]
  rw [if_neg (by omega)]
theorem OwnE.le (h : OwnE n enc H u l) (hl : Le H H') : OwnE n enc H' u l := by
  obtain ⟨a, c, rfl, hc, hr⟩ := h
  refine ⟨a, c, rfl, hc, fun h0 => ?_⟩
  obtain ⟨b, off, cs, e, rfl, hb, hs, hcs⟩ := hr h0
  exact ⟨b, off, cs, e, rfl, hl b _ hb, hs, hcs⟩
theorem OwnE.known (h : OwnE n enc H u l) : ∀ b, bk u = some b → ∃ o, H b = some o := by
  obtain ⟨a, c, rfl, hc, hr⟩ := h
  intro b hb
  cases a with
  | none => simp [bk] at hb
  | some ad =>
    simp only [bk] at hb
    by_cases h0 : c = 0
    · rw [if_pos h0] at hb; simp at hb
    · rw [if_neg h0] at hb
      obtain ⟨b', off, cs, e, he, hbb, _⟩ := hr (by omega)
      simp only [Option.some.injEq] at hb he
      subst he
      simp only at hb
      subst hb
      exact ⟨_, hbb⟩
theorem OwnE.apart (h : OwnE n enc H u l) (hn : Nw H v) : Apart u v := Apart.of_nw h.known hn
theorem OwnE.one (h : OwnE n enc H v l) : oneCell v = true := by
  obtain ⟨a, c, rfl, _⟩ := h; rfl
theorem OwnE.cells (h : OwnE n enc H v l) : v.cells = #[v] := by
  obtain ⟨a, c, rfl, _⟩ := h; rfl
theorem OwnE.cast {l' : List α} (e : l = l') (h : OwnE n enc H v l) : OwnE n enc H v l' := e ▸ h
theorem SlE.nil (c : Nat) (a : Option Addr) : SlE n enc H (.slice a 0 c) ([] : List α) := ⟨a, c, rfl, by simp, fun i hi => absurd hi (by simp)⟩
theorem SlE.one (h : SlE n enc H v l) : oneCell v = true := by
  obtain ⟨a, c, rfl, _⟩ := h; rfl
theorem SlE.cells (h : SlE n enc H v l) : v.cells = #[v] := by
  obtain ⟨a, c, rfl, _⟩ := h; rfl
theorem SlE.cast {l' : List α} (e : l = l') (h : SlE n enc H v l) : SlE n enc H v l' := e ▸ h
/-- An append. -/
theorem OwnE.apd {bytes : Nat} {z : Array Value} {e : TypeId} {w : Value} {K : Value → Hp → Prop} (h : OwnE n enc H v l) (hn : ∀ x, (enc x).length = n) (hz : z.size = n) (hm : SlE n enc H w m) (ho : ∀ x ∈ m, ∀ y ∈ enc x, oneCell y = true)
    (hb : bytes ≤ 64) (hlm : l.length + m.length ≤ 68719476736)
    (hk : ∀ v' H', OwnE n enc H' v' (l ++ m) → Off v H H' → (∀ b, bk v' = some b → bk v = some b ∨ H b = none) → K v' H') : apd n bytes z e v w H K := by
  have hmf := hm.firstC hn
  have hml := hm.lenO
  have hlf := (h.sl hn).firstC hn
  have fl := flat_len hn l
  have fm := flat_len hn m
  have hap : (l ++ m).flatMap enc = l.flatMap enc ++ m.flatMap enc := List.flatMap_append
  obtain ⟨a, c, rfl, hlc, hr⟩ := h
  simp only [HL.apd, hml]
  by_cases hcap : l.length + m.length ≤ c
  · rw [if_pos hcap]
    simp only [hmf]
    by_cases hc0 : c = 0
    · have hl : l = [] := List.length_eq_zero_iff.mp (by omega)
      have hm' : m = [] := List.length_eq_zero_iff.mp (by omega)
      subst hl hm' hc0
      have : K (.slice a (([] : List α).length + ([] : List α).length) 0) H := hk _ H ⟨a, 0, rfl, by simp, fun h0 => absurd h0 (by simp)⟩ (fun b o hb _ => hb) (fun b hb => by cases a <;> simp [bk] at hb)
      cases a with
      | none => exact this
      | some ad => exact this
    · obtain ⟨b, off, cs, e', rfl, hbb, hs, hcs⟩ := hr (by omega)
      have hmul : (l.length + m.length) * n ≤ c * n := Nat.mul_le_mul_right n hcap
      rw [Nat.add_mul] at hmul
      simp only [add_none]
      refine stC_run (b := b) (e := e') (m.flatMap enc) _ 0 cs H rfl rfl hbb (by simp only [Nat.add_zero]; omega) (fun x hx => by
        obtain ⟨y, hy, hxy⟩ := List.mem_flatMap.mp hx; exact ho y hy x hxy) ?_
      intro H' cs' h1 h2 h3 h4 h5
      simp only [Nat.add_zero] at h3 h4
      refine hk _ H' ⟨some ⟨b, off, none⟩, c, by simp, by simpa using hcap, fun _ => ⟨b, off, cs', e', rfl, h1, by omega, ?_⟩⟩ ?_ ?_
      · simp only [hap]
        intro t ht
        rw [List.length_append] at ht
        by_cases htl : t < (l.flatMap enc).length
        · rw [h3 _ (by omega), hcs t htl, List.getElem_append_left htl]
        · have := h4 (t - (l.flatMap enc).length) (by omega)
          rw [show off + l.length * n + (t - (l.flatMap enc).length) = off + t by omega] at this
          rw [this, List.getElem_append_right (by omega)]
      · intro x o hx hne
        simp only [bk, if_neg hc0] at hne
        rw [h5 x (by rintro rfl; exact hne rfl)]; exact hx
      · intro x hx
        left; exact hx
  · rw [if_neg hcap]
    refine ⟨by omega, ?_, ?_⟩
    · have := nsc_le (n := l.length + m.length) (c := c) (by omega)
      exact Nat.le_trans (Nat.mul_le_mul this hb) (by omega)
    simp only [hlf, hmf]
    intro c' hc1 hc2 r hr'
    have hmul : (l.length + m.length) * n ≤ c' * n := Nat.mul_le_mul_right n hc1
    have hsub : (c' - (l.length + m.length)) * n = c' * n - (l.length + m.length) * n := Nat.sub_mul _ _ _
    rw [Nat.add_mul] at hmul hsub
    refine hk _ _ ⟨some ⟨r, 0, none⟩, c', by simp, by simpa using hc1, fun _ => ⟨r, 0, _, e, rfl, Hp.put_same _ _ _, ?_, ?_⟩⟩ ?_ ?_
    · have : (Builtin.zeroCells z (c' - (l.length + m.length))).size = (c' - (l.length + m.length)) * n := by simp [Builtin.zeroCells, hz]
      simp only [Nat.zero_add, Array.size_append, List.size_toArray, this, fl, fm]; omega
    · simp only [hap]
      intro t ht
      rw [Nat.zero_add, Array.getElem?_append_left (by simpa using ht)]
      rw [← Array.getElem?_toList]
      simp only [Array.toList_append]
      rw [List.getElem?_eq_getElem ht]
    · intro x o hx _
      rw [Hp.put_ne _ _ (by rintro rfl; rw [hr'] at hx; exact absurd hx (by simp))]; exact hx
    · intro x hx
      right
      simp only [bk] at hx
      split at hx
      · simp at hx
      · simp only [Option.some.injEq] at hx; subst hx; exact hr'
end
end Go.Proofs.Ythmdmbbdjbhcoaa.HL
/- Fields in slices: one of them. -/
namespace Go.Proofs.Ythmdmbbdjbhcoaa
open HL
/-- A field as it lies in cells. -/
structure Fv where
  r : Int
  c : Int
  v : Value
def encFv (x : Fv) : List Value := [.int .i64 x.r, .int .i64 x.c, x.v]
theorem encFv_n (x : Fv) : (encFv x).length = 3 := rfl
end Go.Proofs.Ythmdmbbdjbhcoaa
/- Slices of fields whose cells are owned. -/
namespace Go.Proofs.Ythmdmbbdjbhcoaa
open HL
set_option maxRecDepth 100000
namespace HL
/-- What has blocks: a slice or a pointer, or a set of blocks. -/
class Bks (α : Type) where inb : α → Nat → Prop
instance instBV : Bks Value := ⟨fun v b => bk v = some b⟩
def Rg : Type := Nat → Prop
instance instBR : Bks Rg := ⟨fun S b => S b⟩
def Apt {α β : Type} [Bks α] [Bks β] (u : α) (v : β) : Prop := ∀ b, Bks.inb u b → ¬ Bks.inb v b
def Kn {α : Type} [Bks α] (H : Hp) (u : α) : Prop := ∀ b, Bks.inb u b → ∃ o, H b = some o
def Nws (H : Hp) (S : Rg) : Prop := ∀ b, S b → H b = none
def OffS (S : Rg) (H H' : Hp) : Prop := ∀ b o, H b = some o → ¬ S b → H' b = some o
section
variable {α β : Type} [Bks α] [Bks β] {u : α} {v : β} {H H' : Hp} {S : Rg}
theorem Apt.symm (h : Apt u v) : Apt v u := fun b h1 h2 => h b h2 h1
theorem Apt.of_nw {w : Value} (hu : Kn H u) (hn : Nw H w) : Apt u w := fun b h1 h2 => by
  obtain ⟨o, ho⟩ := hu b h1
  rw [hn b h2] at ho; exact absurd ho (by simp)
theorem Nws.le (h : Nws H' S) (hl : Le H H') : Nws H S := fun b hb => by
  cases ho : H b with
  | none => rfl
  | some o => have := hl b o ho; rw [h b hb] at this; exact absurd this (by simp)
theorem OffS.le {H0 : Hp} (h : OffS S H H') (hl : Le H0 H) (hn : Nws H0 S) : Le H0 H' := fun b o hb =>
  h b o (hl b o hb) (fun e => by rw [hn b e] at hb; exact absurd hb (by simp))
theorem OffS.trans {A B C : Hp} (h : OffS S A B) (h' : OffS S B C) : OffS S A C := fun b o hb hv => h' b o (h b o hb hv) hv
/-- What has no block of a set stays. -/
theorem OffS.off {w x : Value} (h : OffS S H H') (ha : Apt w S) : ∀ b o, bk w = some b → H b = some o → H' b = some o := fun b o hb ho => h b o ho (ha b hb)
end
/-- A field. -/
structure FdL where
  r : Int
  c : Int
  l : List Int
  deriving DecidableEq
def RelF (P : Value → List Int → Prop) : List Fv → List FdL → Prop
  | [], [] => True
  | x :: L, f :: fs => (x.r = f.r ∧ x.c = f.c ∧ P x.v f.l) ∧ RelF P L fs
  | _, _ => False
section
variable {P Q : Value → List Int → Prop}
theorem RelF.len : ∀ {L : List Fv} {fs : List FdL}, RelF P L fs → L.length = fs.length
  | [], [], _ => rfl
  | x :: L, f :: fs, h => congrArg (· + 1) (RelF.len h.2)
  | [], _ :: _, h => h.elim
  | _ :: _, [], h => h.elim
theorem RelF.imp : ∀ {L : List Fv} {fs : List FdL}, RelF P L fs → (∀ x ∈ L, ∀ l, P x.v l → Q x.v l) → RelF Q L fs
  | [], [], _, _ => trivial
  | x :: L, f :: fs, h, g => ⟨⟨h.1.1, h.1.2.1, g x (by simp) _ h.1.2.2⟩, RelF.imp h.2 (fun y hy => g y (by simp [hy]))⟩
  | [], _ :: _, h, _ => h.elim
  | _ :: _, [], h, _ => h.elim
theorem RelF.app : ∀ {L M : List Fv} {fs gs : List FdL}, RelF P L fs → RelF P M gs → RelF P (L ++ M) (fs ++ gs)
  | [], M, [], gs, _, h => h
  | x :: L, M, f :: fs, gs, h1, h2 => ⟨h1.1, RelF.app h1.2 h2⟩
  | [], _, _ :: _, _, h, _ => h.elim
  | _ :: _, _, [], _, h, _ => h.elim
end
/-- A slice of fields, whose blocks and those of its fields are owned. -/
def Fam (H : Hp) (v : Value) (S : Rg) (fs : List FdL) : Prop :=
  ∃ L, OwnE 3 encFv H v L ∧ RelF (Own eI H) L fs ∧ (∀ x ∈ L, Apart v x.v) ∧ L.Pairwise (fun x y => Apart x.v y.v) ∧ ∀ b, S b ↔ (bk v = some b ∨ ∃ x ∈ L, bk x.v = some b)
theorem RelF.mem {P : Value → List Int → Prop} : ∀ {L : List Fv} {fs : List FdL}, RelF P L fs → ∀ x ∈ L, ∃ l, P x.v l
  | [], [], _ => by simp
  | x :: L, f :: fs, h => fun y hy => by
    rcases List.mem_cons.mp hy with rfl | hy
    · exact ⟨_, h.1.2.2⟩
    · exact RelF.mem h.2 y hy
  | [], _ :: _, h => h.elim
  | _ :: _, [], h => h.elim
section
variable {H H' : Hp} {v : Value} {S : Rg} {fs : List FdL}
theorem Fam.known (h : Fam H v S fs) : Kn H S := by
  obtain ⟨L, h1, h2, h3, h4, h5⟩ := h
  intro b hb
  rcases (h5 b).mp hb with e | ⟨x, hx, e⟩
  · exact h1.known b e
  · obtain ⟨l, hl⟩ := h2.mem x hx
    exact hl.known b e
theorem Fam.le (h : Fam H v S fs) (hl : Le H H') : Fam H' v S fs := by
  obtain ⟨L, h1, h2, h3, h4, h5⟩ := h
  exact ⟨L, h1.le hl, h2.imp (fun _ _ _ h => h.le hl), h3, h4, h5⟩
theorem Fam.off {w : Value} (h : Fam H v S fs) (ho : Off w H H') (ha : Apt S w) : Fam H' v S fs := by
  obtain ⟨L, h1, h2, h3, h4, h5⟩ := h
  exact ⟨L, h1.off ho (fun b hb => ha b ((h5 b).mpr (.inl hb))), h2.imp (fun x hx _ h => h.off ho (fun b hb => ha b ((h5 b).mpr (.inr ⟨x, hx, hb⟩)))), h3, h4, h5⟩
theorem Fam.len (h : Fam H v S fs) : vLenSl v = some (.int .i64 fs.length) := by
  obtain ⟨L, h1, h2, _⟩ := h
  rw [h1.len, h2.len]
theorem Fam.one (h : Fam H v S fs) : oneCell v = true := by obtain ⟨L, h1, _⟩ := h; exact h1.one
theorem Fam.cells (h : Fam H v S fs) : v.cells = #[v] := by obtain ⟨L, h1, _⟩ := h; exact h1.cells
theorem Fam.cast {gs : List FdL} (e : fs = gs) (h : Fam H v S fs) : Fam H v S gs := e ▸ h
/-- One more. -/
theorem Fam.push {bytes : Nat} {z : Array Value} {e : TypeId} {w x : Value} {r c : Int} {l : List Int} {K : Value → Hp → Prop} (h : Fam H v S fs) (hz : z.size = 3) (hw : SlE 3 encFv H w [⟨r, c, x⟩]) (hx : Own eI H x l) (ax : Apt x S)
    (hb : bytes ≤ 64) (hl : fs.length < 1000000)
    (hk : ∀ v' S' H', Fam H' v' S' (fs ++ [⟨r, c, l⟩]) → OffS S H H' → (∀ b, S' b → S b ∨ bk x = some b ∨ H b = none) → (∀ b, bk x = some b → S' b) → Own eI H' x l → K v' H') : apd 3 bytes z e v w H K := by
  obtain ⟨L, h1, h2, h3, h4, h5⟩ := h
  have hlen := h2.len
  have axv : Apart x v := fun b hb hv => ax b hb ((h5 b).mpr (.inl hv))
  refine OwnE.apd h1 encFv_n hz hw (fun y hy t ht => ?_) hb (by simp; omega) (fun v' H' ov off hb' => ?_)
  · simp only [List.mem_singleton] at hy
    subst hy
    simp only [encFv, List.mem_cons, List.not_mem_nil, or_false] at ht
    rcases ht with rfl | rfl | rfl
    · rfl
    · rfl
    · exact hx.one
  have ax' : ∀ y ∈ L, Apart v' y.v := fun y hy b e1 e2 => by
    rcases hb' b e1 with e3 | e3
    · exact h3 y hy b e3 e2
    · obtain ⟨m, hm⟩ := h2.mem y hy
      obtain ⟨o, ho⟩ := hm.known b e2
      rw [e3] at ho; simp at ho
  have axx : Apart v' x := fun b e1 e2 => by
    rcases hb' b e1 with e3 | e3
    · exact axv b e2 e3
    · obtain ⟨o, ho⟩ := hx.known b e2
      rw [e3] at ho; simp at ho
  have hx' := hx.off off axv
  refine hk v' (fun b => bk v' = some b ∨ ∃ y ∈ L ++ [⟨r, c, x⟩], bk y.v = some b) H' ⟨_, ov, ?_, ?_, ?_, fun b => Iff.rfl⟩ (fun b o hbo hn => off b o hbo (fun e => hn ((h5 b).mpr (.inl e)))) ?_ (fun b hb => .inr ⟨⟨r, c, x⟩, by simp, hb⟩) hx'
  · exact (h2.imp (fun y hy m h => h.off off (h3 y hy).symm)).app ⟨⟨rfl, rfl, hx'⟩, trivial⟩
  · intro y hy
    rcases List.mem_append.mp hy with hy | hy
    · exact ax' y hy
    · simp only [List.mem_singleton] at hy; subst hy; exact axx
  · rw [List.pairwise_append]
    refine ⟨h4, List.pairwise_singleton _ _, fun y hy t ht => ?_⟩
    simp only [List.mem_singleton] at ht
    subst ht
    exact fun b e1 e2 => ax b e2 ((h5 b).mpr (.inr ⟨y, hy, e1⟩))
  · intro b hb
    rcases hb with hb | ⟨y, hy, e⟩
    · rcases hb' b hb with e3 | e3
      · exact .inl ((h5 b).mpr (.inl e3))
      · exact .inr (.inr e3)
    · rcases List.mem_append.mp hy with hy | hy
      · exact .inl ((h5 b).mpr (.inr ⟨y, hy, e⟩))
      · simp only [List.mem_singleton] at hy; subst hy; exact .inr (.inl e)
/-- Apart from what was pushed to. -/
theorem Apt.push {α : Type} [Bks α] {u : α} {S' : Rg} {x : Value} (hu : Kn H u) (hS : Apt u S) (hx : Apt u x) (hb : ∀ b, S' b → S b ∨ bk x = some b ∨ H b = none) : Apt u S' := fun b h1 h2 => by
  rcases hb b h2 with h | h | h
  · exact hS b h1 h
  · exact hx b h1 h
  · obtain ⟨o, ho⟩ := hu b h1
    rw [h] at ho; simp at ho
theorem Nws.push {H0 : Hp} {S' : Rg} {x : Value} (hl : Le H0 H) (hS : Nws H0 S) (hx : Nw H0 x) (hb : ∀ b, S' b → S b ∨ bk x = some b ∨ H b = none) : Nws H0 S' := fun b h2 => by
  rcases hb b h2 with h | h | h
  · exact hS b h
  · exact hx b h
  · cases ho : H0 b with
    | none => rfl
    | some o => rw [hl b o ho] at h; simp at h
end
end HL
end Go.Proofs.Ythmdmbbdjbhcoaa
/- Maps that count numbers, and ranges over them. -/
namespace Go.Proofs.Ythmdmbbdjbhcoaa.HL
set_option maxRecDepth 100000
/-- Entries, told in the order in which they were born. -/
def mkE : Nat → List (Int × Int) → List MapEntry
  | _, [] => []
  | i, m :: ms => { key := .int .i64 m.1, val := .int .i64 m.2, born := i } :: mkE (i + 1) ms
theorem mkE_len : ∀ (ms : List (Int × Int)) (i : Nat), (mkE i ms).length = ms.length
  | [], _ => rfl
  | m :: ms, i => by simp [mkE, mkE_len ms]
theorem mkE_app : ∀ (ms ns : List (Int × Int)) (i : Nat), mkE i (ms ++ ns) = mkE i ms ++ mkE (i + ms.length) ns
  | [], ns, i => rfl
  | m :: ms, ns, i => by
    simp only [mkE, List.cons_append, mkE_app ms ns (i + 1), List.length_cons]
    rw [show i + 1 + ms.length = i + (ms.length + 1) by omega]
theorem mkE_get : ∀ (ms : List (Int × Int)) (i j : Nat), (mkE i ms)[j]? = (ms[j]?).map fun m => { key := .int .i64 m.1, val := .int .i64 m.2, born := i + j }
  | [], i, j => by simp [mkE]
  | m :: ms, i, 0 => by simp [mkE]
  | m :: ms, i, j + 1 => by
    simp only [mkE, List.getElem?_cons_succ, mkE_get ms (i + 1) j]
    rw [show i + 1 + j = i + (j + 1) by omega]
theorem mkE_mem {ms : List (Int × Int)} {e : MapEntry} (h : e ∈ mkE 0 ms) : ∃ j, ∃ hj : j < ms.length, e = { key := .int .i64 ms[j].1, val := .int .i64 ms[j].2, born := j } := by
  obtain ⟨j, hj, rfl⟩ := List.mem_iff_getElem.mp h
  have hj' : j < ms.length := by rw [mkE_len] at hj; exact hj
  refine ⟨j, hj', ?_⟩
  have := mkE_get ms 0 j
  rw [List.getElem?_eq_getElem hj, List.getElem?_eq_getElem hj'] at this
  simpa using this
theorem mkE_in {ms : List (Int × Int)} {j : Nat} (hj : j < ms.length) : ({ key := .int .i64 ms[j].1, val := .int .i64 ms[j].2, born := j } : MapEntry) ∈ mkE 0 ms := by
  have := mkE_get ms 0 j
  rw [List.getElem?_eq_getElem hj] at this
  simp only [Option.map_some, Nat.zero_add] at this
  exact List.mem_of_getElem? this
/-- Where a number stands, and what is told of it. -/
def posK (k : Int) : List (Int × Int) → Option (Nat × Int)
  | [] => none
  | m :: ms => if k = m.1 then some (0, m.2) else (posK k ms).map fun p => (p.1 + 1, p.2)
theorem posK_at {k : Int} : ∀ {ms : List (Int × Int)} {i : Nat} {v : Int}, posK k ms = some (i, v) → ms[i]? = some (k, v)
  | [], i, v, h => by simp [posK] at h
  | m :: ms, i, v, h => by
    unfold posK at h
    split at h
    · rename_i hk
      simp only [Option.some.injEq, Prod.mk.injEq] at h
      obtain ⟨rfl, rfl⟩ := h
      rw [hk]; rfl
    · cases hp : posK k ms with
      | none => rw [hp] at h; simp at h
      | some p =>
        rw [hp] at h
        simp only [Option.map_some, Option.some.injEq, Prod.mk.injEq] at h
        obtain ⟨rfl, rfl⟩ := h
        rw [List.getElem?_cons_succ]
        exact posK_at hp
theorem posK_none {k : Int} : ∀ {ms : List (Int × Int)}, posK k ms = none → ∀ m ∈ ms, m.1 ≠ k
  | [], _, m, hm => by simp at hm
  | x :: ms, h, m, hm => by
    unfold posK at h
    split at h
    · simp at h
    · rename_i hk
      rcases List.mem_cons.mp hm with rfl | hm
      · exact fun e => hk e.symm
      · exact posK_none (by cases hp : posK k ms with | none => rfl | some p => rw [hp] at h; simp at h) m hm
theorem findNow_c {kd : IntKind} (k : Int) : ∀ (ms : List (Int × Int)) (i j : Nat), Instr.findNow (.int kd) (.int .i64 k) (mkE i ms) j = some ((posK k ms).map fun p => (p.1 + j, Value.int .i64 p.2))
  | [], i, j => rfl
  | m :: ms, i, j => by
    unfold mkE Instr.findNow posK
    simp only [Instr.sameNow, if_true]
    by_cases h : k = m.1
    · rw [if_pos h, show (k == m.1) = true by simp [h]]; simp
    · rw [if_neg h, show (k == m.1) = false by simp [h]]
      simp only
      rw [findNow_c k ms (i + 1) (j + 1)]
      cases posK k ms with
      | none => rfl
      | some p => simp; omega
/-- A map that is owned. -/
def MpC (H : Hp) (p : Value) (S : Rg) (ms : List (Int × Int)) : Prop := ∃ r, p = .map (some r) ∧ H r = some (.map (mkE 0 ms).toArray ms.length) ∧ ∀ b, S b ↔ b = r
def mapCI (P : Program) (t : TypeId) : Bool := match P.underlying t with
  | some (.map kt et) => (match P.underlying kt, zeroO P et with | some (.int .i64), some (.int .i64 0) => true | _, _ => false)
  | _ => false
theorem mapCI_of {P : Program} {t : TypeId} (h : mapCI P t = true) : ∃ kt et, P.underlying t = some (.map kt et) ∧ P.underlying kt = some (.int .i64) ∧ zeroO P et = some (.int .i64 0) := by
  unfold mapCI at h
  split at h
  · rename_i kt et he
    split at h
    · rename_i h1 h2; exact ⟨kt, et, he, h1, h2⟩
    · simp at h
  · simp at h
section
variable {H H' : Hp} {p : Value} {S : Rg} {ms ns : List (Int × Int)}
theorem MpC.cast (e : ms = ns) (h : MpC H p S ms) : MpC H p S ns := e ▸ h
theorem MpC.known (h : MpC H p S ms) : Kn H S := by
  obtain ⟨r, _, hr, hS⟩ := h
  intro b hb
  rw [(hS b).mp hb]; exact ⟨_, hr⟩
theorem MpC.le (h : MpC H p S ms) (hl : Le H H') : MpC H' p S ms := by
  obtain ⟨r, e, hr, hS⟩ := h
  exact ⟨r, e, hl r _ hr, hS⟩
theorem MpC.off {w : Value} (h : MpC H p S ms) (ho : Off w H H') (ha : Apt S w) : MpC H' p S ms := by
  obtain ⟨r, e, hr, hS⟩ := h
  exact ⟨r, e, ho r _ hr (ha r ((hS r).mpr rfl)), hS⟩
theorem val_checkKeyC (P : Program) (b : Bool) (n : Nat) (t : TypeId) (k : Int) (H : Hp) (ht : P.underlying t = some (.int .i64)) : val P (Instr.checkKey b (n + 1) t (.int .i64 k)) H = some () := by
  unfold Instr.checkKey
  rw [val_bind', val_underlying, ht]
  rfl
theorem val_findKeyC {P : Program} {t : TypeId} {k : Int} (ht : P.underlying t = some (.int .i64)) : val P (Instr.findKey t (.int .i64 k) (mkE 0 ms)) H = some ((posK k ms).map fun p => (p.1, Value.int .i64 p.2)) := by
  unfold Instr.findKey
  rw [val_bind', val_underlying, ht]
  simp only [Option.bind_some]
  rw [findNow_c k ms 0 0]
  rfl
/-- An entry for a number, its number and its place; a new one where there was none. -/
def entK (k : Int) (ms : List (Int × Int)) : List (Int × Int) := match posK k ms with | some _ => ms | none => ms ++ [(k, 0)]
def entI (k : Int) (ms : List (Int × Int)) : Nat := match posK k ms with | some p => p.1 | none => ms.length
def entV (k : Int) (ms : List (Int × Int)) : Int := match posK k ms with | some p => p.2 | none => 0
theorem MpC.entry {P : Program} {t : TypeId} {k : Int} {K : Value → Hp → Prop} (h : MpC H p S ms) (ht : mapCI P t = true)
    (hK : ∀ H', MpC H' p S (entK k ms) → OffS S H H' → K (.tuple #[.int .i64 (entV k ms), .int .i64 (entI k ms : Int)]) H') : hp P (Instr.mapEntry t p (.int .i64 k)) H K := by
  obtain ⟨r, rfl, hr, hS⟩ := h
  obtain ⟨kt, et, h1, h2, h3⟩ := mapCI_of ht
  unfold Instr.mapEntry
  have e1 : val P (getObj r) H = some (.map (mkE 0 ms).toArray ms.length) := by
    show val P (Sem.getObj r Sem.pure) H = _
    simp only [val, hr]
  refine hp_val_bind P _ _ H K _ (by rw [val_underlying, h1]) ?_
  refine hp_val_bind P _ _ H K _ e1 ?_
  refine hp_val_bind P _ _ H K _ (val_checkKeyC P _ 9999 kt k H h2) ?_
  refine hp_val_bind P _ _ H K _ (val_findKeyC (ms := ms) h2) ?_
  have hoff : ∀ o, OffS S H (H.put r o) := fun o b o' hb hn => by
    rw [Hp.put_ne _ _ (by rintro rfl; exact hn ((hS _).mpr rfl))]; exact hb
  cases hp' : posK k ms with
  | none =>
    simp only [Option.map_none]
    refine hp_val_bind P _ _ H K _ (by rw [val_zeroValue, h3]) ?_
    show hp P (Sem.setObj r _ (Sem.pure _)) H K
    simp only [hp, hr]
    have := hK (H.put r (.map ((mkE 0 ms).toArray.push { key := .int .i64 k, val := .int .i64 0, born := ms.length }) (ms.length + 1))) ⟨r, rfl, ?_, hS⟩ (hoff _)
    · simpa only [entV, entI, hp', goInt] using this
    · rw [Hp.put_same]
      unfold entK
      rw [hp']
      simp only [mkE_app, Nat.zero_add, List.length_append, List.length_singleton]
      simp [mkE]
  | some q =>
    obtain ⟨i, v⟩ := q
    simp only [Option.map_some]
    have hat := posK_at hp'
    have hge : (mkE 0 ms)[i]? = some { key := .int .i64 k, val := .int .i64 v, born := i } := by rw [mkE_get, hat]; simp
    have hge' : (mkE 0 ms).toArray[i]? = some { key := .int .i64 k, val := .int .i64 v, born := i } := by simpa using hge
    rw [hge']
    simp only [Option.map_some, Option.getD_some]
    refine hp_val_bind P _ _ H K (.int .i64 k) (by unfold Instr.keyThatStays Instr.sameBits; simp [val_pure]) ?_
    show hp P (Sem.setObj r _ (Sem.pure _)) H K
    simp only [hp, hr]
    have hmod : (mkE 0 ms).toArray.modify i (fun e => { e with key := .int .i64 k }) = (mkE 0 ms).toArray := by
      apply Array.ext_getElem?
      intro j
      rw [Array.getElem?_modify]
      by_cases e : i = j
      · subst e; rw [if_pos rfl, hge']; rfl
      · rw [if_neg e]
    rw [hmod]
    have := hK (H.put r (.map (mkE 0 ms).toArray ms.length)) ⟨r, rfl, ?_, hS⟩ (hoff _)
    · simpa only [entV, entI, hp', goInt] using this
    · rw [Hp.put_same]
      unfold entK
      rw [hp']
def keyN (ms : List (Int × Int)) (j : Nat) : Int := (ms[j]?.getD (0, 0)).1
def valN (ms : List (Int × Int)) (j : Nat) : Int := (ms[j]?.getD (0, 0)).2
theorem keyN_at {ms : List (Int × Int)} {j : Nat} (h : j < ms.length) : ms[j].1 = keyN ms j ∧ ms[j].2 = valN ms j := by
  unfold keyN valN
  rw [List.getElem?_eq_getElem h]
  exact ⟨rfl, rfl⟩
/-- An iterator over a map: what it has given. -/
def ItC (H : Hp) (it m : Value) (n : Nat) (js : List Nat) : Prop := ∃ r q seen, it = .pointer (some ⟨r, 0, none⟩) ∧ m = .map (some q) ∧ H r = some (.mapIter (some q) n seen n) ∧ seen.toList = js
variable {it m : Value} {n : Nat} {js ks : List Nat}
theorem ItC.cast (e : js = ks) (h : ItC H it m n js) : ItC H it m n ks := e ▸ h
theorem ItC.known (h : ItC H it m n js) : ∀ b, bk it = some b → ∃ o, H b = some o := by
  obtain ⟨r, q, seen, rfl, _, hr, _⟩ := h
  intro b hb
  simp only [bk, Option.some.injEq] at hb
  subst hb; exact ⟨_, hr⟩
theorem ItC.le (h : ItC H it m n js) (hl : Le H H') : ItC H' it m n js := by
  obtain ⟨r, q, seen, e, e2, hr, hs⟩ := h
  exact ⟨r, q, seen, e, e2, hl _ _ hr, hs⟩
theorem ItC.off {w : Value} (h : ItC H it m n js) (ho : Off w H H') (ha : Apart it w) : ItC H' it m n js := by
  obtain ⟨r, q, seen, rfl, e2, hr, hs⟩ := h
  exact ⟨r, q, seen, rfl, e2, ho r _ hr (ha r rfl), hs⟩
theorem ItC.apart {w : Value} (h : ItC H it m n js) (hn : Nw H w) : Apart it w := Apart.of_nw h.known hn
theorem ItC.next {P : Program} {ty : TypeId} {K : Value → Hp → Prop} (hi : ItC H it m ms.length js) (hm : MpC H m S ms)
    (h1 : ∀ (j : Nat) (hj : j < ms.length) H', j ∉ js → ItC H' it m ms.length (js ++ [j]) → Off it H H' → K (.tuple #[.bool true, .int .i64 (keyN ms j), .int .i64 (valN ms j)]) H')
    (h2 : (∀ j, j < ms.length → j ∈ js) → K (.tuple #[.bool false]) H) : hp P (Instr.next it false ty) H K := by
  obtain ⟨r, q, seen, rfl, rfl, hr, hs⟩ := hi
  obtain ⟨q', e, hq, hS⟩ := hm
  simp only [Value.map.injEq, Option.some.injEq] at e
  subst e
  unfold Instr.next
  have e0 : val P (getObj r) H = some (.mapIter (some q) ms.length seen ms.length) := by
    show val P (Sem.getObj r Sem.pure) H = _
    simp only [val, hr]
  have e1 : val P (getObj q) H = some (.map (mkE 0 ms).toArray ms.length) := by
    show val P (Sem.getObj q Sem.pure) H = _
    simp only [val, hq]
  refine hp_val_bind P _ _ H K _ e0 ?_
  refine hp_val_bind P _ _ H K _ e1 ?_
  have hb : (!seen.isEmpty && !(mkE 0 ms).toArray.isEmpty && (mkE 0 ms).toArray.all (fun e => decide (e.born ≥ ms.length))) = false := by
    cases ms with
    | nil => simp [mkE]
    | cons x xs => simp [mkE]
  simp only [hb, Bool.false_eq_true, if_false]
  have hold : ((mkE 0 ms).toArray.filter fun e => !seen.contains e.born).filter (fun e => decide (e.born < ms.length)) = (mkE 0 ms).toArray.filter fun e => !seen.contains e.born := by
    rw [Array.filter_eq_self]
    intro e he
    obtain ⟨j, hj, rfl⟩ := mkE_mem (by simpa using (Array.mem_filter.mp he).1)
    simpa using hj
  have hnew : ((mkE 0 ms).toArray.filter fun e => !seen.contains e.born).filter (fun e => decide (e.born ≥ ms.length)) = #[] := by
    rw [Array.filter_eq_empty_iff]
    intro e he
    obtain ⟨j, hj, rfl⟩ := mkE_mem (by simpa using (Array.mem_filter.mp he).1)
    simp; omega
  rw [hold, hnew]
  generalize hL : (mkE 0 ms).toArray.filter (fun e => !seen.contains e.born) = L
  have hmem : ∀ e, e ∈ L → ∃ j, ∃ hj : j < ms.length, j ∉ js ∧ e = { key := .int .i64 ms[j].1, val := .int .i64 ms[j].2, born := j } := by
    intro e he
    rw [← hL] at he
    obtain ⟨g1, g2⟩ := Array.mem_filter.mp he
    obtain ⟨j, hj, rfl⟩ := mkE_mem (by simpa using g1)
    refine ⟨j, hj, ?_, rfl⟩
    rw [← hs]
    simpa using g2
  rw [Array.append_empty]
  generalize hC : (if L.isEmpty = true then (#[none] : Array (Option MapEntry)) else #[]) ++ L.map some = C
  have hCs : 0 < C.size := by
    rw [← hC]
    by_cases g : L.isEmpty = true
    · rw [if_pos g]; simp; omega
    · rw [if_neg g]
      simp only [Array.isEmpty, decide_eq_true_eq] at g
      simp; omega
  have hall : ∀ i, i < C.size → hp P (match C[i]? with
      | some (some e) => do
        setObj r (.mapIter (some q) ms.length (seen.push e.born) ms.length)
        pure (.tuple #[.bool true, e.key, e.val])
      | some none => pure (.tuple #[.bool false])
      | none => stuck "Next: no such candidate") H K := by
    intro i hi
    rw [Array.getElem?_eq_getElem hi]
    cases hc : C[i] with
    | none =>
      refine h2 (fun j hj => ?_)
      have hem : L.isEmpty = true := by
        have : none ∈ C := by rw [← hc]; exact Array.getElem_mem hi
        rw [← hC] at this
        by_cases g : L.isEmpty = true
        · exact g
        · rw [if_neg g] at this; simp at this
      by_cases hin : j ∈ js
      · exact hin
      · exfalso
        have hx : ({ key := .int .i64 ms[j].1, val := .int .i64 ms[j].2, born := j } : MapEntry) ∈ L := by
          rw [← hL]
          refine Array.mem_filter.mpr ⟨by simpa using mkE_in hj, ?_⟩
          rw [← hs] at hin
          simpa using hin
        rw [Array.isEmpty_iff] at hem
        rw [hem] at hx; simp at hx
    | some e =>
      have hx : e ∈ L := by
        have : some e ∈ C := by rw [← hc]; exact Array.getElem_mem hi
        rw [← hC] at this
        by_cases g : L.isEmpty = true
        · rw [if_pos g] at this
          rw [Array.isEmpty_iff] at g
          rw [g] at this; simp at this
        · rw [if_neg g] at this; simpa using this
      obtain ⟨j, hj, hn, rfl⟩ := hmem e hx
      show hp P (Sem.setObj r _ (Sem.pure _)) H K
      simp only [hp, hr]
      rw [(keyN_at hj).1, (keyN_at hj).2]
      refine h1 j hj _ hn ⟨r, q, _, rfl, rfl, Hp.put_same _ _ _, by simp [hs]⟩ (fun b o hb hn' => ?_)
      rw [Hp.put_ne _ _ (by rintro rfl; exact hn' rfl)]; exact hb
  show hp P (Sem.choose (.mapNext C.size) _) H K
  simp only [hp]
  split
  · exact hall 0 hCs
  · intro t
    exact hall (t % C.size) (Nat.mod_lt _ hCs)
theorem ItC.entry {P : Program} {K : Value → Hp → Prop} {j : Nat} (hi : ItC H it m ms.length (js ++ [j])) (hm : MpC H m S ms) (hj : j < ms.length)
    (hK : K (.tuple #[.int .i64 (keyN ms j), .int .i64 (valN ms j)]) H) : hp P (Instr.entry it) H K := by
  obtain ⟨r, q, seen, rfl, rfl, hr, hs⟩ := hi
  obtain ⟨q', e, hq, hS⟩ := hm
  simp only [Value.map.injEq, Option.some.injEq] at e
  subst e
  have e0 : val P (getObj r) H = some (.mapIter (some q) ms.length seen ms.length) := by
    show val P (Sem.getObj r Sem.pure) H = _
    simp only [val, hr]
  have e1 : val P (getObj q) H = some (.map (mkE 0 ms).toArray ms.length) := by
    show val P (Sem.getObj q Sem.pure) H = _
    simp only [val, hq]
  refine hp_of_val P _ H K _ ?_ hK
  have hb : seen.back? = some j := by
    have : seen = (js ++ [j]).toArray := by rw [← hs]
    rw [this]; simp
  have hf : (mkE 0 ms).toArray.find? (fun e => e.born == j) = some ({ key := .int .i64 ms[j].1, val := .int .i64 ms[j].2, born := j } : MapEntry) := by
    rw [List.find?_toArray]
    have key : ∀ (xs : List (Int × Int)) (i j : Nat) (hj : j < xs.length), (mkE i xs).find? (fun e => e.born == i + j) = some ({ key := .int .i64 xs[j].1, val := .int .i64 xs[j].2, born := i + j } : MapEntry) := by
      intro xs
      induction xs with
      | nil => intro i j hj; simp at hj
      | cons a xs ih =>
        intro i j hj
        unfold mkE
        cases j with
        | zero => simp
        | succ j =>
          rw [List.find?_cons_of_neg (by simp)]
          have := ih (i + 1) j (by simpa using hj)
          rw [show i + 1 + j = i + (j + 1) by omega] at this
          simpa using this
    have := key ms 0 j hj
    simpa using this
  unfold Instr.entry
  show val P (getObj r >>= _) H = _
  rw [val_bind', e0, Option.bind_some]
  simp only [hb]
  rw [val_bind', e1, Option.bind_some]
  simp only [bne_self_eq_false, Bool.false_eq_true, if_false, hf]
  rw [← (keyN_at hj).1, ← (keyN_at hj).2]
  rfl
end
end Go.Proofs.Ythmdmbbdjbhcoaa.HL
/- Cycles counted: maps that count lengths, sorted lengths, whole numbers of rings, images; by plain law. -/
namespace Go.Proofs.Ythmdmbbdjbhcoaa
open HL
/-! ### the map -/
/-- What is told of a map that counts. -/
structure CntI (L : List Int) (ms : List (Int × Int)) : Prop where
  nd : ∀ i j (hi : i < j) (hj : j < ms.length), (ms[i]'(by omega)).1 ≠ ms[j].1
  ps : ∀ j (hj : j < ms.length), 0 < ms[j].1 ∧ 0 < ms[j].2 ∧ ms[j].2 = (L.count ms[j].1 : Int)
  al : ∀ k : Int, 0 < k → 0 < L.count k → ∃ j, ∃ hj : j < ms.length, ms[j].1 = k
def incM (k : Int) (ms : List (Int × Int)) : List (Int × Int) := (entK k ms).set (entI k ms) (k, entV k ms + 1)
theorem CntI.nil : CntI [] [] := ⟨fun i j _ h => by simp at h, fun j h => by simp at h, fun k _ h => by simp at h⟩
theorem CntI.skip {L : List Int} {ms : List (Int × Int)} {x : Int} (h : CntI L ms) (hx : ¬ 0 < x) : CntI (L ++ [x]) ms := by
  refine ⟨h.nd, fun j hj => ?_, fun k k0 hk => ?_⟩
  · obtain ⟨a, b, c⟩ := h.ps j hj
    refine ⟨a, b, ?_⟩
    rw [c, List.count_append, List.count_singleton]
    rw [show (x == ms[j].1) = false by simp; omega]; simp
  · refine h.al k k0 ?_
    rw [List.count_append, List.count_singleton, show (x == k) = false by simp; omega] at hk
    simpa using hk
theorem entV_at {k : Int} {L : List Int} {ms : List (Int × Int)} (h : CntI L ms) (k0 : 0 < k) : entV k ms = (L.count k : Int) := by
  unfold entV
  cases hp : posK k ms with
  | none =>
    simp only
    by_cases hc : 0 < L.count k
    · obtain ⟨j, hj, e⟩ := h.al k k0 hc
      exact absurd e (posK_none hp _ (List.getElem_mem hj))
    · omega
  | some p =>
    obtain ⟨i, v⟩ := p
    have := posK_at hp
    obtain ⟨hi, e⟩ := List.getElem?_eq_some_iff.mp this
    have hps := (h.ps i hi).2.2
    rw [e] at hps
    exact hps
theorem CntI.inc {L : List Int} {ms : List (Int × Int)} {x : Int} (h : CntI L ms) (hx : 0 < x) : CntI (L ++ [x]) (incM x ms) := by
  have hv := entV_at h hx
  have hcn : ∀ k : Int, ((L ++ [x]).count k : Int) = (L.count k : Int) + (if x = k then 1 else 0) := fun k => by
    rw [List.count_append, List.count_singleton]
    by_cases e : x = k
    · subst e; simp
    · rw [if_neg e]; simp [e]
  unfold incM
  rw [hv]
  unfold entK entI
  cases hp : posK x ms with
  | none =>
    have hno := posK_none hp
    have hc0 : L.count x = 0 := by
      rcases Nat.eq_zero_or_pos (L.count x) with g | g
      · exact g
      · obtain ⟨j, hj, e⟩ := h.al x hx g
        exact absurd e (hno _ (List.getElem_mem hj))
    simp only
    rw [hc0, show (ms ++ [(x, (0 : Int))]).set ms.length (x, ((0 : Nat) : Int) + 1) = ms ++ [(x, 1)] by rw [List.set_append_right _ _ (Nat.le_refl _)]; simp]
    refine ⟨fun i j hi hj => ?_, fun j hj => ?_, fun k k0 hk => ?_⟩
    · simp only [List.length_append, List.length_singleton] at hj
      by_cases e : j = ms.length
      · subst e
        rw [List.getElem_append_left (by omega), List.getElem_append_right (Nat.le_refl _)]
        simp only [Nat.sub_self, List.getElem_singleton]
        exact hno _ (List.getElem_mem _)
      · rw [List.getElem_append_left (by omega), List.getElem_append_left (by omega)]
        exact h.nd i j hi (by omega)
    · simp only [List.length_append, List.length_singleton] at hj
      by_cases e : j = ms.length
      · subst e
        rw [List.getElem_append_right (Nat.le_refl _)]
        simp only [Nat.sub_self, List.getElem_singleton]
        have := hcn x
        rw [if_pos rfl, hc0] at this
        exact ⟨hx, by omega, by rw [this]; rfl⟩
      · rw [List.getElem_append_left (by omega)]
        obtain ⟨a, b, c⟩ := h.ps j (by omega)
        refine ⟨a, b, ?_⟩
        rw [hcn, if_neg (fun e2 => hno _ (List.getElem_mem (show j < ms.length by omega)) e2.symm), c]; simp
    · by_cases e : x = k
      · exact ⟨ms.length, by simp, by rw [List.getElem_append_right (Nat.le_refl _)]; simpa using e⟩
      · have := hcn k
        rw [if_neg e] at this
        obtain ⟨j, hj, e2⟩ := h.al k k0 (by omega)
        exact ⟨j, by simp; omega, by rw [List.getElem_append_left hj]; exact e2⟩
  | some p =>
    obtain ⟨i0, v⟩ := p
    obtain ⟨hi0, e0⟩ := List.getElem?_eq_some_iff.mp (posK_at hp)
    simp only
    have hk1 : ∀ j (hj : j < ms.length), ((ms.set i0 (x, (L.count x : Int) + 1))[j]'(by simpa using hj)).1 = ms[j].1 := fun j hj => by
      rw [List.getElem_set]
      by_cases e : i0 = j
      · subst e; rw [if_pos rfl, e0]
      · rw [if_neg e]
    refine ⟨fun i j hi hj => ?_, fun j hj => ?_, fun k k0 hk => ?_⟩
    · simp only [List.length_set] at hj
      rw [hk1 i (by omega), hk1 j hj]
      exact h.nd i j hi hj
    · simp only [List.length_set] at hj
      rw [hk1 j hj]
      obtain ⟨a, b, c⟩ := h.ps j hj
      rw [List.getElem_set]
      by_cases e : i0 = j
      · subst e
        rw [if_pos rfl, e0, hcn, if_pos rfl]
        exact ⟨hx, by show (0 : Int) < (L.count x : Int) + 1; omega, rfl⟩
      · rw [if_neg e, hcn, if_neg (fun e2 => by
          rcases Nat.lt_or_gt_of_ne e with g | g
          · exact h.nd i0 j g hj (by rw [e0, e2])
          · exact h.nd j i0 g hi0 (by rw [e0, e2]))]
        exact ⟨a, b, by rw [c]; simp⟩
    · have := hcn k
      by_cases e : x = k
      · exact ⟨i0, by simpa using hi0, by rw [hk1 i0 hi0, e0]; exact e⟩
      · rw [if_neg e] at this
        obtain ⟨j, hj, e2⟩ := h.al k k0 (by omega)
        exact ⟨j, by simpa using hj, by rw [hk1 j hj]; exact e2⟩
theorem CntI.take {L : List Int} {ms : List (Int × Int)} {t : Nat} (h : CntI (L.take t) ms) (ht : t < L.length) (hx : 0 < at_ 0 L (t : Int)) : CntI (L.take (t + 1)) (incM (at_ 0 L (t : Int)) ms) := by
  rw [List.take_succ_eq_append_getElem ht, ← at_eq 0 L ht]; exact h.inc hx
/-! ### whole numbers of rings -/
/-! ### sums -/
/-! ### images -/
end Go.Proofs.Ythmdmbbdjbhcoaa
/- Steps of all rings, how long each one's cycle is, how deep it lies. -/
namespace Go.Proofs.Ythmdmbbdjbhcoaa
open HL
set_option maxRecDepth 100000
/-- A rule whose rings of n cells are few. -/
def smlP (st rc : Int) (T : List Int) (n : Int) : Prop := ruleP st rc T ∧ 2 * rc + 1 ≤ n ∧ n ≤ (if st = 2 then 12 else 8)
instance (st rc : Int) (T : List Int) (n : Int) : Decidable (smlP st rc T n) := by unfold smlP; infer_instance
theorem sml_pw {st rc n : Int} {T : List Int} (h : smlP st rc T n) : 1 ≤ pwr st n ∧ pwr st n ≤ 6561 ∧ 1 ≤ n ∧ n ≤ 12 := by
  obtain ⟨⟨h1, h2, _⟩, h3, h4⟩ := h
  have e2 : ∀ k : Fin 13, 1 ≤ (2 : Int) ^ (k : Nat) ∧ (2 : Int) ^ (k : Nat) ≤ 6561 := by decide
  have e3 : ∀ k : Fin 9, 1 ≤ (3 : Int) ^ (k : Nat) ∧ (3 : Int) ^ (k : Nat) ≤ 6561 := by decide
  rcases h1 with rfl | rfl
  · rw [if_pos rfl] at h4
    have := e2 ⟨n.toNat, by omega⟩
    exact ⟨this.1, this.2, by omega, by omega⟩
  · rw [if_neg (by omega)] at h4
    have := e3 ⟨n.toNat, by omega⟩
    exact ⟨this.1, this.2, by omega, by omega⟩
/-- The next ring of a ring, by their numbers. -/
def nsF (st rc : Int) (T : List Int) (n : Int) (k : Nat) : Int := numL st (stpL st rc T (digL (k : Int) st n.toNat))
def nsG (st rc : Int) (T : List Int) (n : Int) (m : Nat) : List Int := (List.range m).map (nsF st rc T n)
def nsL (st rc : Int) (T : List Int) (n : Int) : List Int := nsG st rc T n (pwr st n).toNat
section
variable {st rc n : Int} {T : List Int} {m : Nat}
theorem nsG_succ : nsG st rc T n m ++ [nsF st rc T n m] = nsG st rc T n (m + 1) := by simp [nsG, List.range_succ]
theorem nsG_len : (nsG st rc T n m).length = m := by simp [nsG]
theorem nsL_len : (nsL st rc T n).length = (pwr st n).toNat := nsG_len
theorem stp_in (h : smlP st rc T n) (k : Nat) : ∀ x ∈ stpL st rc T (digL (k : Int) st n.toNat), 0 ≤ x ∧ x ≤ st - 1 := by
  have := (sml_pw h).2.2
  have hl : 0 < (digL (k : Int) st n.toNat).length := by rw [digL_len]; omega
  exact stpF_in h.1 (digL_in (by have := h.1.1; omega)) hl _
theorem nsF_bnd (h : smlP st rc T n) (k : Nat) : 0 ≤ nsF st rc T n k ∧ nsF st rc T n k < pwr st n := by
  have hb := numL_bnd (b := st) (by have := h.1.1; omega) (stp_in h k)
  rw [stpL_len, digL_len] at hb
  exact hb
theorem nsL_nx (h : smlP st rc T n) : nxP (nsL st rc T n) := fun x hx => by
  have hp := sml_pw h
  unfold nsL nsG at hx
  obtain ⟨k, _, rfl⟩ := List.mem_map.mp hx
  have := nsF_bnd h k
  rw [nsL_len]
  omega
end
theorem dp_exit {nx D : List Int} {w : Nat} (hw : w < nx.length) (hd : DpI nx 0 D) (h : perN (nxF nx) nx.length w ≠ 0 ∨ ¬ at_ 0 D (w : Int) < 0) : max 0 (at_ 0 D (w : Int)) = ((dpF nx w : Nat) : Int) := by
  rcases hd.2 w hw with e | ⟨e, e2⟩
  · rcases h with h | h
    · rw [dpF_zero hw h, e]; rfl
    · omega
  · rcases h with h | h
    · exact absurd e2 h
    · rw [e]; omega
theorem cy_ne {nx : List Int} {w : Nat} (hw : w < nx.length) : (at_ 0 (cyL nx) (w : Int) = 0 ↔ perN (nxF nx) nx.length w = 0) := by
  rw [cyL_at hw]; omega
theorem pth_back {nx : List Int} {s n t : Nat} (ht : t < (pthL nx s n).length) : at_ 0 (pthL nx s n) (((pthL nx s n).length : Int) - 1 - (t : Int)) = ((itF (nxF nx) (n - 1 - t) s : Nat) : Int) := by
  have h := ht
  rw [pthL_len] at h
  rw [pthL_len, show ((n : Int) - 1 - (t : Int)) = ((n - 1 - t : Nat) : Int) by omega]
  exact pthL_at (by omega)
theorem place_at {nx P : List Int} {s n p : Nat} (h : plP nx s n P) (hp : p < n) (he : itF (nxF nx) n s = itF (nxF nx) p s) : at_ 0 P ((itF (nxF nx) n s : Nat) : Int) = (p : Int) := by
  rw [he]; exact h.2 p hp
theorem cyS_ends {nx F0 F L0 lo : List Int} {s n p j : Nat} (hx : nxP nx) (hs : s < nx.length) (hI : CyI nx s F0 L0) (hW : CyW nx s n F0 F) (he : itF (nxF nx) n s = itF (nxF nx) p s) (hj : p + j < n) (h : CyS nx s n p (j + 1) L0 lo) : (at_ 0 lo (at_ 0 nx ((itF (nxF nx) (p + j) s : Nat) : Int)) ≠ 0 ↔ j + 1 = n - p) := by
  rw [nxW_at hx hs (p + j), show p + j + 1 = p + (j + 1) by omega]
  constructor
  · intro h1
    by_cases g : p + (j + 1) < n
    · exact absurd (h.zero hx hs hI hW g) h1
    · omega
  · intro e
    exact h.full he e (by omega)
theorem place_bnd {nx F0 F L0 P : List Int} {s n : Nat} (hx : nxP nx) (hs : s < nx.length) (hI : CyI nx s F0 L0) (hW : CyW nx s n F0 F) (hP : plP nx s n P) : at_ 0 F ((itF (nxF nx) n s : Nat) : Int) ≠ (s : Int) + 1 ∨ (0 ≤ at_ 0 P ((itF (nxF nx) n s : Nat) : Int) ∧ at_ 0 P ((itF (nxF nx) n s : Nat) : Int) ≤ (n : Int)) := by
  by_cases g : at_ 0 F ((itF (nxF nx) n s : Nat) : Int) = (s : Int) + 1
  · obtain ⟨p, hp, he⟩ := hW.back hx hs hI g
    rw [place_at hP hp he]; omega
  · exact .inl g
theorem round_at {nx : List Int} {s n p : Nat} (hx : nxP nx) (hs : s < nx.length) (he : itF (nxF nx) n s = itF (nxF nx) p s) : at_ 0 nx ((itF (nxF nx) n s : Nat) : Int) = ((itF (nxF nx) (p + 1 + 0) s : Nat) : Int) := by
  rw [nxW_at hx hs n]
  show ((nxF nx (itF (nxF nx) n s) : Nat) : Int) = ((nxF nx (itF (nxF nx) p s) : Nat) : Int)
  rw [he]
theorem C.impl_Rule_mostCells {vt : Value} {st rc a b : Int} {T : List Int}  {H : Hp} {K : Value → Hp → Prop} (hvt0 : Sl eI H vt T)
    (hk : ∀ H', Le H H' → K (.int .i64 (if st = 2 then a else b)) H') : HT prg I.impl_Rule_mostCells [(.agg #[(.int .i64 (st)), (.int .i64 (rc)), vt]), (.int .i64 (a)), (.int .i64 (b))].toArray H K := by
 have lE := Le.refl H
 refine R.impl_Rule_mostCells ?_
 unfold F.impl_Rule_mostCells
 refine nw_i (fun p1 H2 op1 nn3 le4 => ?_)
 replace lE := lE.trans le4
 replace op1 : Cel H2 p1 [(.int .i64 (st)), (.int .i64 (rc)), vt] := op1
 refine ob_i (op1.fa 0) ?_
 refine ob_i (op1.ld 0 rfl) ?_
 refine ob_i (vInt_eql _ _ _) ?_
 refine cnd_d (fun hg5 => ?_) (fun hg5 => ?_)
 ·skip
  skip
  exact keq (K := K) (by rw [show ((if st = 2 then a else b) : Int) = (a) from by rw [if_pos hg5]]) (hk   _    lE)
 ·skip
  skip
  exact keq (K := K) (by rw [show ((if st = 2 then a else b) : Int) = (b) from by rw [if_neg hg5]]) (hk   _    lE)
theorem C.impl_small {vt : Value} {st rc n : Int} {T : List Int}  {H : Hp} {K : Value → Hp → Prop} (hvt0 : Sl eI H vt T) (k1 : T.length ≤ 9223372036854775807)
    (hk : ∀ H', Le H H' → K (.bool (decide (smlP st rc T n))) H') : HT prg I.impl_small [(.agg #[(.int .i64 (st)), (.int .i64 (rc)), vt]), (.int .i64 (n))].toArray H K := by
 have lE := Le.refl H
 have hvt := hvt0
 refine R.impl_small ?_
 unfold F.impl_small
 refine nw_i (fun p1 H2 op1 nn3 le4 => ?_)
 replace hvt := hvt.le le4
 replace lE := lE.trans le4
 replace op1 : Cel H2 p1 [(.int .i64 (st)), (.int .i64 (rc)), vt] := op1
 refine ob_i (op1.ldn rfl) ?_
 refine C.impl_ValidRule hvt (by first | omega | assumption) (fun   H5    le6 => ?_)
 replace op1 := op1.le le6
 replace hvt := hvt.le le6
 replace lE := lE.trans le6
 refine ⟨le6, ?_⟩
 by_cases hc7 : ruleP st rc T
 ·skip
  have hru := hc7
  have hr1 := hru.1
  have hr2 := hru.2.1
  refine gop_e (decide_eq_true hc7) ?_
  refine gop_rt ?_
  refine gop_e (decide_eq_true hc7) ?_
  refine gop_rt ?_
  refine ob_i (op1.ldn rfl) ?_
  refine gop_e (decide_eq_true hc7) ?_
  refine gop_rt ?_
  refine ob_i (op1.ldn rfl) ?_
  refine gop_e (decide_eq_true hc7) ?_
  refine gop_rt ?_
  refine C.impl_Rule_cells hvt (by first | omega | assumption) (by first | omega | assumption) (fun   H8    le9 => ?_)
  replace hvt := hvt.le le9
  replace lE := lE.trans le9
  refine ⟨le9, ?_⟩
  refine gop_e (decide_eq_true hc7) ?_
  refine gop_rt ?_
  refine C.impl_Rule_mostCells hvt (fun   H10    le11 => ?_)
  replace lE := lE.trans le11
  refine ⟨le11, ?_⟩
  refine gop_e (decide_eq_true hc7) ?_
  refine gop_rt ?_
  refine C.impl_within  ?_
  refine ⟨Le.refl _, ?_⟩
  refine ob_i (vPick_et (decide_eq_true hc7) _ _) ?_
  skip
  exact keq (K := K) (by rw [show decide ((2 * rc + 1) ≤ n ∧ n ≤ (if st = 2 then 12 else 8)) = decide (smlP st rc T n) from decide_eq_decide.mpr (by exact ⟨fun h => ⟨by assumption, h⟩, fun h => h.2⟩)]) (hk   _    lE)
 ·skip
  refine gop_e (decide_eq_false hc7) ?_
  refine gop_sf ?_
  refine gop_e (decide_eq_false hc7) ?_
  refine gop_sf ?_
  refine gop_e (decide_eq_false hc7) ?_
  refine gop_sf ?_
  refine gop_e (decide_eq_false hc7) ?_
  refine gop_sf ?_
  refine gop_e (decide_eq_false hc7) ?_
  refine gop_sf ?_
  refine gop_e (decide_eq_false hc7) ?_
  refine gop_sf ?_
  refine ob_i (vPick_ef (decide_eq_false hc7) _ _) ?_
  skip
  exact keq (K := K) (by rw [decide_eq_false (show ¬ (smlP st rc T n) from by exact fun h => absurd h.1 (by assumption))]) (hk   _    lE)
theorem C.spec_l03Small {p vt : Value} {n st rc : Int} {T : List Int}  {H : Hp} {K : Value → Hp → Prop} (hp0 : Cel H p [(.int .i64 (st)), (.int .i64 (rc)), vt]) (hvt0 : Sl eI H vt T) (k1 : T.length ≤ 9223372036854775807)
    (hk : ∀ H', Le H H' → K (.bool (decide (smlP st rc T n))) H') : HT prg I.spec_l03Small [p, (.int .i64 (n)), (.int .i64 (12)), (.int .i64 (8))].toArray H K := by
 have lE := Le.refl H
 have hp := hp0
 have hvt := hvt0
 refine R.spec_l03Small ?_
 unfold F.spec_l03Small
 refine C.spec_l02Is hp hvt (by first | omega | assumption) (fun   H1    le2 => ?_)
 replace hp := hp.le le2
 replace hvt := hvt.le le2
 replace lE := lE.trans le2
 refine ob_nd (fun hc3 => ?_) (fun hc3 => ?_)
 ·skip
  have hru := hc3
  have hr1 := hru.1
  have hr2 := hru.2.1
  refine cnd_f1 ?_
  refine ob_i (hp.nilC) ?_
  refine ob_i (hp.fa 0) ?_
  refine ob_i (hp.ld 0 rfl) ?_
  refine ob_i (vInt_eql _ _ _) ?_
  refine cnd_d (fun hg4 => ?_) (fun hg4 => ?_)
  ·skip
   refine C.spec_l03Wide hp hvt (by first | omega | assumption) (by first | omega | assumption) ?_
   refine C.spec_l00In  ?_
   skip
   exact keq (K := K) (by rw [show decide ((2 * rc + 1) ≤ n ∧ n ≤ 8) = decide (smlP st rc T n) from decide_eq_decide.mpr (by first | exact ⟨fun h => ⟨hru, h.1, by rw [if_neg (by omega)]; exact h.2⟩, fun h => ⟨h.2.1, by have h9 := h.2.2; rw [if_neg (by omega)] at h9; exact h9⟩⟩ | exact ⟨fun h => ⟨hru, h.1, by rw [if_pos (by omega)]; exact h.2⟩, fun h => ⟨h.2.1, by have h9 := h.2.2; rw [if_pos (by omega)] at h9; exact h9⟩⟩)]) (hk   _    lE)
  ·skip
   refine C.spec_l03Wide hp hvt (by first | omega | assumption) (by first | omega | assumption) ?_
   refine C.spec_l00In  ?_
   skip
   exact keq (K := K) (by rw [show decide ((2 * rc + 1) ≤ n ∧ n ≤ 12) = decide (smlP st rc T n) from decide_eq_decide.mpr (by first | exact ⟨fun h => ⟨hru, h.1, by rw [if_neg (by omega)]; exact h.2⟩, fun h => ⟨h.2.1, by have h9 := h.2.2; rw [if_neg (by omega)] at h9; exact h9⟩⟩ | exact ⟨fun h => ⟨hru, h.1, by rw [if_pos (by omega)]; exact h.2⟩, fun h => ⟨h.2.1, by have h9 := h.2.2; rw [if_pos (by omega)] at h9; exact h9⟩⟩)]) (hk   _    lE)
 ·skip
  refine cnd_t1 ?_
  skip
  exact keq (K := K) (by rw [decide_eq_false (show ¬ (smlP st rc T n) from by exact fun h => absurd h.1 (by assumption))]) (hk   _    lE)
theorem C.impl_Rule_steps {vt : Value} {st rc n : Int} {T : List Int}  {H : Hp} {K : Value → Hp → Prop} (hvt0 : Sl eI H vt T) (hS : smlP st rc T n)
    (hk : ∀ u1 H', Own eI H' u1 (nsL st rc T n) → Nw H u1 → Le H H' → K u1 H') : HT prg I.impl_Rule_steps [(.agg #[(.int .i64 (st)), (.int .i64 (rc)), vt]), (.int .i64 (n))].toArray H K := by
 have lE := Le.refl H
 have hvt := hvt0
 refine R.impl_Rule_steps ?_
 unfold F.impl_Rule_steps
 have hr := hS.1
 have hr1 := hr.1
 have hr2 := hr.2.1
 have hr4 := hr.2.2.2
 have hpw := sml_pw hS
 refine nw_i (fun p1 H2 op1 nn3 le4 => ?_)
 replace hvt := hvt.le le4
 replace lE := lE.trans le4
 replace op1 : Cel H2 p1 [(.int .i64 (st)), (.int .i64 (rc)), vt] := op1
 refine bS_nil (enc := eI) (fun u5 H6 ou5 nn7 kk8 le9 => ?_)
 have ap1Xu5 : Apart p1 u5 := op1.apart nn7
 have nu5 : Nw H u5 := nn7.le lE
 replace op1 := op1.le le9
 replace hvt := hvt.le le9
 replace lE := lE.trans le9
 refine jn_i (fun σ' H' => ∃ u, σ' 5 = u ∧ Cel H' p1 [(.int .i64 (st)), (.int .i64 (rc)), vt] ∧ Own eI H' u (nsL st rc T n) ∧ Nw H u ∧ Apart p1 u ∧ Le H H') (fun σ10 H10 hP => ?_) (fun J10 hJ10 => ?_)
 ·skip
  obtain ⟨u, g5L10, op1, ou, nu, ap1Xu, lE⟩ := hP
  try simp only [g5L10]
  skip
  exact hk  u _ ou nu  lE
 refine ob_i (op1.fa 0) ?_
 refine ob_i (op1.ld 0 rfl) ?_
 refine C.impl_raised (by first | omega | assumption) (by first | omega | assumption) (by first | omega | assumption) (by first | omega | assumption) (fun   H11    le12 => ?_)
 replace op1 := op1.le le12
 replace ou5 := ou5.le le12
 replace hvt := hvt.le le12
 replace lE := lE.trans le12
 refine ⟨fun n' σ' H' => ∃ i : Nat, n' = (pwr st n).toNat - i ∧ i ≤ (pwr st n).toNat ∧ ∃ u, σ' 1 = (.int .i64 (n)) ∧ σ' 2 = p1 ∧ σ' 5 = u ∧ σ' 11 = (.int .i64 (pwr st n)) ∧ σ' 12 = (.int .i64 ((i : Int))) ∧ Cel H' p1 [(.int .i64 (st)), (.int .i64 (rc)), vt] ∧ Own eI H' u (nsG st rc T n i) ∧ Nw H u ∧ Apart p1 u ∧ Le H H',
  ⟨_, 0, rfl, by omega, u5, rfl, rfl, rfl, rfl, (congrArg (Value.int .i64) (by first | omega | rfl | (simp; done))), op1, (Own.cast (by first | rfl | (simp; done)) ou5), nu5, ap1Xu5, lE⟩, ?_⟩
 rintro n13 σ13 H13 ⟨i, rfl, hiN, u, g1L13, g2L13, g5L13, g11L13, g12L13, op1, ou, nu, ap1Xu, lE⟩
 have hvt := hvt0.le lE
 try simp only [g1L13, g2L13, g5L13, g11L13, g12L13]
 have dl := digL_len (i : Int) st n.toNat
 have di := digL_in (n := (i : Int)) (b := st) (k := n.toNat) (by omega)
 have sl := stpL_len st rc T (digL (i : Int) st n.toNat)
 have si := stp_in hS i
 have gl := nsG_len (st := st) (rc := rc) (T := T) (n := n) (m := i)
 have nb := nsF_bnd hS i
 refine ob_i (vInt_lss _ _ _) ?_
 refine cnd_d (fun hg14 => ?_) (fun hg14 => ?_)
 ·skip
  have ti := hg14
  refine ob_i (op1.ldn rfl) ?_
  refine ob_i (op1.fa 0) ?_
  refine ob_i (op1.ld 0 rfl) ?_
  refine ob_i (op1.fa 0) ?_
  refine ob_i (op1.ld 0 rfl) ?_
  refine C.impl_digitsOf (by first | omega | assumption) (by first | omega | assumption) (by first | omega | assumption) (by first | omega | assumption) (by first | omega | assumption) (by first | omega | assumption) (fun  u17 H15 ou17 nn18  le16 => ?_)
  replace op1 := op1.le le16
  replace ou := ou.le le16
  replace hvt := hvt.le le16
  replace lE := lE.trans le16
  refine ⟨le16, ?_⟩
  refine C.impl_Rule_step hvt ou17.sl (by first | omega | assumption) (by first | omega | assumption) (by first | omega | assumption) (by exact di) (fun  u21 H19 ou21 nn22  le20 => ?_)
  replace op1 := op1.le le20
  replace ou := ou.le le20
  replace hvt := hvt.le le20
  replace lE := lE.trans le20
  refine ⟨le20, ?_⟩
  refine C.impl_numberOf ou21.sl (by first | omega | assumption) (by first | omega | assumption) (by exact si) (by first | omega | assumption) (fun   H23    le24 => ?_)
  replace op1 := op1.le le24
  replace ou := ou.le le24
  replace hvt := hvt.le le24
  replace lE := lE.trans le24
  refine ⟨le24, ?_⟩
  refine bS_i (enc := eI) (l := [numL st (stpL st rc T (digL (i : Int) st n.toNat))]) (by omega) rfl (by kernel_rfl) (fun u25 H26 ou25 nn27 le29 => ?_)
  replace op1 := op1.le le29
  replace ou := ou.le le29
  replace hvt := hvt.le le29
  replace lE := lE.trans le29
  refine apd_any ou ou25.sl (fun _ => rfl) (by omega) (by first | omega | (simp only [List.length_cons, List.length_nil]; omega)) (fun u33 H30 ou33 off31 hb32 => ?_)
  have ap1Xu33 : Apart p1 u33 := Apart.ap2 op1.known ap1Xu hb32
  have nu33 : Nw H u33 := Nw.ap2 nu lE hb32
  replace op1 := op1.off off31 ap1Xu
  replace hvt := hvt0.le (off31.le lE nu)
  replace lE := off31.le lE nu
  refine ob_i (vInt_add (by omega) (by omega)) ?_
  exact nxt ((pwr st n).toNat - (i + 1)) (by omega) ⟨i + 1, rfl, by omega, u33, g1L13, g2L13, rfl, g11L13, (congrArg (Value.int .i64) (by first | omega | rfl | (simp; done))), op1, (Own.cast nsG_succ ou33), nu33, ap1Xu33, lE⟩
 ·skip
  have ti := hg14
  obtain rfl : i = (pwr st n).toNat := by omega
  exact hJ10 _ _ ⟨u, g5L13, op1, ou, nu, ap1Xu, lE⟩
theorem C.spec_l03Steps {p vt : Value} {n st rc : Int} {T : List Int}  {H : Hp} {K : Value → Hp → Prop} (hp0 : Cel H p [(.int .i64 (st)), (.int .i64 (rc)), vt]) (hvt0 : Sl eI H vt T) (hS : smlP st rc T n)
    (hk : ∀ u1 H', Own eI H' u1 (nsL st rc T n) → Nw H u1 → Le H H' → K u1 H') : HT prg I.spec_l03Steps [p, (.int .i64 (n))].toArray H K := by
 have lE := Le.refl H
 have hp := hp0
 have hvt := hvt0
 refine R.spec_l03Steps ?_
 unfold F.spec_l03Steps
 have hr := hS.1
 have hr1 := hr.1
 have hr2 := hr.2.1
 have hr4 := hr.2.2.2
 have hpw := sml_pw hS
 refine bS_nil (enc := eI) (fun u1 H2 ou1 nn3 kk4 le5 => ?_)
 have nu1 : Nw H u1 := nn3.le lE
 replace hp := hp.le le5
 replace hvt := hvt.le le5
 replace lE := lE.trans le5
 refine jn_i (fun σ' H' => ∃ u, σ' 5 = u ∧ Own eI H' u (nsL st rc T n) ∧ Nw H u ∧ Le H H') (fun σ6 H6 hP => ?_) (fun J6 hJ6 => ?_)
 ·skip
  obtain ⟨u, g5L6, ou, nu, lE⟩ := hP
  try simp only [g5L6]
  skip
  exact hk  u _ ou nu  lE
 refine ⟨fun n' σ' H' => ∃ i : Nat, n' = (pwr st n).toNat - i ∧ i ≤ (pwr st n).toNat ∧ ∃ u, σ' 0 = p ∧ σ' 1 = (.int .i64 (n)) ∧ σ' 5 = u ∧ σ' 6 = (.int .i64 ((i : Int))) ∧ Own eI H' u (nsG st rc T n i) ∧ Nw H u ∧ Le H H',
  ⟨_, 0, rfl, by omega, u1, rfl, rfl, rfl, (congrArg (Value.int .i64) (by first | omega | rfl | (simp; done))), (Own.cast (by first | rfl | (simp; done)) ou1), nu1, lE⟩, ?_⟩
 rintro n7 σ7 H7 ⟨i, rfl, hiN, u, g0L7, g1L7, g5L7, g6L7, ou, nu, lE⟩
 have hp := hp0.le lE
 have hvt := hvt0.le lE
 try simp only [g0L7, g1L7, g5L7, g6L7]
 have dl := digL_len (i : Int) st n.toNat
 have di := digL_in (n := (i : Int)) (b := st) (k := n.toNat) (by omega)
 have sl := stpL_len st rc T (digL (i : Int) st n.toNat)
 have si := stp_in hS i
 have gl := nsG_len (st := st) (rc := rc) (T := T) (n := n) (m := i)
 have nb := nsF_bnd hS i
 refine ob_i (hp.nilC) ?_
 refine ob_i (hp.fa 0) ?_
 refine ob_i (hp.ld 0 rfl) ?_
 refine C.spec_l03Power (by first | omega | assumption) (by first | omega | assumption) (by first | omega | assumption) (by first | omega | assumption) (fun   H8    le9 => ?_)
 replace ou := ou.le le9
 replace hp := hp.le le9
 replace hvt := hvt.le le9
 replace lE := lE.trans le9
 refine ob_i (vInt_lss _ _ _) ?_
 refine cnd_d (fun hg10 => ?_) (fun hg10 => ?_)
 ·skip
  have ti := hg10
  refine ob_i (hp.nilC) ?_
  refine ob_i (hp.fa 0) ?_
  refine ob_i (hp.ld 0 rfl) ?_
  refine ob_i (hp.nilC) ?_
  refine ob_i (hp.fa 0) ?_
  refine ob_i (hp.ld 0 rfl) ?_
  refine C.spec_l03Cells (by first | omega | assumption) (by first | omega | assumption) (by first | omega | assumption) (by first | omega | assumption) (by first | omega | assumption) (by first | omega | assumption) (fun  u13 H11 ou13 nn14  le12 => ?_)
  replace ou := ou.le le12
  replace hp := hp.le le12
  replace hvt := hvt.le le12
  replace lE := lE.trans le12
  refine ⟨le12, ?_⟩
  refine C.spec_l02Step hp hvt ou13.sl (by first | omega | assumption) (by first | omega | assumption) (by first | omega | assumption) (by exact di) (fun  u17 H15 ou17 nn18  le16 => ?_)
  replace ou := ou.le le16
  replace hp := hp.le le16
  replace hvt := hvt.le le16
  replace lE := lE.trans le16
  refine ⟨le16, ?_⟩
  refine C.spec_l03Number ou17.sl (by first | omega | assumption) (by first | omega | assumption) (by exact si) (by first | omega | assumption) (fun   H19    le20 => ?_)
  replace ou := ou.le le20
  replace hp := hp.le le20
  replace hvt := hvt.le le20
  replace lE := lE.trans le20
  refine ⟨le20, ?_⟩
  refine bS_i (enc := eI) (l := [numL st (stpL st rc T (digL (i : Int) st n.toNat))]) (by omega) rfl (by kernel_rfl) (fun u21 H22 ou21 nn23 le25 => ?_)
  replace ou := ou.le le25
  replace hp := hp.le le25
  replace hvt := hvt.le le25
  replace lE := lE.trans le25
  refine apd_any ou ou21.sl (fun _ => rfl) (by omega) (by first | omega | (simp only [List.length_cons, List.length_nil]; omega)) (fun u29 H26 ou29 off27 hb28 => ?_)
  have nu29 : Nw H u29 := Nw.ap2 nu lE hb28
  replace hp := hp0.le (off27.le lE nu)
  replace hvt := hvt0.le (off27.le lE nu)
  replace lE := off27.le lE nu
  refine ob_i (vInt_add (by omega) (by omega)) ?_
  exact nxt ((pwr st n).toNat - (i + 1)) (by omega) ⟨i + 1, rfl, by omega, u29, g0L7, g1L7, rfl, (congrArg (Value.int .i64) (by first | omega | rfl | (simp; done))), (Own.cast nsG_succ ou29), nu29, lE⟩
 ·skip
  have ti := hg10
  obtain rfl : i = (pwr st n).toNat := by omega
  exact hJ6 _ _ ⟨u, g5L7, ou, nu, lE⟩
theorem C.impl_Rule_inCycles {vt va : Value} {st rc : Int} {T : List Int} {nx : List Int}  {H : Hp} {K : Value → Hp → Prop} (hvt0 : Sl eI H vt T) (hva0 : Sl eI H va nx) (hx : nxP nx) (ln : nx.length ≤ 100000)
    (hk : ∀ u1 H', Own eI H' u1 (cyL nx) → Nw H u1 → Le H H' → K u1 H') : HT prg I.impl_Rule_inCycles [(.agg #[(.int .i64 (st)), (.int .i64 (rc)), vt]), va].toArray H K := by
 have lE := Le.refl H
 have hvt := hvt0
 have hva := hva0
 refine R.impl_Rule_inCycles ?_
 unfold F.impl_Rule_inCycles
 refine nw_i (fun p1 H2 op1 nn3 le4 => ?_)
 replace hvt := hvt.le le4
 replace hva := hva.le le4
 replace lE := lE.trans le4
 replace op1 : Cel H2 p1 [(.int .i64 (st)), (.int .i64 (rc)), vt] := op1
 refine ob_i (hva.len) ?_
 refine Own.mk_ (z := (0 : Int)) (by omega) (by omega) (by omega) (by omega) (fun lo H5 olo nn6 le7 => ?_)
 have ap1Xlo : Apart p1 lo := op1.apart nn6
 have nlo : Nw H lo := nn6.le lE
 replace op1 := op1.le le7
 replace hvt := hvt.le le7
 replace hva := hva.le le7
 replace lE := lE.trans le7
 refine ob_i (hva.len) ?_
 refine ob_i (hva.len) ?_
 refine Own.mk_ (z := (0 : Int)) (by omega) (by omega) (by omega) (by omega) (fun fi H8 ofi nn9 le10 => ?_)
 have ap1Xfi : Apart p1 fi := op1.apart nn9
 have aloXfi : Apart lo fi := olo.apart nn9
 have nfi : Nw H fi := nn9.le lE
 replace op1 := op1.le le10
 replace olo := olo.le le10
 replace hvt := hvt.le le10
 replace hva := hva.le le10
 replace lE := lE.trans le10
 refine Own.mk_ (z := (0 : Int)) (by omega) (by omega) (by omega) (by omega) (fun pl H11 opl nn12 le13 => ?_)
 have ap1Xpl : Apart p1 pl := op1.apart nn12
 have aloXpl : Apart lo pl := olo.apart nn12
 have afiXpl : Apart fi pl := ofi.apart nn12
 have npl : Nw H pl := nn12.le lE
 replace op1 := op1.le le13
 replace olo := olo.le le13
 replace ofi := ofi.le le13
 replace hvt := hvt.le le13
 replace hva := hva.le le13
 replace lE := lE.trans le13
 refine jn_i (fun σ' H' => σ' 5 = lo ∧ Cel H' p1 [(.int .i64 (st)), (.int .i64 (rc)), vt] ∧ Own eI H' lo (cyL nx) ∧ Le H H') (fun σ14 H14 hP => ?_) (fun J14 hJ14 => ?_)
 ·skip
  obtain ⟨g5L14, op1, olo, lE⟩ := hP
  try simp only [g5L14]
  skip
  exact hk  lo _ olo nlo  lE
 refine ob_i (hva.len) ?_
 refine ⟨fun n' σ' H' => ∃ s : Nat, n' = nx.length - s ∧ s ≤ nx.length ∧ ∃ F0, ∃ L0, ∃ P0, σ' 1 = va ∧ σ' 5 = lo ∧ σ' 6 = fi ∧ σ' 7 = pl ∧ σ' 22 = (.int .i64 (((nx).length : Int))) ∧ σ' 23 = (.int .i64 ((s : Int))) ∧ Cel H' p1 [(.int .i64 (st)), (.int .i64 (rc)), vt] ∧ Own eI H' lo (L0) ∧ Own eI H' fi (F0) ∧ Own eI H' pl (P0) ∧ Le H H' ∧ CyI nx s F0 L0 ∧ P0.length = nx.length,
  ⟨_, 0, rfl, by omega, _, _, _, rfl, rfl, rfl, rfl, rfl, (congrArg (Value.int .i64) (by first | omega | rfl | (simp; done))), op1, by simpa using olo, by simpa using ofi, by simpa using opl, lE, (CyI.start nx (by omega)), (by simp)⟩, ?_⟩
 rintro n15 σ15 H15 ⟨s, rfl, hsN, F0, L0, P0, g1L15, g5L15, g6L15, g7L15, g22L15, g23L15, op1, olo, ofi, opl, lE, hI, hp0⟩
 have hvt := hvt0.le lE
 have hva := hva0.le lE
 try simp only [g22L15, g23L15]
 have hlf := hI.lf
 have hll := hI.ll
 refine ob_i (vInt_lss _ _ _) ?_
 refine cnd_d (fun hg16 => ?_) (fun hg16 => ?_)
 ·skip
  have ts := hg16
  have hs : s < nx.length := by omega
  refine jn_i (fun σ' H' => ∃ F1, ∃ L1, ∃ P1, σ' 1 = va ∧ σ' 5 = lo ∧ σ' 6 = fi ∧ σ' 7 = pl ∧ σ' 22 = (.int .i64 (((nx).length : Int))) ∧ σ' 23 = (.int .i64 ((s : Int))) ∧ Cel H' p1 [(.int .i64 (st)), (.int .i64 (rc)), vt] ∧ Own eI H' lo (L1) ∧ Own eI H' fi (F1) ∧ Own eI H' pl (P1) ∧ Le H H' ∧ CyI nx (s + 1) F1 L1 ∧ P1.length = nx.length) (fun σ17 H17 hP => ?_) (fun J17 hJ17 => ?_)
  ·skip
   obtain ⟨F1, L1, P1, g1L17, g5L17, g6L17, g7L17, g22L17, g23L17, op1, olo, ofi, opl, lE, hI1, hp1⟩ := hP
   try simp only [g23L17]
   refine ob_i (vInt_add (by omega) (by omega)) ?_
   exact nxt (nx.length - (s + 1)) (by omega) ⟨s + 1, rfl, by omega, F1, L1, P1, g1L17, g5L17, g6L17, g7L17, g22L17, (congrArg (Value.int .i64) (by first | omega | rfl | (simp; done))), op1, olo, ofi, opl, lE, hI1, hp1⟩
  refine jn_i (fun σ' H' => ∃ F2, ∃ P2, ∃ n, σ' 1 = va ∧ σ' 5 = lo ∧ σ' 6 = fi ∧ σ' 7 = pl ∧ σ' 8 = (.int .i64 ((s : Int))) ∧ σ' 9 = (.int .i64 (((itF (nxF nx) n s : Nat) : Int))) ∧ σ' 10 = (.int .i64 ((n : Int))) ∧ σ' 22 = (.int .i64 (((nx).length : Int))) ∧ σ' 23 = (.int .i64 ((s : Int))) ∧ Cel H' p1 [(.int .i64 (st)), (.int .i64 (rc)), vt] ∧ Own eI H' lo (L0) ∧ Own eI H' fi (F2) ∧ Own eI H' pl (P2) ∧ Le H H' ∧ CyW nx s n F0 F2 ∧ plP nx s n P2 ∧ at_ 0 F2 ((itF (nxF nx) n s : Nat) : Int) ≠ 0 ∧ n ≤ nx.length) (fun σ18 H18 hP => ?_) (fun J18 hJ18 => ?_)
  ·skip
   obtain ⟨F2, P2, n, g1L18, g5L18, g6L18, g7L18, g8L18, g9L18, g10L18, g22L18, g23L18, op1, olo, ofi, opl, lE, hW, hP, hz, hnN⟩ := hP
   have hvt := hvt0.le lE
   have hva := hva0.le lE
   try simp only [g6L18, g7L18, g8L18, g9L18, g10L18]
   have wl := itF_lt (nxF_lt hx) hs n
   have wf := hW.lf
   have hpl := hP.1
   have hpn := place_bnd hx hs hI hW hP
   refine ob_i (ofi.sl.ix (by omega) (by omega)) ?_
   refine ob_i (ofi.sl.ld 0 (by omega) (by omega)) ?_
   refine ob_i (vInt_add (by omega) (by omega)) ?_
   refine ob_i (vInt_neq _ _ _) ?_
   refine cnd_d (fun hg19 => ?_) (fun hg19 => ?_)
   ·skip
    exact hJ17 _ _ ⟨_, _, _, g1L18, g5L18, g6L18, g7L18, g22L18, g23L18, op1, olo, ofi, opl, lE, (hI.skip hx hs hW hz hg19), hP.1⟩
   ·skip
    refine ob_i (opl.sl.ix (by omega) (by omega)) ?_
    refine ob_i (opl.sl.ld 0 (by omega) (by omega)) ?_
    refine ob_i (vInt_sub (by omega) (by omega)) ?_
    obtain ⟨kk, hkk⟩ : ∃ x : Int, x = (n : Int) - (at_ 0 (P2) (((itF (nxF nx) n s : Nat) : Int))) := ⟨_, rfl⟩
    rw [← hkk]
    obtain ⟨p, hp, he⟩ := hW.back hx hs hI (Decidable.not_not.mp hg19)
    have hpa := place_at hP hp he
    have hk2 : kk = ((n - p : Nat) : Int) := by omega
    refine ⟨fun n' σ' H' => ∃ j : Nat, n' = (n - p) - j ∧ j ≤ (n - p) ∧ ∃ L2, σ' 1 = va ∧ σ' 5 = lo ∧ σ' 6 = fi ∧ σ' 7 = pl ∧ σ' 9 = (.int .i64 (((itF (nxF nx) (p + j) s : Nat) : Int))) ∧ σ' 11 = (.int .i64 (kk)) ∧ σ' 22 = (.int .i64 (((nx).length : Int))) ∧ σ' 23 = (.int .i64 ((s : Int))) ∧ Cel H' p1 [(.int .i64 (st)), (.int .i64 (rc)), vt] ∧ Own eI H' lo (L2) ∧ Own eI H' fi (F2) ∧ Own eI H' pl (P2) ∧ Le H H' ∧ CyS nx s n p j L0 L2 ∧ j < n - p,
     ⟨_, 0, rfl, by omega, _, g1L18, g5L18, g6L18, g7L18, (g9L18.trans (congrArg (Value.int .i64) (by rw [he]; rfl))), rfl, g22L18, g23L18, op1, by simpa using olo, ofi, opl, lE, (CyS.start hll), (by omega)⟩, ?_⟩
    rintro n20 σ20 H20 ⟨j, rfl, hjN, L2, g1L20, g5L20, g6L20, g7L20, g9L20, g11L20, g22L20, g23L20, op1, olo, ofi, opl, lE, hC, hjn⟩
    have hvt := hvt0.le lE
    have hva := hva0.le lE
    try simp only [g1L20, g5L20, g9L20, g11L20]
    have wl2 := itF_lt (nxF_lt hx) hs (p + j)
    have wl3 := itF_lt (nxF_lt hx) hs (p + j + 1)
    have wn := nxW_at hx hs (p + j)
    have hl2 := hC.ll
    have hl3 : (L2.set (((itF (nxF nx) (p + j) s : Nat) : Int)).toNat kk).length = L2.length := List.length_set
    refine ob_i (olo.sl.ix (by omega) (by omega)) ?_
    refine olo.st (x := kk) (by omega) (by omega) rfl rfl (fun H21 olo off22 => ?_)
    replace op1 := op1.off off22 ap1Xlo
    replace ofi := ofi.off off22 aloXfi.symm
    replace opl := opl.off off22 aloXpl.symm
    replace hvt := hvt0.le (off22.le lE nlo)
    replace hva := hva0.le (off22.le lE nlo)
    replace lE := off22.le lE nlo
    refine ob_i (hva.ix (by omega) (by omega)) ?_
    refine ob_i (hva.ld 0 (by omega) (by omega)) ?_
    refine ob_i (olo.sl.ix (by omega) (by omega)) ?_
    refine ob_i (olo.sl.ld 0 (by omega) (by omega)) ?_
    refine ob_i (vInt_neq _ _ _) ?_
    refine cnd_d (fun hg23 => ?_) (fun hg23 => ?_)
    ·skip
     have tj := hg23
     have hS' := CyS.next hx hs hW hC (by omega) (i := (((itF (nxF nx) (p + j) s : Nat) : Int)).toNat) (Int.toNat_natCast _)
     have hS'' : CyS nx s n p (j + 1) L0 ((L2).set (((itF (nxF nx) (p + j) s : Nat) : Int)).toNat (kk)) := by rw [hk2]; exact hS'
     have hj1 := (cyS_ends hx hs hI hW he (by omega) hS'').mp hg23
     exact hJ17 _ _ ⟨_, _, _, g1L20, g5L20, g6L20, g7L20, g22L20, g23L20, op1, olo, ofi, opl, lE, (hI.told hx hs hW hp he hS'' (by omega)), hP.1⟩
    ·skip
     have tj := hg23
     have hS' := CyS.next hx hs hW hC (by omega) (i := (((itF (nxF nx) (p + j) s : Nat) : Int)).toNat) (Int.toNat_natCast _)
     have hS'' : CyS nx s n p (j + 1) L0 ((L2).set (((itF (nxF nx) (p + j) s : Nat) : Int)).toNat (kk)) := by rw [hk2]; exact hS'
     have hj0 : ¬ (j + 1 = n - p) := fun e => hg23 ((cyS_ends hx hs hI hW he (by omega) hS'').mpr e)
     have hj1 : j + 1 < n - p := by omega
     exact nxt ((n - p) - (j + 1)) (by omega) ⟨j + 1, rfl, by omega, ((L2).set (((itF (nxF nx) (p + j) s : Nat) : Int)).toNat (kk)), g1L20, g5L20, g6L20, g7L20, (congrArg (Value.int .i64) (nxW_at hx hs (p + j))), g11L20, g22L20, g23L20, op1, olo, ofi, opl, lE, hS'', hj1⟩
  refine ⟨fun n' σ' H' => ∃ n : Nat, n' = nx.length - n ∧ n ≤ nx.length ∧ ∃ F2, ∃ P2, σ' 1 = va ∧ σ' 5 = lo ∧ σ' 6 = fi ∧ σ' 7 = pl ∧ σ' 8 = (.int .i64 ((s : Int))) ∧ σ' 9 = (.int .i64 (((itF (nxF nx) n s : Nat) : Int))) ∧ σ' 10 = (.int .i64 ((n : Int))) ∧ σ' 22 = (.int .i64 (((nx).length : Int))) ∧ σ' 23 = (.int .i64 ((s : Int))) ∧ Cel H' p1 [(.int .i64 (st)), (.int .i64 (rc)), vt] ∧ Own eI H' lo (L0) ∧ Own eI H' fi (F2) ∧ Own eI H' pl (P2) ∧ Le H H' ∧ CyW nx s n F0 F2 ∧ plP nx s n P2,
   ⟨_, 0, rfl, by omega, _, _, g1L15, g5L15, g6L15, g7L15, rfl, rfl, (congrArg (Value.int .i64) (by first | omega | rfl | (simp; done))), g22L15, g23L15, op1, olo, by simpa using ofi, by simpa using opl, lE, (CyW.start hlf), (plP.start hp0)⟩, ?_⟩
  rintro n24 σ24 H24 ⟨n, rfl, hnN, F2, P2, g1L24, g5L24, g6L24, g7L24, g8L24, g9L24, g10L24, g22L24, g23L24, op1, olo, ofi, opl, lE, hW, hP⟩
  have hvt := hvt0.le lE
  have hva := hva0.le lE
  try simp only [g1L24, g6L24, g7L24, g8L24, g9L24, g10L24]
  have wl := itF_lt (nxF_lt hx) hs n
  have wf := hW.lf
  have hpl := hP.1
  refine ob_i (ofi.sl.ix (by omega) (by omega)) ?_
  refine ob_i (ofi.sl.ld 0 (by omega) (by omega)) ?_
  refine ob_i (vInt_eql _ _ _) ?_
  refine cnd_d (fun hg25 => ?_) (fun hg25 => ?_)
  ·skip
   have tn := hg25
   refine ob_i (vInt_add (by omega) (by omega)) ?_
   refine ob_i (ofi.sl.ix (by omega) (by omega)) ?_
   refine ofi.st (x := (s : Int) + 1) (by omega) (by omega) rfl rfl (fun H26 ofi off27 => ?_)
   replace op1 := op1.off off27 ap1Xfi
   replace olo := olo.off off27 aloXfi
   replace opl := opl.off off27 afiXpl.symm
   replace hvt := hvt0.le (off27.le lE nfi)
   replace hva := hva0.le (off27.le lE nfi)
   replace lE := off27.le lE nfi
   refine ob_i (opl.sl.ix (by omega) (by omega)) ?_
   refine opl.st (x := (n : Int)) (by omega) (by omega) rfl rfl (fun H28 opl off29 => ?_)
   replace op1 := op1.off off29 ap1Xpl
   replace olo := olo.off off29 aloXpl
   replace ofi := ofi.off off29 afiXpl
   replace hvt := hvt0.le (off29.le lE npl)
   replace hva := hva0.le (off29.le lE npl)
   replace lE := off29.le lE npl
   refine ob_i (hva.ix (by omega) (by omega)) ?_
   refine ob_i (hva.ld 0 (by omega) (by omega)) ?_
   refine ob_i (vInt_add (by omega) (by omega)) ?_
   have hlt := hW.lt' hx hs hg25
   exact nxt (nx.length - (n + 1)) (by omega) ⟨n + 1, rfl, by omega, ((F2).set (((itF (nxF nx) n s : Nat) : Int)).toNat ((s : Int) + 1)), ((P2).set (((itF (nxF nx) n s : Nat) : Int)).toNat ((n : Int))), g1L24, g5L24, g6L24, g7L24, g8L24, (congrArg (Value.int .i64) (nxW_at hx hs n)), (congrArg (Value.int .i64) (by first | omega | rfl | (simp; done))), g22L24, g23L24, op1, olo, ofi, opl, lE, (hW.next hx hs hg25 (Int.toNat_natCast _)), (hP.next hx hs hW hg25 (Int.toNat_natCast _))⟩
  ·skip
   have tn := hg25
   exact hJ18 _ _ ⟨_, _, _, g1L24, g5L24, g6L24, g7L24, g8L24, g9L24, g10L24, g22L24, g23L24, op1, olo, ofi, opl, lE, hW, hP, hg25, (by omega)⟩
 ·skip
  have ts := hg16
  obtain rfl : s = nx.length := by omega
  rw [hI.done] at olo
  exact hJ14 _ _ ⟨g5L15, op1, olo, lE⟩
theorem C.spec_l03Cycles {va : Value} {nx : List Int}  {H : Hp} {K : Value → Hp → Prop} (hva0 : Sl eI H va nx) (hx : nxP nx) (ln : nx.length ≤ 100000)
    (hk : ∀ u1 H', Own eI H' u1 (cyL nx) → Nw H u1 → Le H H' → K u1 H') : HT prg I.spec_l03Cycles [va].toArray H K := by
 have lE := Le.refl H
 have hva := hva0
 refine R.spec_l03Cycles ?_
 unfold F.spec_l03Cycles
 refine ob_i (hva.len) ?_
 refine Own.mk_ (z := (0 : Int)) (by omega) (by omega) (by omega) (by omega) (fun lo H1 olo nn2 le3 => ?_)
 have nlo : Nw H lo := nn2.le lE
 replace hva := hva.le le3
 replace lE := lE.trans le3
 refine ob_i (hva.len) ?_
 refine Own.mk_ (z := (0 : Int)) (by omega) (by omega) (by omega) (by omega) (fun fi H4 ofi nn5 le6 => ?_)
 have aloXfi : Apart lo fi := olo.apart nn5
 have nfi : Nw H fi := nn5.le lE
 replace olo := olo.le le6
 replace hva := hva.le le6
 replace lE := lE.trans le6
 refine jn_i (fun σ' H' => σ' 3 = lo ∧ Own eI H' lo (cyL nx) ∧ Le H H') (fun σ7 H7 hP => ?_) (fun J7 hJ7 => ?_)
 ·skip
  obtain ⟨g3L7, olo, lE⟩ := hP
  try simp only [g3L7]
  skip
  exact hk  lo _ olo nlo  lE
 refine ob_i (hva.len) ?_
 refine ⟨fun n' σ' H' => ∃ s : Nat, n' = nx.length - s ∧ s ≤ nx.length ∧ ∃ F0, ∃ L0, σ' 0 = va ∧ σ' 3 = lo ∧ σ' 4 = fi ∧ σ' 17 = (.int .i64 (((nx).length : Int))) ∧ σ' 18 = (.int .i64 ((s : Int))) ∧ Own eI H' lo (L0) ∧ Own eI H' fi (F0) ∧ Le H H' ∧ CyI nx s F0 L0,
  ⟨_, 0, rfl, by omega, _, _, rfl, rfl, rfl, rfl, (congrArg (Value.int .i64) (by first | omega | rfl | (simp; done))), by simpa using olo, by simpa using ofi, lE, (CyI.start nx (by omega))⟩, ?_⟩
 rintro n8 σ8 H8 ⟨s, rfl, hsN, F0, L0, g0L8, g3L8, g4L8, g17L8, g18L8, olo, ofi, lE, hI⟩
 have hva := hva0.le lE
 try simp only [g17L8, g18L8]
 have hlf := hI.lf
 have hll := hI.ll
 refine ob_i (vInt_lss _ _ _) ?_
 refine cnd_d (fun hg9 => ?_) (fun hg9 => ?_)
 ·skip
  have ts := hg9
  have hs : s < nx.length := by omega
  refine jn_i (fun σ' H' => ∃ F1, ∃ L1, σ' 0 = va ∧ σ' 3 = lo ∧ σ' 4 = fi ∧ σ' 17 = (.int .i64 (((nx).length : Int))) ∧ σ' 18 = (.int .i64 ((s : Int))) ∧ Own eI H' lo (L1) ∧ Own eI H' fi (F1) ∧ Le H H' ∧ CyI nx (s + 1) F1 L1) (fun σ10 H10 hP => ?_) (fun J10 hJ10 => ?_)
  ·skip
   obtain ⟨F1, L1, g0L10, g3L10, g4L10, g17L10, g18L10, olo, ofi, lE, hI1⟩ := hP
   try simp only [g18L10]
   refine ob_i (vInt_add (by omega) (by omega)) ?_
   exact nxt (nx.length - (s + 1)) (by omega) ⟨s + 1, rfl, by omega, F1, L1, g0L10, g3L10, g4L10, g17L10, (congrArg (Value.int .i64) (by first | omega | rfl | (simp; done))), olo, ofi, lE, hI1⟩
  refine jn_i (fun σ' H' => ∃ F2, ∃ n, σ' 0 = va ∧ σ' 3 = lo ∧ σ' 4 = fi ∧ σ' 5 = (.int .i64 ((s : Int))) ∧ σ' 6 = (.int .i64 (((itF (nxF nx) n s : Nat) : Int))) ∧ σ' 17 = (.int .i64 (((nx).length : Int))) ∧ σ' 18 = (.int .i64 ((s : Int))) ∧ Own eI H' lo (L0) ∧ Own eI H' fi (F2) ∧ Le H H' ∧ CyW nx s n F0 F2 ∧ at_ 0 F2 ((itF (nxF nx) n s : Nat) : Int) ≠ 0 ∧ n ≤ nx.length) (fun σ11 H11 hP => ?_) (fun J11 hJ11 => ?_)
  ·skip
   obtain ⟨F2, n, g0L11, g3L11, g4L11, g5L11, g6L11, g17L11, g18L11, olo, ofi, lE, hW, hz, hnN⟩ := hP
   have hva := hva0.le lE
   try simp only [g0L11, g4L11, g5L11, g6L11]
   have wl := itF_lt (nxF_lt hx) hs n
   have wf := hW.lf
   refine ob_i (ofi.sl.ix (by omega) (by omega)) ?_
   refine ob_i (ofi.sl.ld 0 (by omega) (by omega)) ?_
   refine ob_i (vInt_add (by omega) (by omega)) ?_
   refine ob_i (vInt_neq _ _ _) ?_
   refine cnd_d (fun hg12 => ?_) (fun hg12 => ?_)
   ·skip
    exact hJ10 _ _ ⟨_, _, g0L11, g3L11, g4L11, g17L11, g18L11, olo, ofi, lE, (hI.skip hx hs hW hz hg12)⟩
   ·skip
    refine jn_i (fun σ' H' => ∃ p, σ' 0 = va ∧ σ' 3 = lo ∧ σ' 4 = fi ∧ σ' 6 = (.int .i64 (((itF (nxF nx) n s : Nat) : Int))) ∧ σ' 7 = (.int .i64 (((n - p : Nat) : Int))) ∧ σ' 17 = (.int .i64 (((nx).length : Int))) ∧ σ' 18 = (.int .i64 ((s : Int))) ∧ Own eI H' lo (L0) ∧ Own eI H' fi (F2) ∧ Le H H' ∧ p < n ∧ itF (nxF nx) n s = itF (nxF nx) p s ∧ n ≤ nx.length) (fun σ13 H13 hP => ?_) (fun J13 hJ13 => ?_)
    ·skip
     obtain ⟨p, g0L13, g3L13, g4L13, g6L13, g7L13, g17L13, g18L13, olo, ofi, lE, hp, he, hpN⟩ := hP
     have hva := hva0.le lE
     try simp only [g0L13, g3L13, g6L13, g7L13]
     refine ⟨fun n' σ' H' => ∃ j : Nat, n' = (n - p) - j ∧ j ≤ (n - p) ∧ ∃ L2, σ' 0 = va ∧ σ' 3 = lo ∧ σ' 4 = fi ∧ σ' 6 = (.int .i64 (((itF (nxF nx) (p + j) s : Nat) : Int))) ∧ σ' 7 = (.int .i64 (((n - p : Nat) : Int))) ∧ σ' 9 = (.int .i64 ((j : Int))) ∧ σ' 17 = (.int .i64 (((nx).length : Int))) ∧ σ' 18 = (.int .i64 ((s : Int))) ∧ Own eI H' lo (L2) ∧ Own eI H' fi (F2) ∧ Le H H' ∧ CyS nx s n p j L0 L2,
      ⟨_, 0, rfl, by omega, _, g0L13, g3L13, g4L13, (g6L13.trans (congrArg (Value.int .i64) (by rw [he]; rfl))), g7L13, (congrArg (Value.int .i64) (by first | omega | rfl | (simp; done))), g17L13, g18L13, by simpa using olo, ofi, lE, (CyS.start hll)⟩, ?_⟩
     rintro n14 σ14 H14 ⟨j, rfl, hjN, L2, g0L14, g3L14, g4L14, g6L14, g7L14, g9L14, g17L14, g18L14, olo, ofi, lE, hC⟩
     have hva := hva0.le lE
     try simp only [g0L14, g3L14, g6L14, g7L14, g9L14]
     have wl2 := itF_lt (nxF_lt hx) hs (p + j)
     have hl2 := hC.ll
     refine ob_i (vInt_lss _ _ _) ?_
     refine cnd_d (fun hg15 => ?_) (fun hg15 => ?_)
     ·skip
      have tj := hg15
      refine ob_i (olo.sl.ix (by omega) (by omega)) ?_
      refine olo.st (x := ((n - p : Nat) : Int)) (by omega) (by omega) rfl rfl (fun H16 olo off17 => ?_)
      replace ofi := ofi.off off17 aloXfi.symm
      replace hva := hva0.le (off17.le lE nlo)
      replace lE := off17.le lE nlo
      refine ob_i (hva.ix (by omega) (by omega)) ?_
      refine ob_i (hva.ld 0 (by omega) (by omega)) ?_
      refine ob_i (vInt_add (by omega) (by omega)) ?_
      have hS' := CyS.next hx hs hW hC (by omega) (i := (((itF (nxF nx) (p + j) s : Nat) : Int)).toNat) (Int.toNat_natCast _)
      exact nxt ((n - p) - (j + 1)) (by omega) ⟨j + 1, rfl, by omega, ((L2).set (((itF (nxF nx) (p + j) s : Nat) : Int)).toNat (((n - p : Nat) : Int))), g0L14, g3L14, g4L14, (congrArg (Value.int .i64) (nxW_at hx hs (p + j))), g7L14, (congrArg (Value.int .i64) (by first | omega | rfl | (simp; done))), g17L14, g18L14, olo, ofi, lE, hS'⟩
     ·skip
      have tj := hg15
      exact hJ10 _ _ ⟨_, _, g0L14, g3L14, g4L14, g17L14, g18L14, olo, ofi, lE, (hI.told hx hs hW hp he hC (by omega))⟩
    refine ob_i (hva.ix (by omega) (by omega)) ?_
    refine ob_i (hva.ld 0 (by omega) (by omega)) ?_
    obtain ⟨p, hp, he⟩ := hW.back hx hs hI (Decidable.not_not.mp hg12)
    have hpN := hW.lt hx hs
    refine ⟨fun n' σ' H' => ∃ m : Nat, n' = (n - p) - m ∧ m ≤ (n - p) ∧ σ' 0 = va ∧ σ' 3 = lo ∧ σ' 4 = fi ∧ σ' 6 = (.int .i64 (((itF (nxF nx) n s : Nat) : Int))) ∧ σ' 7 = (.int .i64 ((m : Int) + 1)) ∧ σ' 8 = (.int .i64 (((itF (nxF nx) (p + 1 + m) s : Nat) : Int))) ∧ σ' 17 = (.int .i64 (((nx).length : Int))) ∧ σ' 18 = (.int .i64 ((s : Int))) ∧ Own eI H' lo (L0) ∧ Own eI H' fi (F2) ∧ Le H H' ∧ m + 1 ≤ n - p,
     ⟨_, 0, rfl, by omega, g0L11, g3L11, g4L11, g6L11, (congrArg (Value.int .i64) (by first | omega | rfl | (simp; done))), (congrArg (Value.int .i64) (round_at hx hs he)), g17L11, g18L11, olo, ofi, lE, (by omega)⟩, ?_⟩
    rintro n18 σ18 H18 ⟨m, rfl, hmN, g0L18, g3L18, g4L18, g6L18, g7L18, g8L18, g17L18, g18L18, olo, ofi, lE, hm1⟩
    have hva := hva0.le lE
    try simp only [g0L18, g6L18, g7L18, g8L18]
    have wl2 := itF_lt (nxF_lt hx) hs (p + 1 + m)
    have hce := cyc_ne hW he hm1
    refine ob_i (vInt_neq _ _ _) ?_
    refine cnd_d (fun hg19 => ?_) (fun hg19 => ?_)
    ·skip
     have tm := hg19
     refine ob_i (vInt_add (by omega) (by omega)) ?_
     refine ob_i (hva.ix (by omega) (by omega)) ?_
     refine ob_i (hva.ld 0 (by omega) (by omega)) ?_
     have hj0 : ¬ (m + 1 = n - p) := fun e => absurd (hce.mpr e) (by omega)
     exact nxt ((n - p) - (m + 1)) (by omega) ⟨m + 1, rfl, by omega, g0L18, g3L18, g4L18, g6L18, (congrArg (Value.int .i64) (by first | omega | rfl | (simp; done))), (congrArg (Value.int .i64) (nxW_at hx hs (p + 1 + m))), g17L18, g18L18, olo, ofi, lE, (by omega)⟩
    ·skip
     have tm := hg19
     have hmn := hce.mp (by omega)
     exact hJ13 _ _ ⟨p, g0L18, g3L18, g4L18, g6L18, (g7L18.trans (congrArg (Value.int .i64) (by first | omega | rfl | (simp; done)))), g17L18, g18L18, olo, ofi, lE, hp, he, hpN⟩
  refine ⟨fun n' σ' H' => ∃ n : Nat, n' = nx.length - n ∧ n ≤ nx.length ∧ ∃ F2, σ' 0 = va ∧ σ' 3 = lo ∧ σ' 4 = fi ∧ σ' 5 = (.int .i64 ((s : Int))) ∧ σ' 6 = (.int .i64 (((itF (nxF nx) n s : Nat) : Int))) ∧ σ' 17 = (.int .i64 (((nx).length : Int))) ∧ σ' 18 = (.int .i64 ((s : Int))) ∧ Own eI H' lo (L0) ∧ Own eI H' fi (F2) ∧ Le H H' ∧ CyW nx s n F0 F2,
   ⟨_, 0, rfl, by omega, _, g0L8, g3L8, g4L8, rfl, rfl, g17L8, g18L8, olo, by simpa using ofi, lE, (CyW.start hlf)⟩, ?_⟩
  rintro n20 σ20 H20 ⟨n, rfl, hnN, F2, g0L20, g3L20, g4L20, g5L20, g6L20, g17L20, g18L20, olo, ofi, lE, hW⟩
  have hva := hva0.le lE
  try simp only [g0L20, g4L20, g5L20, g6L20]
  have wl := itF_lt (nxF_lt hx) hs n
  have wf := hW.lf
  refine ob_i (ofi.sl.ix (by omega) (by omega)) ?_
  refine ob_i (ofi.sl.ld 0 (by omega) (by omega)) ?_
  refine ob_i (vInt_eql _ _ _) ?_
  refine cnd_d (fun hg21 => ?_) (fun hg21 => ?_)
  ·skip
   have tn := hg21
   refine ob_i (vInt_add (by omega) (by omega)) ?_
   refine ob_i (ofi.sl.ix (by omega) (by omega)) ?_
   refine ofi.st (x := (s : Int) + 1) (by omega) (by omega) rfl rfl (fun H22 ofi off23 => ?_)
   replace olo := olo.off off23 aloXfi
   replace hva := hva0.le (off23.le lE nfi)
   replace lE := off23.le lE nfi
   refine ob_i (hva.ix (by omega) (by omega)) ?_
   refine ob_i (hva.ld 0 (by omega) (by omega)) ?_
   have hlt := hW.lt' hx hs hg21
   exact nxt (nx.length - (n + 1)) (by omega) ⟨n + 1, rfl, by omega, ((F2).set (((itF (nxF nx) n s : Nat) : Int)).toNat ((s : Int) + 1)), g0L20, g3L20, g4L20, g5L20, (congrArg (Value.int .i64) (nxW_at hx hs n)), g17L20, g18L20, olo, ofi, lE, (hW.next hx hs hg21 (Int.toNat_natCast _))⟩
  ·skip
   have tn := hg21
   exact hJ11 _ _ ⟨_, _, g0L20, g3L20, g4L20, g5L20, g6L20, g17L20, g18L20, olo, ofi, lE, hW, hg21, (by omega)⟩
 ·skip
  have ts := hg9
  obtain rfl : s = nx.length := by omega
  rw [hI.done] at olo
  exact hJ7 _ _ ⟨g3L8, olo, lE⟩
theorem HL.Cel.castC {H : Hp} {p : Value} {cs ds : List Value} (e : cs = ds) (h : Cel H p cs) : Cel H p ds := e ▸ h
theorem C.rep_neg {va : Value} {n : Int} {H : Hp} {K : Value → Hp → Prop} (hva0 : Sl eI H va [(-1)]) (n0 : 1 ≤ n) (n1 : n ≤ 65535) (hk : ∀ u1 H', Own eI H' u1 (List.replicate (n : Int).toNat (-1)) → Nw H u1 → Le H H' → K u1 H') : HT prg I.slices_Repeat_int64Zint64 [va, .int .i64 n].toArray H K :=
  C.slices_Repeat_int64Zint64 hva0 rfl n0 n1 hk
theorem C.impl_DepthOf {vt : Value} {st rc n : Int} {T : List Int}  {H : Hp} {K : Value → Hp → Prop} (hvt0 : Sl eI H vt T) (k1 : T.length ≤ 9223372036854775807)
    (hk : ∀ H', Le H H' → K (.tuple #[(.int .i64 (selI (smlP st rc T n) (((mxD (nsL st rc T n) (nsL st rc T n).length : Nat) : Int)))), (.bool (decide (smlP st rc T n)))]) H') : HT prg I.impl_DepthOf [(.agg #[(.int .i64 (st)), (.int .i64 (rc)), vt]), (.int .i64 (n))].toArray H K := by
 have lE := Le.refl H
 have hvt := hvt0
 refine R.impl_DepthOf ?_
 unfold F.impl_DepthOf
 refine nw_i (fun p1 H2 op1 nn3 le4 => ?_)
 replace hvt := hvt.le le4
 replace lE := lE.trans le4
 replace op1 : Cel H2 p1 [(.int .i64 (st)), (.int .i64 (rc)), vt] := op1
 refine ob_i (op1.ldn rfl) ?_
 refine C.impl_small hvt (by first | omega | assumption) (fun   H5    le6 => ?_)
 replace op1 := op1.le le6
 replace hvt := hvt.le le6
 replace lE := lE.trans le6
 refine ob_nd (fun hc7 => ?_) (fun hc7 => ?_)
 ·skip
  refine cnd_f1 ?_
  refine ob_i (op1.ldn rfl) ?_
  refine C.impl_Rule_steps hvt (by first | omega | assumption) (fun  u10 H8 ou10 nn11  le9 => ?_)
  replace op1 := op1.le le9
  replace hvt := hvt.le le9
  replace lE := lE.trans le9
  obtain ⟨nx, hnx⟩ : ∃ x : List Int, x = nsL st rc T n := ⟨_, rfl⟩
  rw [← hnx] at ou10
  have hx : nxP nx := by rw [hnx]; exact nsL_nx (by assumption)
  have hnl : nx.length = (pwr st n).toNat := by rw [hnx]; exact nsL_len
  have hpw := sml_pw (st := st) (rc := rc) (T := T) (n := n) (by assumption)
  have hcl := cyL_len nx
  refine ob_i (op1.ldn rfl) ?_
  refine C.impl_Rule_inCycles hvt ou10.sl (by first | omega | assumption) (by first | omega | assumption) (fun  u14 H12 ou14 nn15  le13 => ?_)
  replace op1 := op1.le le13
  replace ou10 := ou10.le le13
  replace hvt := hvt.le le13
  replace lE := lE.trans le13
  refine bS_i (enc := eI) (l := [(-1)]) (by omega) rfl (by kernel_rfl) (fun u16 H17 ou16 nn18 le20 => ?_)
  replace op1 := op1.le le20
  replace ou10 := ou10.le le20
  replace ou14 := ou14.le le20
  replace hvt := hvt.le le20
  replace lE := lE.trans le20
  refine ob_i (ou10.len) ?_
  refine C.rep_neg ou16.sl (by first | omega | assumption) (by first | omega | assumption) (fun  vd H21 ovd nn23  le22 => ?_)
  have ap1Xvd : Apart p1 vd := op1.apart nn23
  have au10Xvd : Apart u10 vd := ou10.apart nn23
  have au14Xvd : Apart u14 vd := ou14.apart nn23
  have au16Xvd : Apart u16 vd := ou16.apart nn23
  have nvd : Nw H vd := nn23.le lE
  replace op1 := op1.le le22
  replace ou10 := ou10.le le22
  replace ou14 := ou14.le le22
  replace ou16 := ou16.le le22
  replace hvt := hvt.le le22
  replace lE := lE.trans le22
  refine nw_i (fun pd H24 opd nn25 le26 => ?_)
  have ap1Xpd : Apart p1 pd := op1.apart nn25
  have au10Xpd : Apart u10 pd := ou10.apart nn25
  have au14Xpd : Apart u14 pd := ou14.apart nn25
  have au16Xpd : Apart u16 pd := ou16.apart nn25
  have avdXpd : Apart vd pd := ovd.apart nn25
  have npd : Nw H pd := nn25.le lE
  replace op1 := op1.le le26
  replace ou10 := ou10.le le26
  replace ou14 := ou14.le le26
  replace ou16 := ou16.le le26
  replace ovd := ovd.le le26
  replace hvt := hvt.le le26
  replace lE := lE.trans le26
  replace opd : Cel H24 pd [(.slice none 0 0)] := opd
  refine opd.st0 (by simp) ovd.one ovd.cells (fun H27 opd off28 => ?_)
  replace op1 := op1.off off28 ap1Xpd
  replace ou10 := ou10.off off28 au10Xpd
  replace ou14 := ou14.off off28 au14Xpd
  replace ou16 := ou16.off off28 au16Xpd
  replace ovd := ovd.off off28 avdXpd
  replace hvt := hvt0.le (off28.le lE npd)
  replace lE := off28.le lE npd
  replace opd : Cel H27 pd [vd] := opd
  refine jn_i (fun σ' H' => σ' 9 = (.int .i64 (((mxD nx nx.length : Nat) : Int))) ∧ Cel H' p1 [(.int .i64 (st)), (.int .i64 (rc)), vt] ∧ Own eI H' u10 (nx) ∧ Own eI H' u14 (cyL nx) ∧ Own eI H' u16 ([(-1)]) ∧ Cel H' pd [vd] ∧ Le H H') (fun σ29 H29 hP => ?_) (fun J29 hJ29 => ?_)
  ·skip
   obtain ⟨g9L29, op1, ou10, ou14, ou16, opd, lE⟩ := hP
   try simp only [g9L29]
   skip
   have hok : smlP st rc T n := by assumption
   exact keq (K := K) (by rw [show ((selI (smlP st rc T n) (((mxD (nsL st rc T n) (nsL st rc T n).length : Nat) : Int))) : Int) = (((mxD nx nx.length : Nat) : Int)) from by first | (rw [hnx]; exact selI_t hok) | exact selI_t hok | exact selI_f hok]; rw [decide_eq_true (show (smlP st rc T n) from by exact hok)]) (hk   _    lE)
  refine ob_i (ou10.len) ?_
  refine ⟨fun n' σ' H' => ∃ s : Nat, n' = nx.length - s ∧ s ≤ nx.length ∧ ∃ D0, σ' 6 = u10 ∧ σ' 7 = u14 ∧ σ' 8 = pd ∧ σ' 9 = (.int .i64 (((mxD nx s : Nat) : Int))) ∧ σ' 31 = (.int .i64 (((nx).length : Int))) ∧ σ' 32 = (.int .i64 ((s : Int))) ∧ Cel H' p1 [(.int .i64 (st)), (.int .i64 (rc)), vt] ∧ Own eI H' u10 (nx) ∧ Own eI H' u14 (cyL nx) ∧ Own eI H' u16 ([(-1)]) ∧ Own eI H' vd (D0) ∧ Cel H' pd [vd] ∧ Le H H' ∧ DpI nx (0) D0,
   ⟨_, 0, rfl, by omega, _, rfl, rfl, rfl, rfl, rfl, (congrArg (Value.int .i64) (by first | omega | rfl | (simp; done))), op1, ou10, ou14, ou16, by simpa using ovd, opd, lE, (DpI.start (by omega) rfl)⟩, ?_⟩
  rintro n30 σ30 H30 ⟨s, rfl, hsN, D0, g6L30, g7L30, g8L30, g9L30, g31L30, g32L30, op1, ou10, ou14, ou16, ovd, opd, lE, hD⟩
  have hvt := hvt0.le lE
  try simp only [g31L30, g32L30]
  have hDl := hD.1
  have hml := mxD_le hx (s := s) (by omega)
  refine ob_i (vInt_lss _ _ _) ?_
  refine cnd_d (fun hg31 => ?_) (fun hg31 => ?_)
  ·skip
   have ts := hg31
   have hs : s < nx.length := by omega
   refine jn_i (fun σ' H' => ∃ D1, σ' 6 = u10 ∧ σ' 7 = u14 ∧ σ' 8 = pd ∧ σ' 9 = (.int .i64 (((mxD nx (s + 1) : Nat) : Int))) ∧ σ' 31 = (.int .i64 (((nx).length : Int))) ∧ σ' 32 = (.int .i64 ((s : Int))) ∧ Cel H' p1 [(.int .i64 (st)), (.int .i64 (rc)), vt] ∧ Own eI H' u10 (nx) ∧ Own eI H' u14 (cyL nx) ∧ Own eI H' u16 ([(-1)]) ∧ Own eI H' vd (D1) ∧ Cel H' pd [vd] ∧ Le H H' ∧ DpI nx (0) D1) (fun σ32 H32 hP => ?_) (fun J32 hJ32 => ?_)
   ·skip
    obtain ⟨D1, g6L32, g7L32, g8L32, g9L32, g31L32, g32L32, op1, ou10, ou14, ou16, ovd, opd, lE, hD1⟩ := hP
    try simp only [g32L32]
    refine ob_i (vInt_add (by omega) (by omega)) ?_
    exact nxt (nx.length - (s + 1)) (by omega) ⟨s + 1, rfl, by omega, D1, g6L32, g7L32, g8L32, (g9L32.trans (congrArg (Value.int .i64) (by first | omega | rfl | (simp; done)))), g31L32, (congrArg (Value.int .i64) (by first | omega | rfl | (simp; done))), op1, ou10, ou14, ou16, ovd, opd, lE, hD1⟩
   refine bS_nil (enc := eI) (fun u33 H34 ou33 nn35 kk36 le37 => ?_)
   have ap1Xu33 : Apart p1 u33 := op1.apart nn35
   have au10Xu33 : Apart u10 u33 := ou10.apart nn35
   have au14Xu33 : Apart u14 u33 := ou14.apart nn35
   have au16Xu33 : Apart u16 u33 := ou16.apart nn35
   have avdXu33 : Apart vd u33 := ovd.apart nn35
   have apdXu33 : Apart pd u33 := opd.apart nn35
   have nu33 : Nw H u33 := nn35.le lE
   replace op1 := op1.le le37
   replace ou10 := ou10.le le37
   replace ou14 := ou14.le le37
   replace ou16 := ou16.le le37
   replace ovd := ovd.le le37
   replace opd := opd.le le37
   replace hvt := hvt.le le37
   replace lE := lE.trans le37
   refine jn_i (fun σ' H' => ∃ pa, ∃ n, σ' 6 = u10 ∧ σ' 7 = u14 ∧ σ' 8 = pd ∧ σ' 9 = (.int .i64 (((mxD nx s : Nat) : Int))) ∧ σ' 11 = pa ∧ σ' 12 = (.int .i64 (((itF (nxF nx) n s : Nat) : Int))) ∧ σ' 31 = (.int .i64 (((nx).length : Int))) ∧ σ' 32 = (.int .i64 ((s : Int))) ∧ Cel H' p1 [(.int .i64 (st)), (.int .i64 (rc)), vt] ∧ Own eI H' u10 (nx) ∧ Own eI H' u14 (cyL nx) ∧ Own eI H' u16 ([(-1)]) ∧ Own eI H' vd (D0) ∧ Cel H' pd [vd] ∧ Own eI H' pa (pthL nx s n) ∧ Nw H pa ∧ Apart p1 pa ∧ Apart u10 pa ∧ Apart u14 pa ∧ Apart u16 pa ∧ Apart vd pa ∧ Apart pd pa ∧ Le H H' ∧ (∀ i, i < n → perN (nxF nx) nx.length (itF (nxF nx) i s) = 0) ∧ (perN (nxF nx) nx.length (itF (nxF nx) n s) ≠ 0 ∨ ¬ at_ 0 D0 ((itF (nxF nx) n s : Nat) : Int) < 0) ∧ n < nx.length) (fun σ38 H38 hP => ?_) (fun J38 hJ38 => ?_)
   ·skip
    obtain ⟨pa, n, g6L38, g7L38, g8L38, g9L38, g11L38, g12L38, g31L38, g32L38, op1, ou10, ou14, ou16, ovd, opd, opa, npa, ap1Xpa, au10Xpa, au14Xpa, au16Xpa, avdXpa, apdXpa, lE, hP, hE, hnN⟩ := hP
    have hvt := hvt0.le lE
    try simp only [g8L38, g11L38, g12L38]
    have wl := itF_lt (nxF_lt hx) hs n
    have ptl := pthL_len (nx := nx) (s := s) (n := n)
    have hdw := dpF_walk hx hs hP
    have hdl := dpF_lt hx hs
    have hdl2 := dpF_lt hx wl
    have hms := mxD_succ (nx := nx) (s := s)
    refine ob_i (opd.ld0 rfl) ?_
    refine ob_i (ovd.sl.ix (by omega) (by omega)) ?_
    refine ob_i (ovd.sl.ld 0 (by omega) (by omega)) ?_
    refine ob_i (vMx_max _ _ _) ?_
    refine nw_i (fun pe H39 ope nn40 le41 => ?_)
    have ap1Xpe : Apart p1 pe := op1.apart nn40
    have au10Xpe : Apart u10 pe := ou10.apart nn40
    have au14Xpe : Apart u14 pe := ou14.apart nn40
    have au16Xpe : Apart u16 pe := ou16.apart nn40
    have avdXpe : Apart vd pe := ovd.apart nn40
    have apdXpe : Apart pd pe := opd.apart nn40
    have apaXpe : Apart pa pe := opa.apart nn40
    have npe : Nw H pe := nn40.le lE
    replace op1 := op1.le le41
    replace ou10 := ou10.le le41
    replace ou14 := ou14.le le41
    replace ou16 := ou16.le le41
    replace ovd := ovd.le le41
    replace opd := opd.le le41
    replace opa := opa.le le41
    replace hvt := hvt.le le41
    replace lE := lE.trans le41
    replace ope : Cel H39 pe [(.int .i64 (0))] := ope
    refine ope.st0 (by simp) rfl rfl (fun H42 ope off43 => ?_)
    replace op1 := op1.off off43 ap1Xpe
    replace ou10 := ou10.off off43 au10Xpe
    replace ou14 := ou14.off off43 au14Xpe
    replace ou16 := ou16.off off43 au16Xpe
    replace ovd := ovd.off off43 avdXpe
    replace opd := opd.off off43 apdXpe
    replace opa := opa.off off43 apaXpe
    replace hvt := hvt0.le (off43.le lE npe)
    replace lE := off43.le lE npe
    replace ope : Cel H42 pe [(.int .i64 (max (0) (at_ 0 (D0) (((itF (nxF nx) n s : Nat) : Int)))))] := ope
    refine jn_i (fun σ' H' => ∃ D2, σ' 6 = u10 ∧ σ' 7 = u14 ∧ σ' 8 = pd ∧ σ' 9 = (.int .i64 (((mxD nx s : Nat) : Int))) ∧ σ' 13 = pe ∧ σ' 31 = (.int .i64 (((nx).length : Int))) ∧ σ' 32 = (.int .i64 ((s : Int))) ∧ Cel H' p1 [(.int .i64 (st)), (.int .i64 (rc)), vt] ∧ Own eI H' u10 (nx) ∧ Own eI H' u14 (cyL nx) ∧ Own eI H' u16 ([(-1)]) ∧ Own eI H' vd (D2) ∧ Cel H' pd [vd] ∧ Own eI H' pa (pthL nx s n) ∧ Cel H' pe [(.int .i64 (((dpF nx s : Nat) : Int)))] ∧ Le H H' ∧ DpI nx (0) D2) (fun σ44 H44 hP => ?_) (fun J44 hJ44 => ?_)
    ·skip
     obtain ⟨D2, g6L44, g7L44, g8L44, g9L44, g13L44, g31L44, g32L44, op1, ou10, ou14, ou16, ovd, opd, opa, ope, lE, hD2⟩ := hP
     try simp only [g9L44, g13L44]
     refine ob_i (ope.ld0 rfl) ?_
     refine ob_i (vMx_max _ _ _) ?_
     exact hJ32 _ _ ⟨_, g6L44, g7L44, g8L44, (congrArg (Value.int .i64) (by omega)), g31L44, g32L44, op1, ou10, ou14, ou16, ovd, opd, lE, hD2⟩
    refine C.slices_Backward opa.sl (fun ps45 H46 ops45 nn48 le47 => ?_)
    have avdXps45 : Apart vd ps45 := ovd.apart nn48
    have apeXps45 : Apart pe ps45 := ope.apart nn48
    replace op1 := op1.le le47
    replace ou10 := ou10.le le47
    replace ou14 := ou14.le le47
    replace ou16 := ou16.le le47
    replace ovd := ovd.le le47
    replace opd := opd.le le47
    replace opa := opa.le le47
    replace ope := ope.le le47
    replace hvt := hvt.le le47
    replace lE := lE.trans le47
    replace ops45 : Cel H46 ps45 [pa] := ops45
    have hmx := dp_exit wl hD hE
    refine rgE_i ((pthL nx s n).length) (fun (t : Nat) => [.int .i64 (((pthL nx s n).length : Int) - 1 - (t : Int)), .int .i64 (at_ 0 (pthL nx s n) (((pthL nx s n).length : Int) - 1 - (t : Int)))]) (fun (t : Nat) H' => ∃ D2, Cel H' p1 [(.int .i64 (st)), (.int .i64 (rc)), vt] ∧ Own eI H' u10 (nx) ∧ Own eI H' u14 (cyL nx) ∧ Own eI H' u16 ([(-1)]) ∧ Own eI H' vd (D2) ∧ Cel H' pd [vd] ∧ Own eI H' pa (pthL nx s n) ∧ Cel H' pe [(.int .i64 (((dpF nx (itF (nxF nx) n s) : Nat) : Int) + (t : Int)))] ∧ Cel H' ps45 [pa] ∧ Le H H' ∧ DpI nx (0) D2) trivial (fun _ => rfl) ⟨_, op1, ou10, ou14, ou16, ovd, opd, opa, (Cel.castC (by rw [hmx]; simp) ope), ops45, lE, hD⟩ (fun t H49 σ49 Q49 htN hσ49 qn49 qr49 qx49 hI49 => ?_) (fun H49 hI49 => ?_) (fun yv J St H1 K1 hJ h0 hst hk1 hs1 => ?_)
    ·obtain ⟨D2, op1, ou10, ou14, ou16, ovd, opd, opa, ope, ops45, lE, hD2⟩ := hI49
     have hvt := hvt0.le lE
     have g8L49 : σ49 8 = pd := by rw [hσ49]; exact g8L38
     have g13L49 : σ49 13 = pe := by rw [hσ49]; exact rfl
     have g65L49 : σ49 65 = (.int .i64 (at_ 0 (pthL nx s n) (((pthL nx s n).length : Int) - 1 - (t : Int)))) := by rw [hσ49]; rfl
     try simp only [g8L49, g13L49, g65L49]
     have hD2l := hD2.1
     have pk := pth_back (nx := nx) (s := s) (n := n) (t := t) (by omega)
     have wk := itF_lt (nxF_lt hx) hs (n - 1 - t)
     refine ob_i (ope.ld0 rfl) ?_
     refine ob_i (vInt_add (by omega) (by omega)) ?_
     refine ope.st0 (by simp) rfl rfl (fun H50 ope off51 => ?_)
     replace op1 := op1.off off51 ap1Xpe
     replace ou10 := ou10.off off51 au10Xpe
     replace ou14 := ou14.off off51 au14Xpe
     replace ou16 := ou16.off off51 au16Xpe
     replace ovd := ovd.off off51 avdXpe
     replace opd := opd.off off51 apdXpe
     replace opa := opa.off off51 apaXpe
     replace ops45 := ops45.off off51 apeXps45.symm
     replace hvt := hvt0.le (off51.le lE npe)
     replace lE := off51.le lE npe
     replace ope : Cel H50 pe [(.int .i64 ((((dpF nx (itF (nxF nx) n s) : Nat) : Int) + (t : Int)) + 1))] := ope
     refine ob_i (opd.ld0 rfl) ?_
     refine ob_i (ope.ld0 rfl) ?_
     refine ob_i (ovd.sl.ix (by omega) (by omega)) ?_
     refine ovd.st (x := (((dpF nx (itF (nxF nx) n s) : Nat) : Int) + (t : Int)) + 1) (by omega) (by omega) rfl rfl (fun H52 ovd off53 => ?_)
     replace op1 := op1.off off53 ap1Xvd
     replace ou10 := ou10.off off53 au10Xvd
     replace ou14 := ou14.off off53 au14Xvd
     replace ou16 := ou16.off off53 au16Xvd
     replace opd := opd.off off53 avdXpd.symm
     replace opa := opa.off off53 avdXpa.symm
     replace ope := ope.off off53 avdXpe.symm
     replace ops45 := ops45.off off53 avdXps45.symm
     replace hvt := hvt0.le (off53.le lE nvd)
     replace lE := off53.le lE nvd
     exact qn49 _ _ ⟨((D2).set (at_ 0 (pthL nx s n) (((pthL nx s n).length : Int) - 1 - (t : Int))).toNat ((((dpF nx (itF (nxF nx) n s) : Nat) : Int) + (t : Int)) + 1)), op1, ou10, ou14, ou16, ovd, opd, opa, (Cel.castC (by first | rfl | (congr 2; omega)) ope), ops45, lE, (DpI.next (t := t) hx hs hP (by omega) hD2 (by omega) (by omega))⟩
    ·obtain ⟨D2, op1, ou10, ou14, ou16, ovd, opd, opa, ope, ops45, lE, hD2⟩ := hI49
     exact hJ44 _ _ ⟨_, g6L38, g7L38, g8L38, g9L38, rfl, g31L38, g32L38, op1, ou10, ou14, ou16, ovd, opd, opa, (Cel.castC (by congr 2; omega) ope), lE, hD2⟩
    ·refine ⟨by kernel_rfl, C.slices_BackwardZ1 opa.sl (by omega) (fun t A hA => ?_) h0 hst hk1 hs1⟩
     obtain ⟨A', b, o, rfl, hn, D2, op1, ou10, ou14, ou16, ovd, opd, opa, ope, ops45, lE, hD2⟩ := hJ t A hA
     exact ⟨ops45.le (Le.put _ hn), opa.sl.le (Le.put _ hn)⟩
   refine ⟨fun n' σ' H' => ∃ n : Nat, n' = nx.length - n ∧ n ≤ nx.length ∧ ∃ pa, σ' 6 = u10 ∧ σ' 7 = u14 ∧ σ' 8 = pd ∧ σ' 9 = (.int .i64 (((mxD nx s : Nat) : Int))) ∧ σ' 11 = pa ∧ σ' 12 = (.int .i64 (((itF (nxF nx) n s : Nat) : Int))) ∧ σ' 31 = (.int .i64 (((nx).length : Int))) ∧ σ' 32 = (.int .i64 ((s : Int))) ∧ Cel H' p1 [(.int .i64 (st)), (.int .i64 (rc)), vt] ∧ Own eI H' u10 (nx) ∧ Own eI H' u14 (cyL nx) ∧ Own eI H' u16 ([(-1)]) ∧ Own eI H' vd (D0) ∧ Cel H' pd [vd] ∧ Own eI H' pa (pthL nx s n) ∧ Nw H pa ∧ Apart p1 pa ∧ Apart u10 pa ∧ Apart u14 pa ∧ Apart u16 pa ∧ Apart vd pa ∧ Apart pd pa ∧ Le H H' ∧ (∀ i, i < n → perN (nxF nx) nx.length (itF (nxF nx) i s) = 0),
    ⟨_, 0, rfl, by omega, u33, g6L30, g7L30, g8L30, g9L30, rfl, rfl, g31L30, g32L30, op1, ou10, ou14, ou16, ovd, opd, (Own.cast (by rfl) ou33), nu33, ap1Xu33, au10Xu33, au14Xu33, au16Xu33, avdXu33, apdXu33, lE, (fun i hi => by omega)⟩, ?_⟩
   rintro n54 σ54 H54 ⟨n, rfl, hnN, pa, g6L54, g7L54, g8L54, g9L54, g11L54, g12L54, g31L54, g32L54, op1, ou10, ou14, ou16, ovd, opd, opa, npa, ap1Xpa, au10Xpa, au14Xpa, au16Xpa, avdXpa, apdXpa, lE, hP⟩
   have hvt := hvt0.le lE
   try simp only [g6L54, g7L54, g8L54, g11L54, g12L54]
   have wl := itF_lt (nxF_lt hx) hs n
   have ptl := pthL_len (nx := nx) (s := s) (n := n)
   have hplt := path_lt hx hs hP
   refine ob_i (ou14.sl.ix (by omega) (by omega)) ?_
   refine ob_i (ou14.sl.ld 0 (by omega) (by omega)) ?_
   refine ob_i (vInt_eql _ _ _) ?_
   by_cases hc55 : (at_ 0 (cyL nx) (((itF (nxF nx) n s : Nat) : Int))) = 0
   ·skip
    refine gop_e (decide_eq_true hc55) ?_
    refine gop_rt ?_
    refine ob_i (opd.ld0 rfl) ?_
    refine gop_e (decide_eq_true hc55) ?_
    refine gop_rt ?_
    refine gop_e (decide_eq_true hc55) ?_
    refine gop_rt ?_
    refine ob_i (ovd.sl.ix (by omega) (by omega)) ?_
    refine gop_e (decide_eq_true hc55) ?_
    refine gop_rt ?_
    refine ob_i (ovd.sl.ld 0 (by omega) (by omega)) ?_
    refine gop_e (decide_eq_true hc55) ?_
    refine gop_rt ?_
    refine ob_i (vInt_lss _ _ _) ?_
    refine ob_i (vPick_et (decide_eq_true hc55) _ _) ?_
    refine cnd_d (fun hg56 => ?_) (fun hg56 => ?_)
    ·skip
     refine bS_i (enc := eI) (l := [((itF (nxF nx) n s : Nat) : Int)]) (by omega) rfl (by kernel_rfl) (fun u57 H58 ou57 nn59 le61 => ?_)
     replace op1 := op1.le le61
     replace ou10 := ou10.le le61
     replace ou14 := ou14.le le61
     replace ou16 := ou16.le le61
     replace ovd := ovd.le le61
     replace opd := opd.le le61
     replace opa := opa.le le61
     replace hvt := hvt.le le61
     replace lE := lE.trans le61
     refine apd_any opa ou57.sl (fun _ => rfl) (by omega) (by first | omega | (simp only [List.length_cons, List.length_nil]; omega)) (fun u65 H62 ou65 off63 hb64 => ?_)
     have ap1Xu65 : Apart p1 u65 := Apart.ap2 op1.known ap1Xpa hb64
     have au10Xu65 : Apart u10 u65 := Apart.ap2 ou10.known au10Xpa hb64
     have au14Xu65 : Apart u14 u65 := Apart.ap2 ou14.known au14Xpa hb64
     have au16Xu65 : Apart u16 u65 := Apart.ap2 ou16.known au16Xpa hb64
     have avdXu65 : Apart vd u65 := Apart.ap2 ovd.known avdXpa hb64
     have apdXu65 : Apart pd u65 := Apart.ap2 opd.known apdXpa hb64
     have nu65 : Nw H u65 := Nw.ap2 npa lE hb64
     replace op1 := op1.off off63 ap1Xpa
     replace ou10 := ou10.off off63 au10Xpa
     replace ou14 := ou14.off off63 au14Xpa
     replace ou16 := ou16.off off63 au16Xpa
     replace ovd := ovd.off off63 avdXpa
     replace opd := opd.off off63 apdXpa
     replace hvt := hvt0.le (off63.le lE npa)
     replace lE := off63.le lE npa
     refine ob_i (ou10.sl.ix (by omega) (by omega)) ?_
     refine ob_i (ou10.sl.ld 0 (by omega) (by omega)) ?_
     have hp1 := path_succ hP ((cy_ne wl).mp hc55)
     have hpl := path_lt hx hs hp1
     exact nxt (nx.length - (n + 1)) (by omega) ⟨n + 1, rfl, by omega, u65, g6L54, g7L54, g8L54, g9L54, rfl, (congrArg (Value.int .i64) (nxW_at hx hs n)), g31L54, g32L54, op1, ou10, ou14, ou16, ovd, opd, (Own.cast pthL_succ ou65), nu65, ap1Xu65, au10Xu65, au14Xu65, au16Xu65, avdXu65, apdXu65, lE, hp1⟩
    ·skip
     exact hJ38 _ _ ⟨pa, _, g6L54, g7L54, g8L54, g9L54, g11L54, g12L54, g31L54, g32L54, op1, ou10, ou14, ou16, ovd, opd, opa, npa, ap1Xpa, au10Xpa, au14Xpa, au16Xpa, avdXpa, apdXpa, lE, hP, (.inr hg56), (path_lt hx hs hP)⟩
   ·skip
    refine gop_e (decide_eq_false hc55) ?_
    refine gop_sf ?_
    refine gop_e (decide_eq_false hc55) ?_
    refine gop_sf ?_
    refine gop_e (decide_eq_false hc55) ?_
    refine gop_sf ?_
    refine gop_e (decide_eq_false hc55) ?_
    refine gop_sf ?_
    refine gop_e (decide_eq_false hc55) ?_
    refine gop_sf ?_
    refine ob_i (vPick_ef (decide_eq_false hc55) _ _) ?_
    refine cnd_f1 ?_
    exact hJ38 _ _ ⟨pa, _, g6L54, g7L54, g8L54, g9L54, g11L54, g12L54, g31L54, g32L54, op1, ou10, ou14, ou16, ovd, opd, opa, npa, ap1Xpa, au10Xpa, au14Xpa, au16Xpa, avdXpa, apdXpa, lE, hP, (.inl (fun g => hc55 ((cy_ne wl).mpr g))), (path_lt hx hs hP)⟩
  ·skip
   have ts := hg31
   obtain rfl : s = nx.length := by omega
   exact hJ29 _ _ ⟨(g9L30.trans (congrArg (Value.int .i64) (by first | omega | rfl | (simp; done)))), op1, ou10, ou14, ou16, opd, lE⟩
 ·skip
  refine cnd_t1 ?_
  skip
  have hok : ¬ (smlP st rc T n) := by assumption
  exact keq (K := K) (by rw [show ((selI (smlP st rc T n) (((mxD (nsL st rc T n) (nsL st rc T n).length : Nat) : Int))) : Int) = (0) from by first | (rw [hnx]; exact selI_t hok) | exact selI_t hok | exact selI_f hok]; rw [decide_eq_false (show ¬ (smlP st rc T n) from by exact hok)]) (hk   _    lE)
theorem C.spec_l00Max {a b : Int}  {H : Hp} {K : Value → Hp → Prop}
    (hk : K (.int .i64 (max a b)) H) : HT prg I.spec_l00Max [(.int .i64 (a)), (.int .i64 (b))].toArray H K := by
 have lE := Le.refl H
 refine R.spec_l00Max ?_
 unfold F.spec_l00Max
 refine ob_i (vInt_gtr _ _ _) ?_
 refine cnd_d (fun hg1 => ?_) (fun hg1 => ?_)
 ·skip
  skip
  exact keq (K := K) (by rw [show ((max a b) : Int) = (a) from by omega]) (hk )
 ·skip
  skip
  exact keq (K := K) (by rw [show ((max a b) : Int) = (b) from by omega]) (hk )
theorem dp_exitS {nx D : List Int} {w : Nat} (hw : w < nx.length) (hd : DpI nx 1 D) (h : perN (nxF nx) nx.length w ≠ 0 ∨ ¬ at_ 0 D (w : Int) = 0) : (at_ 0 (cyL nx) (w : Int) = 0 → at_ 0 D (w : Int) - 1 = ((dpF nx w : Nat) : Int)) ∧ (¬ at_ 0 (cyL nx) (w : Int) = 0 → 0 = ((dpF nx w : Nat) : Int)) := by
  refine ⟨fun g => ?_, fun g => ?_⟩
  · have g' := (cy_ne hw).mp g
    rcases h with h | h
    · exact absurd g' h
    · rcases hd.2 w hw with e | ⟨e, _⟩
      · omega
      · omega
  · rw [dpF_zero hw (fun g' => g ((cy_ne hw).mpr g'))]; rfl
theorem dpS_bnd {nx D : List Int} {w : Nat} (hx : nxP nx) (hw : w < nx.length) (hd : DpI nx 1 D) : 0 ≤ at_ 0 D (w : Int) ∧ at_ 0 D (w : Int) ≤ nx.length := by
  have := dpF_lt hx hw
  rcases hd.2 w hw with e | ⟨e, _⟩ <;> omega
theorem pth_backS {nx : List Int} {s n t : Nat} (ht : t < n) : at_ 0 (pthL nx s n) ((n : Int) - 1 - (t : Int)) = ((itF (nxF nx) (n - 1 - t) s : Nat) : Int) := by
  rw [show ((n : Int) - 1 - (t : Int)) = ((n - 1 - t : Nat) : Int) by omega]
  exact pthL_at (by omega)
theorem C.spec_DepthOf {vt : Value} {st rc n : Int} {T : List Int}  {H : Hp} {K : Value → Hp → Prop} (hvt0 : Sl eI H vt T) (k1 : T.length ≤ 9223372036854775807)
    (hk : ∀ H', Le H H' → K (.tuple #[(.int .i64 (selI (smlP st rc T n) (((mxD (nsL st rc T n) (nsL st rc T n).length : Nat) : Int)))), (.bool (decide (smlP st rc T n)))]) H') : HT prg I.spec_DepthOf [(.agg #[(.int .i64 (st)), (.int .i64 (rc)), vt]), (.int .i64 (n))].toArray H K := by
 have lE := Le.refl H
 have hvt := hvt0
 refine R.spec_DepthOf ?_
 unfold F.spec_DepthOf
 refine nw_i (fun p1 H2 op1 nn3 le4 => ?_)
 replace hvt := hvt.le le4
 replace lE := lE.trans le4
 replace op1 : Cel H2 p1 [(.int .i64 (st)), (.int .i64 (rc)), vt] := op1
 refine C.spec_l03Small op1 hvt (by first | omega | assumption) (fun   H5    le6 => ?_)
 replace op1 := op1.le le6
 replace hvt := hvt.le le6
 replace lE := lE.trans le6
 refine ob_nd (fun hc7 => ?_) (fun hc7 => ?_)
 ·skip
  refine cnd_f1 ?_
  refine C.spec_l03Steps op1 hvt (by first | omega | assumption) (fun  u10 H8 ou10 nn11  le9 => ?_)
  replace op1 := op1.le le9
  replace hvt := hvt.le le9
  replace lE := lE.trans le9
  obtain ⟨nx, hnx⟩ : ∃ x : List Int, x = nsL st rc T n := ⟨_, rfl⟩
  rw [← hnx] at ou10
  have hx : nxP nx := by rw [hnx]; exact nsL_nx (by assumption)
  have hnl : nx.length = (pwr st n).toNat := by rw [hnx]; exact nsL_len
  have hpw := sml_pw (st := st) (rc := rc) (T := T) (n := n) (by assumption)
  have hcl := cyL_len nx
  refine C.spec_l03Cycles ou10.sl (by first | omega | assumption) (by first | omega | assumption) (fun  u14 H12 ou14 nn15  le13 => ?_)
  replace op1 := op1.le le13
  replace ou10 := ou10.le le13
  replace hvt := hvt.le le13
  replace lE := lE.trans le13
  refine ob_i (ou10.len) ?_
  refine Own.mk_ (z := (0 : Int)) (by omega) (by omega) (by omega) (by omega) (fun vd H16 ovd nn17 le18 => ?_)
  have ap1Xvd : Apart p1 vd := op1.apart nn17
  have au10Xvd : Apart u10 vd := ou10.apart nn17
  have au14Xvd : Apart u14 vd := ou14.apart nn17
  have nvd : Nw H vd := nn17.le lE
  replace op1 := op1.le le18
  replace ou10 := ou10.le le18
  replace ou14 := ou14.le le18
  replace hvt := hvt.le le18
  replace lE := lE.trans le18
  refine jn_i (fun σ' H' => σ' 9 = (.int .i64 (((mxD nx nx.length : Nat) : Int))) ∧ Cel H' p1 [(.int .i64 (st)), (.int .i64 (rc)), vt] ∧ Own eI H' u10 (nx) ∧ Own eI H' u14 (cyL nx) ∧ Le H H') (fun σ19 H19 hP => ?_) (fun J19 hJ19 => ?_)
  ·skip
   obtain ⟨g9L19, op1, ou10, ou14, lE⟩ := hP
   try simp only [g9L19]
   skip
   have hok : smlP st rc T n := by assumption
   exact keq (K := K) (by rw [show ((selI (smlP st rc T n) (((mxD (nsL st rc T n) (nsL st rc T n).length : Nat) : Int))) : Int) = (((mxD nx nx.length : Nat) : Int)) from by first | (rw [hnx]; exact selI_t hok) | exact selI_t hok | exact selI_f hok]; rw [decide_eq_true (show (smlP st rc T n) from by exact hok)]) (hk   _    lE)
  refine ob_i (ou10.len) ?_
  refine ⟨fun n' σ' H' => ∃ s : Nat, n' = nx.length - s ∧ s ≤ nx.length ∧ ∃ D0, σ' 6 = u10 ∧ σ' 7 = u14 ∧ σ' 8 = vd ∧ σ' 9 = (.int .i64 (((mxD nx s : Nat) : Int))) ∧ σ' 26 = (.int .i64 (((nx).length : Int))) ∧ σ' 27 = (.int .i64 ((s : Int))) ∧ Cel H' p1 [(.int .i64 (st)), (.int .i64 (rc)), vt] ∧ Own eI H' u10 (nx) ∧ Own eI H' u14 (cyL nx) ∧ Own eI H' vd (D0) ∧ Le H H' ∧ DpI nx (1) D0,
   ⟨_, 0, rfl, by omega, _, rfl, rfl, rfl, rfl, rfl, (congrArg (Value.int .i64) (by first | omega | rfl | (simp; done))), op1, ou10, ou14, by simpa using ovd, lE, (DpI.start (by omega) rfl)⟩, ?_⟩
  rintro n20 σ20 H20 ⟨s, rfl, hsN, D0, g6L20, g7L20, g8L20, g9L20, g26L20, g27L20, op1, ou10, ou14, ovd, lE, hD⟩
  have hvt := hvt0.le lE
  try simp only [g26L20, g27L20]
  have hDl := hD.1
  have hml := mxD_le hx (s := s) (by omega)
  refine ob_i (vInt_lss _ _ _) ?_
  refine cnd_d (fun hg21 => ?_) (fun hg21 => ?_)
  ·skip
   have ts := hg21
   have hs : s < nx.length := by omega
   refine jn_i (fun σ' H' => ∃ D1, σ' 6 = u10 ∧ σ' 7 = u14 ∧ σ' 8 = vd ∧ σ' 9 = (.int .i64 (((mxD nx (s + 1) : Nat) : Int))) ∧ σ' 26 = (.int .i64 (((nx).length : Int))) ∧ σ' 27 = (.int .i64 ((s : Int))) ∧ Cel H' p1 [(.int .i64 (st)), (.int .i64 (rc)), vt] ∧ Own eI H' u10 (nx) ∧ Own eI H' u14 (cyL nx) ∧ Own eI H' vd (D1) ∧ Le H H' ∧ DpI nx (1) D1) (fun σ22 H22 hP => ?_) (fun J22 hJ22 => ?_)
   ·skip
    obtain ⟨D1, g6L22, g7L22, g8L22, g9L22, g26L22, g27L22, op1, ou10, ou14, ovd, lE, hD1⟩ := hP
    try simp only [g27L22]
    refine ob_i (vInt_add (by omega) (by omega)) ?_
    exact nxt (nx.length - (s + 1)) (by omega) ⟨s + 1, rfl, by omega, D1, g6L22, g7L22, g8L22, (g9L22.trans (congrArg (Value.int .i64) (by first | omega | rfl | (simp; done)))), g26L22, (congrArg (Value.int .i64) (by first | omega | rfl | (simp; done))), op1, ou10, ou14, ovd, lE, hD1⟩
   refine bS_nil (enc := eI) (fun u23 H24 ou23 nn25 kk26 le27 => ?_)
   have ap1Xu23 : Apart p1 u23 := op1.apart nn25
   have au10Xu23 : Apart u10 u23 := ou10.apart nn25
   have au14Xu23 : Apart u14 u23 := ou14.apart nn25
   have avdXu23 : Apart vd u23 := ovd.apart nn25
   have nu23 : Nw H u23 := nn25.le lE
   replace op1 := op1.le le27
   replace ou10 := ou10.le le27
   replace ou14 := ou14.le le27
   replace ovd := ovd.le le27
   replace hvt := hvt.le le27
   replace lE := lE.trans le27
   refine jn_i (fun σ' H' => ∃ pa, ∃ n, σ' 6 = u10 ∧ σ' 7 = u14 ∧ σ' 8 = vd ∧ σ' 9 = (.int .i64 (((mxD nx s : Nat) : Int))) ∧ σ' 11 = pa ∧ σ' 12 = (.int .i64 (((itF (nxF nx) n s : Nat) : Int))) ∧ σ' 26 = (.int .i64 (((nx).length : Int))) ∧ σ' 27 = (.int .i64 ((s : Int))) ∧ Cel H' p1 [(.int .i64 (st)), (.int .i64 (rc)), vt] ∧ Own eI H' u10 (nx) ∧ Own eI H' u14 (cyL nx) ∧ Own eI H' vd (D0) ∧ Own eI H' pa (pthL nx s n) ∧ Nw H pa ∧ Apart p1 pa ∧ Apart u10 pa ∧ Apart u14 pa ∧ Apart vd pa ∧ Le H H' ∧ (∀ i, i < n → perN (nxF nx) nx.length (itF (nxF nx) i s) = 0) ∧ (perN (nxF nx) nx.length (itF (nxF nx) n s) ≠ 0 ∨ ¬ at_ 0 D0 ((itF (nxF nx) n s : Nat) : Int) = 0) ∧ n < nx.length) (fun σ28 H28 hP => ?_) (fun J28 hJ28 => ?_)
   ·skip
    obtain ⟨pa, n, g6L28, g7L28, g8L28, g9L28, g11L28, g12L28, g26L28, g27L28, op1, ou10, ou14, ovd, opa, npa, ap1Xpa, au10Xpa, au14Xpa, avdXpa, lE, hP, hE, hnN⟩ := hP
    have hvt := hvt0.le lE
    try simp only [g7L28, g8L28, g12L28]
    have wl := itF_lt (nxF_lt hx) hs n
    have ptl := pthL_len (nx := nx) (s := s) (n := n)
    have hdw := dpF_walk hx hs hP
    have hdl := dpF_lt hx hs
    have hdl2 := dpF_lt hx wl
    have hms := mxD_succ (nx := nx) (s := s)
    have hdx := dp_exitS wl hD hE
    have hdb := dpS_bnd hx wl hD
    refine jn_i (fun σ' H' => σ' 6 = u10 ∧ σ' 7 = u14 ∧ σ' 8 = vd ∧ σ' 9 = (.int .i64 (((mxD nx s : Nat) : Int))) ∧ σ' 11 = pa ∧ σ' 13 = (.int .i64 (((dpF nx (itF (nxF nx) n s) : Nat) : Int))) ∧ σ' 26 = (.int .i64 (((nx).length : Int))) ∧ σ' 27 = (.int .i64 ((s : Int))) ∧ Cel H' p1 [(.int .i64 (st)), (.int .i64 (rc)), vt] ∧ Own eI H' u10 (nx) ∧ Own eI H' u14 (cyL nx) ∧ Own eI H' vd (D0) ∧ Own eI H' pa (pthL nx s n) ∧ Le H H') (fun σ29 H29 hP => ?_) (fun J29 hJ29 => ?_)
    ·skip
     obtain ⟨g6L29, g7L29, g8L29, g9L29, g11L29, g13L29, g26L29, g27L29, op1, ou10, ou14, ovd, opa, lE⟩ := hP
     have hvt := hvt0.le lE
     try simp only [g11L29]
     refine jn_i (fun σ' H' => ∃ D2, σ' 6 = u10 ∧ σ' 7 = u14 ∧ σ' 8 = vd ∧ σ' 9 = (.int .i64 (((mxD nx s : Nat) : Int))) ∧ σ' 13 = (.int .i64 (((dpF nx s : Nat) : Int))) ∧ σ' 26 = (.int .i64 (((nx).length : Int))) ∧ σ' 27 = (.int .i64 ((s : Int))) ∧ Cel H' p1 [(.int .i64 (st)), (.int .i64 (rc)), vt] ∧ Own eI H' u10 (nx) ∧ Own eI H' u14 (cyL nx) ∧ Own eI H' vd (D2) ∧ Own eI H' pa (pthL nx s n) ∧ Le H H' ∧ DpI nx (1) D2) (fun σ30 H30 hP => ?_) (fun J30 hJ30 => ?_)
     ·skip
      obtain ⟨D2, g6L30, g7L30, g8L30, g9L30, g13L30, g26L30, g27L30, op1, ou10, ou14, ovd, opa, lE, hD2⟩ := hP
      try simp only [g9L30, g13L30]
      refine C.spec_l00Max  ?_
      exact hJ22 _ _ ⟨_, g6L30, g7L30, g8L30, (congrArg (Value.int .i64) (by omega)), g26L30, g27L30, op1, ou10, ou14, ovd, lE, hD2⟩
     refine ob_i (opa.len) ?_
     refine ob_i (vInt_sub (by omega) (by omega)) ?_
     refine ⟨fun n' σ' H' => ∃ t : Nat, n' = n - t ∧ t ≤ n ∧ ∃ D2, σ' 6 = u10 ∧ σ' 7 = u14 ∧ σ' 8 = vd ∧ σ' 9 = (.int .i64 (((mxD nx s : Nat) : Int))) ∧ σ' 11 = pa ∧ σ' 13 = (.int .i64 (((dpF nx (itF (nxF nx) n s) : Nat) : Int) + (t : Int))) ∧ σ' 14 = (.int .i64 ((n : Int) - 1 - (t : Int))) ∧ σ' 26 = (.int .i64 (((nx).length : Int))) ∧ σ' 27 = (.int .i64 ((s : Int))) ∧ Cel H' p1 [(.int .i64 (st)), (.int .i64 (rc)), vt] ∧ Own eI H' u10 (nx) ∧ Own eI H' u14 (cyL nx) ∧ Own eI H' vd (D2) ∧ Own eI H' pa (pthL nx s n) ∧ Le H H' ∧ DpI nx (1) D2,
      ⟨_, 0, rfl, by omega, _, g6L29, g7L29, g8L29, g9L29, g11L29, (g13L29.trans (congrArg (Value.int .i64) (by omega))), (congrArg (Value.int .i64) (by first | omega | rfl | (simp; done))), g26L29, g27L29, op1, ou10, ou14, by simpa using ovd, opa, lE, hD⟩, ?_⟩
     rintro n31 σ31 H31 ⟨t, rfl, htN, D2, g6L31, g7L31, g8L31, g9L31, g11L31, g13L31, g14L31, g26L31, g27L31, op1, ou10, ou14, ovd, opa, lE, hD2⟩
     have hvt := hvt0.le lE
     try simp only [g8L31, g11L31, g13L31, g14L31]
     have hD2l := hD2.1
     have wk := itF_lt (nxF_lt hx) hs (n - 1 - t)
     refine ob_i (vInt_geq _ _ _) ?_
     refine cnd_d (fun hg32 => ?_) (fun hg32 => ?_)
     ·skip
      have tt := hg32
      have pk := pth_backS (nx := nx) (s := s) (n := n) (t := t) (by omega)
      refine ob_i (vInt_add (by omega) (by omega)) ?_
      refine ob_i (opa.sl.ix (by omega) (by omega)) ?_
      refine ob_i (opa.sl.ld 0 (by omega) (by omega)) ?_
      refine ob_i (vInt_add (by omega) (by omega)) ?_
      refine ob_i (ovd.sl.ix (by omega) (by omega)) ?_
      refine ovd.st (x := ((((dpF nx (itF (nxF nx) n s) : Nat) : Int) + (t : Int)) + 1) + 1) (by omega) (by omega) rfl rfl (fun H33 ovd off34 => ?_)
      replace op1 := op1.off off34 ap1Xvd
      replace ou10 := ou10.off off34 au10Xvd
      replace ou14 := ou14.off off34 au14Xvd
      replace opa := opa.off off34 avdXpa.symm
      replace hvt := hvt0.le (off34.le lE nvd)
      replace lE := off34.le lE nvd
      refine ob_i (vInt_sub (by omega) (by omega)) ?_
      exact nxt (n - (t + 1)) (by omega) ⟨t + 1, rfl, by omega, ((D2).set (at_ 0 (pthL nx s n) ((n : Int) - 1 - (t : Int))).toNat (((((dpF nx (itF (nxF nx) n s) : Nat) : Int) + (t : Int)) + 1) + 1)), g6L31, g7L31, g8L31, g9L31, g11L31, (congrArg (Value.int .i64) (by first | omega | rfl | (simp; done))), (congrArg (Value.int .i64) (by first | omega | rfl | (simp; done))), g26L31, g27L31, op1, ou10, ou14, ovd, opa, lE, (DpI.next (t := t) hx hs hP (by omega) hD2 (by omega) (by omega))⟩
     ·skip
      have tt := hg32
      exact hJ30 _ _ ⟨_, g6L31, g7L31, g8L31, g9L31, (g13L31.trans (congrArg (Value.int .i64) (by first | omega | rfl | (simp; done)))), g26L31, g27L31, op1, ou10, ou14, ovd, opa, lE, hD2⟩
    refine ob_i (ou14.sl.ix (by omega) (by omega)) ?_
    refine ob_i (ou14.sl.ld 0 (by omega) (by omega)) ?_
    refine ob_i (vInt_eql _ _ _) ?_
    refine cnd_d (fun hg35 => ?_) (fun hg35 => ?_)
    ·skip
     refine ob_i (ovd.sl.ix (by omega) (by omega)) ?_
     refine ob_i (ovd.sl.ld 0 (by omega) (by omega)) ?_
     refine ob_i (vInt_sub (by omega) (by omega)) ?_
     exact hJ29 _ _ ⟨g6L28, g7L28, g8L28, g9L28, g11L28, (congrArg (Value.int .i64) (hdx.1 hg35)), g26L28, g27L28, op1, ou10, ou14, ovd, opa, lE⟩
    ·skip
     exact hJ29 _ _ ⟨g6L28, g7L28, g8L28, g9L28, g11L28, (congrArg (Value.int .i64) (hdx.2 hg35)), g26L28, g27L28, op1, ou10, ou14, ovd, opa, lE⟩
   refine ⟨fun n' σ' H' => ∃ n : Nat, n' = nx.length - n ∧ n ≤ nx.length ∧ ∃ pa, σ' 6 = u10 ∧ σ' 7 = u14 ∧ σ' 8 = vd ∧ σ' 9 = (.int .i64 (((mxD nx s : Nat) : Int))) ∧ σ' 11 = pa ∧ σ' 12 = (.int .i64 (((itF (nxF nx) n s : Nat) : Int))) ∧ σ' 26 = (.int .i64 (((nx).length : Int))) ∧ σ' 27 = (.int .i64 ((s : Int))) ∧ Cel H' p1 [(.int .i64 (st)), (.int .i64 (rc)), vt] ∧ Own eI H' u10 (nx) ∧ Own eI H' u14 (cyL nx) ∧ Own eI H' vd (D0) ∧ Own eI H' pa (pthL nx s n) ∧ Nw H pa ∧ Apart p1 pa ∧ Apart u10 pa ∧ Apart u14 pa ∧ Apart vd pa ∧ Le H H' ∧ (∀ i, i < n → perN (nxF nx) nx.length (itF (nxF nx) i s) = 0),
    ⟨_, 0, rfl, by omega, u23, g6L20, g7L20, g8L20, g9L20, rfl, rfl, g26L20, g27L20, op1, ou10, ou14, ovd, (Own.cast (by rfl) ou23), nu23, ap1Xu23, au10Xu23, au14Xu23, avdXu23, lE, (fun i hi => by omega)⟩, ?_⟩
   rintro n36 σ36 H36 ⟨n, rfl, hnN, pa, g6L36, g7L36, g8L36, g9L36, g11L36, g12L36, g26L36, g27L36, op1, ou10, ou14, ovd, opa, npa, ap1Xpa, au10Xpa, au14Xpa, avdXpa, lE, hP⟩
   have hvt := hvt0.le lE
   try simp only [g6L36, g7L36, g8L36, g11L36, g12L36]
   have wl := itF_lt (nxF_lt hx) hs n
   have ptl := pthL_len (nx := nx) (s := s) (n := n)
   have hplt := path_lt hx hs hP
   refine ob_i (ou14.sl.ix (by omega) (by omega)) ?_
   refine ob_i (ou14.sl.ld 0 (by omega) (by omega)) ?_
   refine ob_i (vInt_eql _ _ _) ?_
   by_cases hc37 : (at_ 0 (cyL nx) (((itF (nxF nx) n s : Nat) : Int))) = 0
   ·skip
    refine gop_e (decide_eq_true hc37) ?_
    refine gop_rt ?_
    refine gop_e (decide_eq_true hc37) ?_
    refine gop_rt ?_
    refine gop_e (decide_eq_true hc37) ?_
    refine gop_rt ?_
    refine ob_i (ovd.sl.ix (by omega) (by omega)) ?_
    refine gop_e (decide_eq_true hc37) ?_
    refine gop_rt ?_
    refine ob_i (ovd.sl.ld 0 (by omega) (by omega)) ?_
    refine gop_e (decide_eq_true hc37) ?_
    refine gop_rt ?_
    refine ob_i (vInt_eql _ _ _) ?_
    refine ob_i (vPick_et (decide_eq_true hc37) _ _) ?_
    refine cnd_d (fun hg38 => ?_) (fun hg38 => ?_)
    ·skip
     refine bS_i (enc := eI) (l := [((itF (nxF nx) n s : Nat) : Int)]) (by omega) rfl (by kernel_rfl) (fun u39 H40 ou39 nn41 le43 => ?_)
     replace op1 := op1.le le43
     replace ou10 := ou10.le le43
     replace ou14 := ou14.le le43
     replace ovd := ovd.le le43
     replace opa := opa.le le43
     replace hvt := hvt.le le43
     replace lE := lE.trans le43
     refine apd_any opa ou39.sl (fun _ => rfl) (by omega) (by first | omega | (simp only [List.length_cons, List.length_nil]; omega)) (fun u47 H44 ou47 off45 hb46 => ?_)
     have ap1Xu47 : Apart p1 u47 := Apart.ap2 op1.known ap1Xpa hb46
     have au10Xu47 : Apart u10 u47 := Apart.ap2 ou10.known au10Xpa hb46
     have au14Xu47 : Apart u14 u47 := Apart.ap2 ou14.known au14Xpa hb46
     have avdXu47 : Apart vd u47 := Apart.ap2 ovd.known avdXpa hb46
     have nu47 : Nw H u47 := Nw.ap2 npa lE hb46
     replace op1 := op1.off off45 ap1Xpa
     replace ou10 := ou10.off off45 au10Xpa
     replace ou14 := ou14.off off45 au14Xpa
     replace ovd := ovd.off off45 avdXpa
     replace hvt := hvt0.le (off45.le lE npa)
     replace lE := off45.le lE npa
     refine ob_i (ou10.sl.ix (by omega) (by omega)) ?_
     refine ob_i (ou10.sl.ld 0 (by omega) (by omega)) ?_
     have hp1 := path_succ hP ((cy_ne wl).mp hc37)
     have hpl := path_lt hx hs hp1
     exact nxt (nx.length - (n + 1)) (by omega) ⟨n + 1, rfl, by omega, u47, g6L36, g7L36, g8L36, g9L36, rfl, (congrArg (Value.int .i64) (nxW_at hx hs n)), g26L36, g27L36, op1, ou10, ou14, ovd, (Own.cast pthL_succ ou47), nu47, ap1Xu47, au10Xu47, au14Xu47, avdXu47, lE, hp1⟩
    ·skip
     exact hJ28 _ _ ⟨pa, _, g6L36, g7L36, g8L36, g9L36, g11L36, g12L36, g26L36, g27L36, op1, ou10, ou14, ovd, opa, npa, ap1Xpa, au10Xpa, au14Xpa, avdXpa, lE, hP, (.inr hg38), (path_lt hx hs hP)⟩
   ·skip
    refine gop_e (decide_eq_false hc37) ?_
    refine gop_sf ?_
    refine gop_e (decide_eq_false hc37) ?_
    refine gop_sf ?_
    refine gop_e (decide_eq_false hc37) ?_
    refine gop_sf ?_
    refine gop_e (decide_eq_false hc37) ?_
    refine gop_sf ?_
    refine gop_e (decide_eq_false hc37) ?_
    refine gop_sf ?_
    refine ob_i (vPick_ef (decide_eq_false hc37) _ _) ?_
    refine cnd_f1 ?_
    exact hJ28 _ _ ⟨pa, _, g6L36, g7L36, g8L36, g9L36, g11L36, g12L36, g26L36, g27L36, op1, ou10, ou14, ovd, opa, npa, ap1Xpa, au10Xpa, au14Xpa, avdXpa, lE, hP, (.inl (fun g => hc37 ((cy_ne wl).mpr g))), (path_lt hx hs hP)⟩
  ·skip
   have ts := hg21
   obtain rfl : s = nx.length := by omega
   exact hJ19 _ _ ⟨(g9L20.trans (congrArg (Value.int .i64) (by first | omega | rfl | (simp; done)))), op1, ou10, ou14, lE⟩
 ·skip
  refine cnd_t1 ?_
  skip
  have hok : ¬ (smlP st rc T n) := by assumption
  exact keq (K := K) (by rw [show ((selI (smlP st rc T n) (((mxD (nsL st rc T n) (nsL st rc T n).length : Nat) : Int))) : Int) = (0) from by first | (rw [hnx]; exact selI_t hok) | exact selI_t hok | exact selI_f hok]; rw [decide_eq_false (show ¬ (smlP st rc T n) from by exact hok)]) (hk   _    lE)
end Go.Proofs.Ythmdmbbdjbhcoaa
/- What the small functions of structs come to: copies, sizes, what is alike. -/
namespace Go.Proofs.Ythmdmbbdjbhcoaa
open HL
set_option maxRecDepth 100000
theorem C.laws_toRule {xa : Int} {xb : Int} {xc : Value} {sxc : List Int} {H : Hp} {K : Value → Hp → Prop} (hxc0 : Sl eI H xc sxc) (msxc : (sxc).length ≤ 17592186044416)
    (hk : ∀ uc H', Own eI H' uc sxc → Nw H uc → Le H H' → K (.agg #[(.int .i64 (xa)), (.int .i64 (xb)), uc]) H') : HT prg I.laws_toRule [(.agg #[(.int .i64 (xa)), (.int .i64 (xb)), xc])].toArray H K := by
 have lE := Le.refl H
 have hxc := hxc0
 refine R.laws_toRule ?_
 unfold F.laws_toRule
 refine nw_i (fun p1 H2 op1 nn3 le4 => ?_)
 replace hxc := hxc.le le4
 replace lE := lE.trans le4
 replace op1 : Cel H2 p1 [(.int .i64 (xa)), (.int .i64 (xb)), xc] := op1
 refine nw_i (fun p5 H6 op5 nn7 le8 => ?_)
 have np5 : Nw H p5 := nn7.le lE
 replace op1 := op1.le le8
 replace hxc := hxc.le le8
 replace lE := lE.trans le8
 replace op5 : Cel H6 p5 [(.int .i64 (0)), (.int .i64 (0)), (.slice none 0 0)] := op5
 refine nw_i (fun p9 H10 op9 nn11 le12 => ?_)
 have ap1Xp9 : Apart p1 p9 := op1.apart nn11
 have ap5Xp9 : Apart p5 p9 := op5.apart nn11
 have np9 : Nw H p9 := nn11.le lE
 replace op1 := op1.le le12
 replace op5 := op5.le le12
 replace hxc := hxc.le le12
 replace lE := lE.trans le12
 replace op9 : Cel H10 p9 [(.int .i64 (0)), (.int .i64 (0)), (.slice none 0 0)] := op9
 refine ob_i (op1.fa 0) ?_
 refine ob_i (op1.ld 0 rfl) ?_
 refine ob_i (op9.fa 0) ?_
 refine op9.st (by simp) rfl rfl (fun H13 op9 off14 => ?_)
 replace op1 := op1.off off14 ap1Xp9
 replace op5 := op5.off off14 ap5Xp9
 replace hxc := hxc0.le (off14.le lE np9)
 replace lE := off14.le lE np9
 replace op9 : Cel H13 p9 [(.int .i64 (xa)), (.int .i64 (0)), (.slice none 0 0)] := op9
 refine ob_i (op1.fa 1) ?_
 refine ob_i (op1.ld 1 rfl) ?_
 refine ob_i (op9.fa 1) ?_
 refine op9.st (by simp) rfl rfl (fun H15 op9 off16 => ?_)
 replace op1 := op1.off off16 ap1Xp9
 replace op5 := op5.off off16 ap5Xp9
 replace hxc := hxc0.le (off16.le lE np9)
 replace lE := off16.le lE np9
 replace op9 : Cel H15 p9 [(.int .i64 (xa)), (.int .i64 (xb)), (.slice none 0 0)] := op9
 refine ob_i (op1.fa 2) ?_
 refine ob_i (op1.ld 2 rfl) ?_
 refine C.laws_toInt64S hxc (by omega) (fun u17 H18 ou17 nn19 le20 => ?_)
 have ap5Xu17 : Apart p5 u17 := op5.apart nn19
 have ap9Xu17 : Apart p9 u17 := op9.apart nn19
 have nu17 : Nw H u17 := nn19.le lE
 replace op5 := op5.le le20
 replace op9 := op9.le le20
 replace hxc := hxc.le le20
 replace lE := lE.trans le20
 refine ob_i (op9.fa 2) ?_
 refine op9.st (by simp) ou17.one ou17.cells (fun H21 op9 off22 => ?_)
 replace op5 := op5.off off22 ap5Xp9
 replace ou17 := ou17.off off22 ap9Xu17.symm
 replace hxc := hxc0.le (off22.le lE np9)
 replace lE := off22.le lE np9
 replace op9 : Cel H21 p9 [(.int .i64 (xa)), (.int .i64 (xb)), u17] := op9
 refine ob_i (op9.ldn rfl) ?_
 refine op5.stn (ws := [(.int .i64 (xa)), (.int .i64 (xb)), u17]) rfl rfl (oc1 rfl (oc1 rfl (oc1 ou17.one oc0))) (fun H23 op5 off24 => ?_)
 replace ou17 := ou17.off off24 ap5Xu17.symm
 replace hxc := hxc0.le (off24.le lE np5)
 replace lE := off24.le lE np5
 replace op5 : Cel H23 p5 [(.int .i64 (xa)), (.int .i64 (xb)), u17] := op5
 refine ob_i (op5.ldn rfl) ?_
 exact hk u17 _ ou17 nu17  lE

theorem C.laws_szRule {xa : Int} {xb : Int} {xc : Value} {sxc : List Int} {k : Int} {H : Hp} {K : Value → Hp → Prop} (hxc0 : Sl eI H xc sxc) (msxc : (sxc).length ≤ 9223372036854775807) (hk0 : 0 ≤ k) (hk1 : k < 9223372036854775808) (h1 : ∀ H', Le H H' → K (.int .i64 (-1)) H')
    (h2 : ∀ H', Le H H' → 0 ≤ k - (sxc).length → K (.int .i64 (k - (sxc).length)) H') : HT prg I.laws_szRule [(.agg #[(.int .i64 (xa)), (.int .i64 (xb)), xc]), .int .i64 k].toArray H K := by
 have lE := Le.refl H
 have hxc := hxc0
 refine R.laws_szRule ?_
 unfold F.laws_szRule
 refine nw_i (fun p1 H2 op1 nn3 le4 => ?_)
 replace hxc := hxc.le le4
 replace lE := lE.trans le4
 replace op1 : Cel H2 p1 [(.int .i64 (xa)), (.int .i64 (xb)), xc] := op1
 refine ob_i (op1.fa 2) ?_
 refine ob_i (op1.ld 2 rfl) ?_
 refine C.laws_szInt64S hxc.len (by omega) (by omega) (fun hz5 => ?_) (fun hz5 => ?_)
 ·skip
  refine ob_i (vInt_lss_t (by omega)) ?_
  refine cnd_t1 ?_
  exact h1 _ lE
 refine ob_i (vInt_lss_f (by omega)) ?_
 refine cnd_f1 ?_
 exact h2 _ lE (by omega)

theorem C.laws_eqRule {xa : Int} {xb : Int} {xc : Value} {sxc : List Int} {yc : Value} {H : Hp} {K : Value → Hp → Prop} (hxc0 : Sl eI H xc sxc) (hyc0 : Sl eI H yc sxc) (msxc : (sxc).length ≤ 9223372036854775807)
    (hk : ∀ H', Le H H' → K (.bool true) H') : HT prg I.laws_eqRule [(.agg #[(.int .i64 (xa)), (.int .i64 (xb)), xc]), (.agg #[(.int .i64 (xa)), (.int .i64 (xb)), yc])].toArray H K := by
 have lE := Le.refl H
 have hxc := hxc0
 have hyc := hyc0
 refine R.laws_eqRule ?_
 unfold F.laws_eqRule
 refine nw_i (fun p1 H2 op1 nn3 le4 => ?_)
 replace hxc := hxc.le le4
 replace hyc := hyc.le le4
 replace lE := lE.trans le4
 replace op1 : Cel H2 p1 [(.int .i64 (xa)), (.int .i64 (xb)), xc] := op1
 refine nw_i (fun p5 H6 op5 nn7 le8 => ?_)
 replace op1 := op1.le le8
 replace hxc := hxc.le le8
 replace hyc := hyc.le le8
 replace lE := lE.trans le8
 replace op5 : Cel H6 p5 [(.int .i64 (xa)), (.int .i64 (xb)), yc] := op5
 refine ob_i (op1.fa 0) ?_
 refine ob_i (op1.ld 0 rfl) ?_
 refine ob_i (op5.fa 0) ?_
 refine ob_i (op5.ld 0 rfl) ?_
 refine ob_i (vInt_neq_same _ _) ?_
 refine cnd_f1 ?_
 refine ob_i (op1.fa 1) ?_
 refine ob_i (op1.ld 1 rfl) ?_
 refine ob_i (op5.fa 1) ?_
 refine ob_i (op5.ld 1 rfl) ?_
 refine ob_i (vInt_neq_same _ _) ?_
 refine cnd_f1 ?_
 refine ob_i (op1.fa 2) ?_
 refine ob_i (op1.ld 2 rfl) ?_
 refine ob_i (op5.fa 2) ?_
 refine ob_i (op5.ld 2 rfl) ?_
 refine C.laws_eqInt64S hxc hyc (by omega) ?_
 rw [decide_eq_true rfl]
 refine ob_i (a := .bool false) rfl ?_
 refine cnd_f1 ?_
 exact hk _ lE
end Go.Proofs.Ythmdmbbdjbhcoaa
/- From a contract over a whole heap to a call's end: what the statement asks. -/
namespace Go.Proofs.Ythmdmbbdjbhcoaa.HL
open Go.RowKit
/-- All of a world's blocks. -/
def whole (W : World) : Hp := fun b => W.heap[b]?
theorem whole_sub (W : World) : Sub (whole W) W := fun _ _ h => h

theorem calls_true {P : Program} {f : FuncId} {args : Array Value} {W : World} (h : HT P f args (whole W) (fun v H' => v = .bool true ∧ Le (whole W) H')) :
    Calls P f args W (fun e W' => e = .returned (.bool true) ∧ Below W.heap.size W W') := by
  refine (h W (whole_sub W)).mono ?_
  rintro e W' ⟨v, H', rfl, hs, fr, rfl, hle⟩
  refine ⟨rfl, fr.os, fr.tape, fr.output, fr.size, fun k hk => ?_⟩
  have h1 : whole W k = some W.heap[k] := by unfold whole; exact Array.getElem?_eq_getElem hk
  have h2 := hs k _ (hle k _ h1)
  rw [h2, Array.getElem?_eq_getElem hk]

theorem addr_zero (a : Addr) : a.add 0 = a := by unfold Addr.add; simp
theorem list_of {α : Type} : ∀ (n : Nat) (Q : Nat → α → Prop), (∀ i, i < n → ∃ b, Q i b) → ∃ l : List α, l.length = n ∧ ∀ i (h : i < l.length), Q i l[i]
  | 0, _, _ => ⟨[], rfl, fun i h => absurd h (by simp)⟩
  | n + 1, Q, h => by
    obtain ⟨l, hl, hq⟩ := list_of n Q (fun i hi => h i (by omega))
    obtain ⟨b, hb⟩ := h n (by omega)
    refine ⟨l ++ [b], by simp [hl], fun i hi => ?_⟩
    by_cases e : i < l.length
    · rw [List.getElem_append_left e]; exact hq i e
    · have : i = l.length := by simp at hi; omega
      subst this
      rw [List.getElem_append_right (by omega)]
      simp only [Nat.sub_self, List.getElem_cons_zero]
      rw [hl]; exact hb
theorem arr3 {α : Type} {a : Array α} (h : a.size = 3) : ∃ x0 x1 x2, a = #[x0, x1, x2] := by
  obtain ⟨l⟩ := a
  match l, h with
  | [x0, x1, x2], _ => exact ⟨x0, x1, x2, rfl⟩
theorem int_wf {n : Int} (h : (Lit.int .i64 n).wf = true) : -9223372036854775808 ≤ n ∧ n < 9223372036854775808 := by
  unfold Lit.wf at h
  simp [IntKind.min, IntKind.max, IntKind.signed, IntKind.bits] at h
  omega
open Go.ChangeShapes Go.WideShapes Go.ChangeAt in
theorem sl_of_elems {α B : Type} {en : α → Value} {Pr : α → Prop} {enc : TypeId × Value → B} {P : Program} {W : World} {base : Nat} {sp : Nat → Bool} {held : Bool} {t e : TypeId} {fuel : Nat} {cs : List Value} {x : DataW B × List MemPlace}
    (ht : P.underlying t = some (.slice e)) (hc : P.cellsOf e = 1) (each : ∀ n v y, DataW.trod enc P W base sp held n e [v] = some y → ∃ a, v = en a ∧ Pr a)
    (h : DataW.trod enc P W base sp held fuel t cs = some x) : ∃ v l, cs = [v] ∧ Sl en (whole W) v l ∧ l.length ≤ 9223372036854775807 ∧ ∀ a ∈ l, Pr a := by
  rcases DataW.trod_slice ht h with ⟨h0, _⟩ | ⟨a, len, cap, elems, rest, n, _, rfl, _, _, hl, hm, hlen, hel, _, _⟩
  · exact ⟨_, [], h0, Sl.nil 0 none, by simp, by simp⟩
  · have one : ∀ i, i < len → ∃ b, W.cell? (a.add i) = some (en b) ∧ Pr b := by
      intro i hi
      have h1 := hel i hi
      rw [hc, Nat.mul_one] at h1
      have h2 : elems[i]? = some (elems[i]'(by omega)) := List.getElem?_eq_getElem _
      rw [h2, Option.bind_eq_some_iff] at h1
      obtain ⟨cs', hcs, hy⟩ := h1
      have h3 : ∃ v, W.cell? (a.add i) = some v ∧ cs' = [v] := by
        unfold World.cells? at hcs
        split at hcs
        · simp only [List.range_succ, List.range_zero, List.nil_append, List.mapM_cons, List.mapM_nil, addr_zero] at hcs
          cases hw : W.cell? (a.add i) with
          | none => simp [hw] at hcs
          | some v => simp [hw] at hcs; exact ⟨v, rfl, hcs.symm⟩
        · simp at hcs
      obtain ⟨v, hv, rfl⟩ := h3
      obtain ⟨b, rfl, hb⟩ := each n v _ hy
      exact ⟨b, hv, hb⟩
    obtain ⟨l, hll, hlc⟩ := list_of len (fun i b => W.cell? (a.add i) = some (en b) ∧ Pr b) one
    refine ⟨_, l, rfl, ⟨some a, cap, by rw [hll], by omega, fun i hi => ⟨a, rfl, (hlc i hi).1⟩⟩, ?_, ?_⟩
    · have : maxLen = 9223372036854775807 := by decide
      omega
    · intro b hb
      obtain ⟨i, hi, rfl⟩ := List.getElem_of_mem hb
      exact (hlc i hi).2
open Go.ChangeShapes Go.WideShapes Go.ChangeAt in
theorem sl_of_ints {B : Type} {enc : TypeId × Value → B} {P : Program} {W : World} {base : Nat} {sp : Nat → Bool} {held : Bool} {t e : TypeId} {fuel : Nat} {cs : List Value} {x : DataW B × List MemPlace}
    (ht : P.underlying t = some (.slice e)) (he : P.underlying e = some (.int .i64)) (hc : P.cellsOf e = 1) (h : DataW.trod enc P W base sp held fuel t cs = some x) :
    ∃ v l, cs = [v] ∧ Sl eI (whole W) v l ∧ l.length ≤ 9223372036854775807 ∧ ∀ a ∈ l, -9223372036854775808 ≤ a ∧ a < 9223372036854775808 :=
  sl_of_elems ht hc (fun n v y hy => by obtain ⟨m, hm, _, hw⟩ := DataW.trod_int he hy; exact ⟨m, by simpa using hm, int_wf hw⟩) h
end Go.Proofs.Ythmdmbbdjbhcoaa.HL
