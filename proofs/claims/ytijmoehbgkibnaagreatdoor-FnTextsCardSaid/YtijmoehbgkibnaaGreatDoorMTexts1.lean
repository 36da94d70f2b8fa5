/- Several texts in one. -/
import Derived.Test.YtijmoehbgkibnaaGreatDoorMTexts0
import Derived.Shelf.Small.Wraps
import Derived.Shelf.LaysM
import Derived.Shelf.Strconv.Itoa4
import Derived.Shelf.LaysC
import Derived.Shelf.Strconv.ParseIntPublic10
import Derived.Shelf.Strings.Search2
import Derived.Shelf.Strings.Search3
import Derived.Shelf.Strings.Cut
import Derived.Shelf.Strings.Shaped
import Derived.Shelf.Strings.Split
import Derived.Shelf.Strings.IndexAny
import Derived.Shelf.Strings.IndexAnyAll
import Derived.Test.YtijmoehbgkibnaaGreatDoorChecked
import Derived.Test.YtijmoehbgkibnaaGreatDoorG0
import Derived.Lib.ParseIntBTie
import Derived.Lib.SplitLaws
import Derived.Below
set_option linter.unusedVariables false
/- Slices whose elements have some cells each: what is read, what is owned. -/
namespace Go.Proofs.YtijmoehbgkibnaaGreatDoor.HL
theorem add_add (a : Addr) (x y : Nat) : (a.add x).add y = a.add (x + y) := by
  unfold Addr.add
  by_cases hx : x = 0
  · subst hx; simp
  · by_cases hy : y = 0
    · subst hy; simp
    · rw [if_neg hx, if_neg hy, if_neg (by omega)]; simp [Nat.add_assoc]
theorem add_block (a : Addr) (x : Nat) : (a.add x).block = a.block := by unfold Addr.add; split <;> rfl
section
variable {α : Type} {enc : α → List Value} {n : Nat} {H H' : Hp} {u v : Value} {l m : List α}
theorem flat_len (hn : ∀ x, (enc x).length = n) : ∀ l : List α, (l.flatMap enc).length = l.length * n
  | [] => by simp
  | x :: r => by rw [List.flatMap_cons, List.length_append, hn, flat_len hn r, List.length_cons, Nat.add_mul, Nat.one_mul]; omega
theorem flat_get (hn : ∀ x, (enc x).length = n) : ∀ (l : List α) (i j : Nat) (h : i < l.length), j < n → (l.flatMap enc)[i * n + j]? = (enc l[i])[j]?
  | x :: r, 0, j, h, hj => by rw [List.flatMap_cons, Nat.zero_mul, Nat.zero_add, List.getElem?_append_left (by rw [hn]; exact hj)]; rfl
  | x :: r, i + 1, j, h, hj => by
    rw [List.flatMap_cons, List.getElem?_append_right (by rw [hn, Nat.add_mul]; omega), hn, show (i + 1) * n + j - n = i * n + j by rw [Nat.add_mul]; omega, flat_get hn r i j (by simpa using h) hj]
    rfl
theorem flat_ix {i j N : Nat} (h : i < N) (hj : j < n) : i * n + j < N * n := by
  have := Nat.mul_le_mul_right n (show i + 1 ≤ N by omega)
  rw [Nat.add_mul] at this; omega
/-- A slice of elements of n cells that reads so. -/
def SlE (n : Nat) (enc : α → List Value) (H : Hp) (v : Value) (l : List α) : Prop :=
  ∃ a c, v = .slice a l.length c ∧ l.length ≤ c ∧ ∀ t (h : t < (l.flatMap enc).length), ∃ ad, a = some ad ∧ H.cell? (ad.add t) = some (l.flatMap enc)[t]
/-- One whose block is known whole, and may be written. -/
def OwnE (n : Nat) (enc : α → List Value) (H : Hp) (v : Value) (l : List α) : Prop :=
  ∃ a c, v = .slice a l.length c ∧ l.length ≤ c ∧ (0 < c → ∃ b off cs e, a = some ⟨b, off, none⟩ ∧ H b = some (.cells cs e (0, 0)) ∧ off + c * n ≤ cs.size ∧ ∀ t (h : t < (l.flatMap enc).length), cs[off + t]? = some (l.flatMap enc)[t])
/-- The pointer to an element. -/
def ptrE (n : Nat) (v : Value) (i : Int) : Value := match v with | .slice (some a) _ _ => .pointer (some (a.add (i.toNat * n))) | _ => undef
theorem SlE.le (h : SlE n enc H v l) (hl : Le H H') : SlE n enc H' v l := by
  obtain ⟨a, c, rfl, hc, hr⟩ := h
  exact ⟨a, c, rfl, hc, fun i hi => by obtain ⟨ad, e, hh⟩ := hr i hi; exact ⟨ad, e, hl.cell hh⟩⟩
theorem SlE.len (h : SlE n enc H v l) : vLenSl v = some (.int .i64 l.length) := by
  obtain ⟨a, c, rfl, hc, hr⟩ := h; rfl
theorem SlE.base (h : SlE n enc H v l) (hn : ∀ x, (enc x).length = n) (n0 : 0 < n) {i : Nat} (hi : i < l.length) : ∃ a c, v = .slice (some a) l.length c ∧ ∀ j (hj : j < n), H.cell? (a.add (i * n + j)) = (enc l[i])[j]? := by
  obtain ⟨a, c, rfl, hc, hr⟩ := h
  have hb := flat_ix (n := n) hi n0
  obtain ⟨ad, rfl, _⟩ := hr (i * n + 0) (by rw [flat_len hn]; exact hb)
  refine ⟨ad, c, rfl, fun j hj => ?_⟩
  have hk := flat_ix (n := n) hi hj
  obtain ⟨ad', e, hh⟩ := hr (i * n + j) (by rw [flat_len hn]; exact hk)
  cases e
  rw [hh, ← flat_get hn l i j hi hj, List.getElem?_eq_getElem]
theorem SlE.ix (h : SlE n enc H v l) (hn : ∀ x, (enc x).length = n) (n0 : 0 < n) {k : IntKind} {i : Int} (h0 : 0 ≤ i) (h1 : i < l.length) : vIx n v (.int k i) = some (ptrE n v i) := by
  obtain ⟨a, c, rfl, _⟩ := h.base hn n0 (i := i.toNat) (by omega)
  simp only [vIx, ptrE]
  rw [if_pos ⟨h0, by simpa using h1⟩]
theorem SlE.ldn (h : SlE n enc H v l) (hn : ∀ x, (enc x).length = n) (n0 : 0 < n) (d : α) {i : Int} (h0 : 0 ≤ i) (h1 : i < l.length) : vLoadN n (ptrE n v i) H = some (.agg (enc (at_ d l i)).toArray) := by
  have hi : i.toNat < l.length := by omega
  obtain ⟨a, c, rfl, hr⟩ := h.base hn n0 hi
  have e : at_ d l i = l[i.toNat] := by unfold at_; rw [List.getD_eq_getElem?_getD, List.getElem?_eq_getElem hi]; rfl
  simp only [vLoadN, ptrE]
  rw [rd_cells (enc := id) _ n 0 (enc l[i.toNat]) (hn _) (fun j hj => by
    rw [add_add, Nat.zero_add, hr j (by rw [hn] at hj; exact hj), List.getElem?_eq_getElem hj]; rfl), e]
  simp
theorem SlE.fa (h : SlE n enc H v l) (hn : ∀ x, (enc x).length = n) (n0 : 0 < n) {i : Int} (h0 : 0 ≤ i) (h1 : i < l.length) (k : Nat) : vFa k (ptrE n v i) = some (fp (ptrE n v i) k) := by
  obtain ⟨a, c, rfl, _⟩ := h.base hn n0 (i := i.toNat) (by omega)
  rfl
theorem SlE.nilC (h : SlE n enc H v l) (hn : ∀ x, (enc x).length = n) (n0 : 0 < n) {i : Int} (h0 : 0 ≤ i) (h1 : i < l.length) : vNilC (ptrE n v i) = some (ptrE n v i) := by
  obtain ⟨a, c, rfl, _⟩ := h.base hn n0 (i := i.toNat) (by omega)
  rfl
theorem SlE.ld (h : SlE n enc H v l) (hn : ∀ x, (enc x).length = n) (n0 : 0 < n) (d : α) {i : Int} (h0 : 0 ≤ i) (h1 : i < l.length) {k : Nat} (hk : k < n) {x : Value} (hx : (enc (at_ d l i))[k]? = some x) : vLoad (fp (ptrE n v i) k) H = some x := by
  have hi : i.toNat < l.length := by omega
  obtain ⟨a, c, rfl, hr⟩ := h.base hn n0 hi
  have e : at_ d l i = l[i.toNat] := by unfold at_; rw [List.getD_eq_getElem?_getD, List.getElem?_eq_getElem hi]; rfl
  simp only [vLoad, fp, ptrE, add_add]
  rw [hr k hk, ← e, hx]
theorem SlE.firstC (h : SlE n enc H v l) (hn : ∀ x, (enc x).length = n) : firstC H n l.length v = some (l.flatMap enc) := by
  obtain ⟨a, c, rfl, hc, hr⟩ := h
  by_cases h0 : (l.flatMap enc).length = 0
  · have e : l.flatMap enc = [] := List.length_eq_zero_iff.mp h0
    have e2 : l.length * n = 0 := by rw [← flat_len hn]; exact h0
    cases a with
    | none => rw [e]; rfl
    | some ad => simp only [HL.firstC, e2, e]; rfl
  · obtain ⟨ad, rfl, _⟩ := hr 0 (by omega)
    simp only [HL.firstC]
    have := rd_cells (H := H) (enc := id) ad (l.length * n) 0 (l.flatMap enc) (flat_len hn l) (fun i hi => by obtain ⟨ad', e, hh⟩ := hr i hi; cases e; simpa using hh)
    rw [this]; simp
theorem SlE.lenO (h : SlE n enc H v l) : lenO v = some l.length := by
  obtain ⟨a, c, rfl, hc, hr⟩ := h; rfl
theorem OwnE.len (h : OwnE n enc H v l) : vLenSl v = some (.int .i64 l.length) := by
  obtain ⟨a, c, rfl, hc, hr⟩ := h; rfl
theorem OwnE.sl (h : OwnE n enc H v l) (hn : ∀ x, (enc x).length = n) : SlE n enc H v l := by
  obtain ⟨a, c, rfl, hc, hr⟩ := h
  refine ⟨a, c, rfl, hc, fun i hi => ?_⟩
  have h1 := flat_len hn l
  have hc0 : 0 < c := by
    rcases Nat.eq_zero_or_pos c with h | h
    · have : l.length = 0 := by omega
      rw [this, Nat.zero_mul] at h1; omega
    · exact h
  obtain ⟨b, off, cs, e, rfl, hb, hs, hcs⟩ := hr hc0
  exact ⟨_, rfl, by simp only [Hp.cell?, add_none, hb, hcs i hi]; rfl⟩
theorem OwnE.off (h : OwnE n enc H u l) (ho : Off v H H') (ha : Apart u v) : OwnE n enc H' u l := by
  obtain ⟨a, c, rfl, hc, hr⟩ := h
  refine ⟨a, c, rfl, hc, fun h0 => ?_⟩
  obtain ⟨b, off, cs, e, rfl, hb, hs, hcs⟩ := hr h0
  refine ⟨b, off, cs, e, rfl, ho b _ hb (ha b ?_), hs, hcs⟩
  simp only [bk]
  rw [if_neg (by omega)]
theorem OwnE.le (h : OwnE n enc H u l) (hl : Le H H') : OwnE n enc H' u l := by
  obtain ⟨a, c, rfl, hc, hr⟩ := h
  refine ⟨a, c, rfl, hc, fun h0 => ?_⟩
  obtain ⟨b, off, cs, e, rfl, hb, hs, hcs⟩ := hr h0
  exact ⟨b, off, cs, e, rfl, hl b _ hb, hs, hcs⟩
theorem OwnE.known (h : OwnE n enc H u l) : ∀ b, bk u = some b → ∃ o, H b = some o := by
  obtain ⟨a, c, rfl, hc, hr⟩ := h
  intro b hb
  cases a with
  | none => simp [bk] at hb
  | some ad =>
    simp only [bk] at hb
    by_cases h0 : c = 0
    · rw [if_pos h0] at hb; simp at hb
    · rw [if_neg h0] at hb
      obtain ⟨b', off, cs, e, he, hbb, _⟩ := hr (by omega)
      simp only [Option.some.injEq] at hb he
      subst he
      simp only at hb
      subst hb
      exact ⟨_, hbb⟩
theorem OwnE.apart (h : OwnE n enc H u l) (hn : Nw H v) : Apart u v := Apart.of_nw h.known hn
theorem OwnE.one (h : OwnE n enc H v l) : oneCell v = true := by
  obtain ⟨a, c, rfl, _⟩ := h; rfl
theorem OwnE.cells (h : OwnE n enc H v l) : v.cells = #[v] := by
  obtain ⟨a, c, rfl, _⟩ := h; rfl
theorem OwnE.isSl (h : OwnE n enc H v l) : ∃ a n c, v = .slice a n c := by
  obtain ⟨a, c, h, _⟩ := h; exact ⟨_, _, _, h⟩
theorem OwnE.cast {l' : List α} (e : l = l') (h : OwnE n enc H v l) : OwnE n enc H v l' := e ▸ h
theorem OwnE.nil_of (a : Option Addr) : OwnE n enc H (.slice a 0 0) ([] : List α) := ⟨a, 0, rfl, by simp, fun h0 => absurd h0 (by simp)⟩
theorem SlE.nil (c : Nat) (a : Option Addr) : SlE n enc H (.slice a 0 c) ([] : List α) := ⟨a, c, rfl, by simp, fun i hi => absurd hi (by simp)⟩
theorem SlE.one (h : SlE n enc H v l) : oneCell v = true := by
  obtain ⟨a, c, rfl, _⟩ := h; rfl
theorem SlE.cells (h : SlE n enc H v l) : v.cells = #[v] := by
  obtain ⟨a, c, rfl, _⟩ := h; rfl
theorem SlE.cast {l' : List α} (e : l = l') (h : SlE n enc H v l) : SlE n enc H v l' := e ▸ h
/-- A new row of elements of n cells: one element. -/
theorem bSE_one {z : Array Value} {e : TypeId} {x : α} {k : Nat} {cs : List Value} {K : Value → Hp → Prop} (hx : enc x = cs) (hl : cs.length = n) (n0 : 0 < n) (n1 : n ≤ 1000) (hz : z.size = n)
    (hk : ∀ v H', OwnE n enc H' v [x] → Nw H v → Le H H' → K v H') (hk1 : k = 1) : bS n k z e [(0, .agg cs.toArray)] H K := by
  subst hk1
  refine ⟨by omega, ?_⟩
  have hs : (zrow z (1 * n)).size = n := by simp [zrow]
  have hf : Instr.fill (fun i => some (i * n, n)) (if 1 * n = 0 then #[] else zrow z (1 * n)) [(0, .agg cs.toArray)] = some cs.toArray := by
    rw [if_neg (by omega)]
    simp only [Instr.fill, Value.cells, Nat.zero_mul, Nat.zero_add]
    rw [if_neg (by rw [hs]; simp [hl])]
    congr 1
    apply Array.ext_getElem?
    intro i
    have key : ∀ (r : List Value) (s : Nat) (a : Array Value), s + r.length ≤ a.size → ((r.toArray.zipIdx s).foldl (fun cs x => cs.setIfInBounds x.2 x.1) a)[i]? = if s ≤ i ∧ i < s + r.length then r[i - s]? else a[i]? := by
      intro r
      induction r with
      | nil => intro s a _; rw [if_neg (by simp only [List.length_nil]; omega), ← Array.foldl_toList, Array.toList_zipIdx]; rfl
      | cons y r ih =>
        intro s a ha
        simp only [List.length_cons] at ha ⊢
        rw [← Array.foldl_toList]
        simp only [Array.toList_zipIdx, List.zipIdx_cons, List.foldl_cons]
        have := ih (s + 1) (a.setIfInBounds s y) (by simp; omega)
        rw [← Array.foldl_toList] at this
        simp only [Array.toList_zipIdx] at this
        rw [this]
        by_cases h1 : s = i
        · subst h1
          rw [if_neg (by omega), if_pos (by omega), Array.getElem?_setIfInBounds_self_of_lt (by omega)]; simp
        · by_cases h2 : s + 1 ≤ i ∧ i < s + 1 + r.length
          · rw [if_pos h2, if_pos (by omega), show i - s = (i - (s + 1)) + 1 by omega]; simp
          · rw [if_neg h2, if_neg (by omega), Array.getElem?_setIfInBounds_ne h1]
    have := key cs 0 (zrow z (1 * n)) (by rw [hs]; omega)
    simp only [Nat.zero_add, Nat.zero_le, true_and, Nat.sub_zero] at this
    rw [this]
    split
    · simp
    · rw [Array.getElem?_eq_none (by rw [hs]; omega), Array.getElem?_eq_none (by simp; omega)]
  rw [hf]
  intro r hr
  refine hk _ _ ⟨some ⟨r, 0, none⟩, 1, rfl, Nat.le_refl _, fun _ => ⟨r, 0, _, e, rfl, Hp.put_same _ _ _, by simp [hl], fun t ht => ?_⟩⟩ ?_ (Le.put _ hr)
  · simp only [List.flatMap_cons, List.flatMap_nil, List.append_nil, hx] at ht ⊢
    simp [ht]
  · intro b hb
    simp only [bk] at hb
    split at hb
    · simp at hb
    · simp only [Option.some.injEq] at hb; subst hb; exact hr
theorem bSE_nil {z : Array Value} {e : TypeId} {K : Value → Hp → Prop} (hk : ∀ v H', OwnE n enc H' v ([] : List α) → Nw H v → bk v = none → Le H H' → K v H') : bS n 0 z e [] H K := by
  refine ⟨by simp, ?_⟩
  rw [if_pos (by simp)]
  show match some (#[] : Array Value) with
    | some cells => ∀ r, H r = none → K (.slice (some ⟨r, 0, none⟩) 0 0) (H.put r (.cells cells e))
    | none => False
  intro r hr
  refine hk _ _ (OwnE.nil_of _) ?_ rfl (Le.put _ hr)
  intro b hb
  simp [bk] at hb
/-- An append. -/
theorem OwnE.apd {bytes : Nat} {z : Array Value} {e : TypeId} {w : Value} {K : Value → Hp → Prop} (h : OwnE n enc H v l) (hn : ∀ x, (enc x).length = n) (hz : z.size = n) (hm : SlE n enc H w m) (ho : ∀ x ∈ m, ∀ y ∈ enc x, oneCell y = true)
    (hb : bytes ≤ 64) (hlm : l.length + m.length ≤ 68719476736)
    (hk : ∀ v' H', OwnE n enc H' v' (l ++ m) → Off v H H' → (∀ b, bk v' = some b → bk v = some b ∨ H b = none) → K v' H') : apd n bytes z e v w H K := by
  have hmf := hm.firstC hn
  have hml := hm.lenO
  have hlf := (h.sl hn).firstC hn
  have fl := flat_len hn l
  have fm := flat_len hn m
  have hap : (l ++ m).flatMap enc = l.flatMap enc ++ m.flatMap enc := List.flatMap_append
  obtain ⟨a, c, rfl, hlc, hr⟩ := h
  simp only [HL.apd, hml]
  by_cases hcap : l.length + m.length ≤ c
  · rw [if_pos hcap]
    simp only [hmf]
    by_cases hc0 : c = 0
    · have hl : l = [] := List.length_eq_zero_iff.mp (by omega)
      have hm' : m = [] := List.length_eq_zero_iff.mp (by omega)
      subst hl hm' hc0
      have : K (.slice a (([] : List α).length + ([] : List α).length) 0) H := hk _ H ⟨a, 0, rfl, by simp, fun h0 => absurd h0 (by simp)⟩ (fun b o hb _ => hb) (fun b hb => by cases a <;> simp [bk] at hb)
      cases a with
      | none => exact this
      | some ad => exact this
    · obtain ⟨b, off, cs, e', rfl, hbb, hs, hcs⟩ := hr (by omega)
      have hmul : (l.length + m.length) * n ≤ c * n := Nat.mul_le_mul_right n hcap
      rw [Nat.add_mul] at hmul
      simp only [add_none]
      refine stC_run (b := b) (e := e') (m.flatMap enc) _ 0 cs H rfl rfl hbb (by simp only [Nat.add_zero]; omega) (fun x hx => by
        obtain ⟨y, hy, hxy⟩ := List.mem_flatMap.mp hx; exact ho y hy x hxy) ?_
      intro H' cs' h1 h2 h3 h4 h5
      simp only [Nat.add_zero] at h3 h4
      refine hk _ H' ⟨some ⟨b, off, none⟩, c, by simp, by simpa using hcap, fun _ => ⟨b, off, cs', e', rfl, h1, by omega, ?_⟩⟩ ?_ ?_
      · simp only [hap]
        intro t ht
        rw [List.length_append] at ht
        by_cases htl : t < (l.flatMap enc).length
        · rw [h3 _ (by omega), hcs t htl, List.getElem_append_left htl]
        · have := h4 (t - (l.flatMap enc).length) (by omega)
          rw [show off + l.length * n + (t - (l.flatMap enc).length) = off + t by omega] at this
          rw [this, List.getElem_append_right (by omega)]
      · intro x o hx hne
        simp only [bk, if_neg hc0] at hne
        rw [h5 x (by rintro rfl; exact hne rfl)]; exact hx
      · intro x hx
        left; exact hx
  · rw [if_neg hcap]
    refine ⟨by omega, ?_, ?_⟩
    · have := nsc_le (n := l.length + m.length) (c := c) (by omega)
      exact Nat.le_trans (Nat.mul_le_mul this hb) (by omega)
    simp only [hlf, hmf]
    intro c' hc1 hc2 r hr'
    have hmul : (l.length + m.length) * n ≤ c' * n := Nat.mul_le_mul_right n hc1
    have hsub : (c' - (l.length + m.length)) * n = c' * n - (l.length + m.length) * n := Nat.sub_mul _ _ _
    rw [Nat.add_mul] at hmul hsub
    refine hk _ _ ⟨some ⟨r, 0, none⟩, c', by simp, by simpa using hc1, fun _ => ⟨r, 0, _, e, rfl, Hp.put_same _ _ _, ?_, ?_⟩⟩ ?_ ?_
    · have : (Builtin.zeroCells z (c' - (l.length + m.length))).size = (c' - (l.length + m.length)) * n := by simp [Builtin.zeroCells, hz]
      simp only [Nat.zero_add, Array.size_append, List.size_toArray, this, fl, fm]; omega
    · simp only [hap]
      intro t ht
      rw [Nat.zero_add, Array.getElem?_append_left (by simpa using ht)]
      rw [← Array.getElem?_toList]
      simp only [Array.toList_append]
      rw [List.getElem?_eq_getElem ht]
    · intro x o hx _
      rw [Hp.put_ne _ _ (by rintro rfl; rw [hr'] at hx; exact absurd hx (by simp))]; exact hx
    · intro x hx
      right
      simp only [bk] at hx
      split at hx
      · simp at hx
      · simp only [Option.some.injEq] at hx; subst hx; exact hr'
end
end Go.Proofs.YtijmoehbgkibnaaGreatDoor.HL
/- Fields: which are valid, which are plain, and what lies where, round and round. -/
namespace Go.Proofs.YtijmoehbgkibnaaGreatDoor
open HL
set_option maxRecDepth 100000
def sidesF (r c : Int) : Prop := (1 ≤ r ∧ r ≤ 24) ∧ (1 ≤ c ∧ c ≤ 24)
instance (r c : Int) : Decidable (sidesF r c) := by unfold sidesF; infer_instance
theorem sidesF_mul {r c : Int} (h : sidesF r c) : 1 ≤ r * c ∧ r * c ≤ 576 := by
  obtain ⟨⟨h1, h2⟩, h3, h4⟩ := h
  have a := Int.mul_le_mul h2 h4 (by omega) (by omega)
  have b := Int.mul_le_mul h1 h3 (by omega) (by omega)
  omega
/-- A field whose cells are from 0 to n. -/
def fieldN (n r c : Int) (l : List Int) : Prop := sidesF r c ∧ (l.length : Int) = r * c ∧ ∀ x ∈ l, 0 ≤ x ∧ x ≤ n
instance (n r c : Int) (l : List Int) : Decidable (fieldN n r c l) := by unfold fieldN; infer_instance
theorem vInt_mulF (a b : Int) : vInt .mul (.int .i64 a) (.int .i64 b) = some (.int .i64 (IntKind.i64.wrap (a * b))) := by simp only [vInt, if_true]
theorem fieldN_len {n r c : Int} {l : List Int} (h : fieldN n r c l) : l.length ≤ 576 := by
  have := sidesF_mul h.1
  have := h.2.1
  omega
theorem C.spec_l04Is {p vc : Value} {r c : Int} {l : List Int} {H : Hp} {K : Value → Hp → Prop} (hp : Cel H p [.int .i64 r, .int .i64 c, vc]) (hc : Sl eI H vc l)
    (k1 : l.length ≤ 9223372036854775807) (hk : K (.bool (decide (fieldN 9 r c l))) H) : HT prg I.spec_l04Is [p].toArray H K := by
 refine R.spec_l04Is ?_
 unfold F.spec_l04Is
 simp only [hp.nilC, hp.fa, hp.ld 0 rfl, ob_some]
 refine C.spec_l00In ⟨Le.refl _, ?_⟩
 by_cases c1 : 1 ≤ r ∧ r ≤ 24
 ·simp only [decide_eq_true c1, hp.nilC, hp.fa, hp.ld 1 rfl, EV]
  refine C.spec_l00In ⟨Le.refl _, ?_⟩
  by_cases c2 : 1 ≤ c ∧ c ≤ 24
  ·have hs : sidesF r c := ⟨c1, c2⟩
   have hm := sidesF_mul hs
   simp only [decide_eq_true c2, hp.nilC, hp.fa, hp.ld 2 rfl, hp.ld 0 rfl, hp.ld 1 rfl, hc.len, vInt_mulF, wrap64 (show -9223372036854775808 ≤ r * c by omega) (show r * c < 9223372036854775808 by omega), EV]
   by_cases c3 : (l.length : Int) = r * c
   ·have f3 : decide ((l.length : Int) ≠ r * c) = false := decide_eq_false (fun h => h c3)
    simp only [f3, EV]
    unfold jn; dsimp only
    refine ⟨fun n σ H1 => ∃ i : Nat, n = l.length - i ∧ i ≤ l.length ∧ H1 = H ∧ σ 0 = p ∧ σ 3 = .int .i64 i ∧ ∀ x ∈ l.take i, 0 ≤ x ∧ x ≤ 9, ⟨_, 0, rfl, by omega, rfl, rfl, rfl, by simp⟩, ?_⟩
    rintro n σ H1 ⟨i, rfl, hi', rfl, h0, h3, hall⟩
    simp only [h0, h3, hp.nilC, hp.fa, hp.ld 2 rfl, hc.len, vInt_lss, ob_some]
    refine cnd_d (fun hlt => ?_) (fun hge => ?_)
    ·have hlt' : i < l.length := by omega
     rw [hc.ix (by omega) hlt, ob_some, hc.ld 0 (by omega) hlt, ob_some]
     refine C.spec_l00In ?_
     rw [vUn_not, ob_some]
     refine cnd_i (fun hb => ?_) (fun hb => ?_)
     ·refine retK (K := K) (v' := .bool false) rfl (kF (K := K) hk ?_)
      intro hh
      have := hh.2.2 _ (at_mem 0 l (i := i) (by omega) hlt)
      simp [this] at hb
     ·rw [vInt_add (by omega) (by omega), ob_some]
      refine nxt (l.length - (i + 1)) (by omega) ⟨i + 1, rfl, by omega, rfl, h0, rfl, ?_⟩
      rw [take_at 0 l hlt']
      intro x hx
      rcases List.mem_append.mp hx with hx | hx
      ·exact hall x hx
      ·simp only [List.mem_singleton] at hx; subst hx; simpa using hb
    ·rw [List.take_of_length_le (by omega)] at hall
     exact retK (K := K) (v' := .bool true) rfl (kT (K := K) hk ⟨hs, c3, hall⟩)
   ·have f3 : decide ((l.length : Int) ≠ r * c) = true := decide_eq_true c3
    simp only [f3, EV]; exact kF (K := K) hk (fun h => c3 h.2.1)
  ·simp only [decide_eq_false c2, EV]; exact kF (K := K) hk (fun h => c2 h.1.2)
 ·simp only [decide_eq_false c1, EV]; exact kF (K := K) hk (fun h => c1 h.1.1)
theorem C.spec_l04Plain {p vc : Value} {r c : Int} {l : List Int} {H : Hp} {K : Value → Hp → Prop} (hp : Cel H p [.int .i64 r, .int .i64 c, vc]) (hc : Sl eI H vc l)
    (k1 : l.length ≤ 9223372036854775807) (hk : K (.bool (decide (fieldN 1 r c l))) H) : HT prg I.spec_l04Plain [p].toArray H K := by
 refine R.spec_l04Plain ?_
 unfold F.spec_l04Plain
 refine C.spec_l04Is hp hc k1 ?_
 by_cases c1 : fieldN 9 r c l
 ·simp only [decide_eq_true c1, EV]
  unfold jn; dsimp only
  refine ⟨fun n σ H1 => ∃ i : Nat, n = l.length - i ∧ i ≤ l.length ∧ H1 = H ∧ σ 0 = p ∧ σ 3 = .int .i64 i ∧ ∀ x ∈ l.take i, x ≤ 1, ⟨_, 0, rfl, by omega, rfl, rfl, rfl, by simp⟩, ?_⟩
  rintro n σ H1 ⟨i, rfl, hi', rfl, h0, h3, hall⟩
  simp only [h0, h3, hp.nilC, hp.fa, hp.ld 2 rfl, hc.len, vInt_lss, ob_some]
  refine cnd_d (fun hlt => ?_) (fun hge => ?_)
  ·have hlt' : i < l.length := by omega
   rw [hc.ix (by omega) hlt, ob_some, hc.ld 0 (by omega) hlt, ob_some, vInt_gtr, ob_some]
   refine cnd_d (fun hb => ?_) (fun hb => ?_)
   ·refine retK (K := K) (v' := .bool false) rfl (kF (K := K) hk ?_)
    intro hh
    have := hh.2.2 _ (at_mem 0 l (i := i) (by omega) hlt)
    omega
   ·rw [vInt_add (by omega) (by omega), ob_some]
    refine nxt (l.length - (i + 1)) (by omega) ⟨i + 1, rfl, by omega, rfl, h0, rfl, ?_⟩
    rw [take_at 0 l hlt']
    intro x hx
    rcases List.mem_append.mp hx with hx | hx
    ·exact hall x hx
    ·simp only [List.mem_singleton] at hx; subst hx; omega
  ·rw [List.take_of_length_le (by omega)] at hall
   exact retK (K := K) (v' := .bool true) rfl (kT (K := K) hk ⟨c1.1, c1.2.1, fun x hx => ⟨(c1.2.2 x hx).1, hall x hx⟩⟩)
 ·simp only [decide_eq_false c1, EV]; exact kF (K := K) hk (fun h => c1 ⟨h.1, h.2.1, fun x hx => by have := h.2.2 x hx; omega⟩)
theorem C.impl_isSide {r : Int} {H : Hp} {K : Value → Hp → Prop} (hk : K (.bool (decide (1 ≤ r ∧ r ≤ 24))) H) : HT prg I.impl_isSide [.int .i64 r].toArray H K := R.impl_isSide (C.impl_within hk)
theorem C.impl_ValidField {vc : Value} {r c : Int} {l : List Int} {H : Hp} {K : Value → Hp → Prop} (hc : Sl eI H vc l)
    (k1 : l.length ≤ 9223372036854775807) (hk : ∀ H', Le H H' → K (.bool (decide (fieldN 9 r c l))) H') : HT prg I.impl_ValidField [.agg #[.int .i64 r, .int .i64 c, vc]].toArray H K := by
 refine R.impl_ValidField ?_
 unfold F.impl_ValidField
 refine nw_i (fun p H1 hp np le1 => ?_)
 replace hk := hk H1 le1
 replace hc := hc.le le1
 simp only [hp.fa, hp.ld 0 rfl, hp.ld 1 rfl, vInt_mulF, ob_some]
 refine C.impl_isSide ?_
 by_cases c1 : 1 ≤ r ∧ r ≤ 24
 ·simp only [decide_eq_true c1, hp.fa, hp.ld 1 rfl, EV]
  refine C.impl_isSide ?_
  by_cases c2 : 1 ≤ c ∧ c ≤ 24
  ·have hs : sidesF r c := ⟨c1, c2⟩
   have hm := sidesF_mul hs
   simp only [decide_eq_true c2, hp.fa, hp.ld 2 rfl, wrap64 (show -9223372036854775808 ≤ r * c by omega) (show r * c < 9223372036854775808 by omega), EV]
   refine C.impl_areMany hc k1 ?_
   exact kQ (K := K) hk ⟨fun h => ⟨⟨by have := h.2.1; omega, by have := h.2.1; omega⟩, h.2.2⟩, fun h => ⟨hs, by omega, h.2⟩⟩
  ·simp only [decide_eq_false c2, EV]; exact kF (K := K) hk (fun h => c2 h.1.2)
 ·simp only [decide_eq_false c1, EV]; exact kF (K := K) hk (fun h => c1 h.1.1)
theorem C.impl_isPlain {vc : Value} {r c : Int} {l : List Int} {H : Hp} {K : Value → Hp → Prop} (hc : Sl eI H vc l)
    (k1 : l.length ≤ 9223372036854775807) (hk : ∀ H', Le H H' → K (.bool (decide (fieldN 1 r c l))) H') : HT prg I.impl_isPlain [.agg #[.int .i64 r, .int .i64 c, vc]].toArray H K := by
 refine R.impl_isPlain ?_
 unfold F.impl_isPlain
 refine nw_i (fun p H1 hp np le1 => ?_)
 refine ob_i (hp.ldn rfl) ?_
 refine C.impl_ValidField (hc.le le1) k1 (fun H2 le2 => ?_)
 replace hk := hk H2 (le1.trans le2)
 replace hc := hc.le (le1.trans le2)
 replace hp := hp.le le2
 by_cases c1 : fieldN 9 r c l
 ·simp only [decide_eq_true c1, hp.fa, hp.ld 2 rfl, EV]
  refine C.impl_areWithin hc k1 ?_
  exact kQ (K := K) hk ⟨fun h => h.2.2, fun h => ⟨c1.1, c1.2.1, h⟩⟩
 ·simp only [decide_eq_false c1, EV]; exact kF (K := K) hk (fun h => c1 ⟨h.1, h.2.1, fun x hx => by have := h.2.2 x hx; omega⟩)
/-- A place, round and round. -/
def roundF (r c i k : Int) : Int := i % r * c + k % c
theorem C.impl_Field_at {vc : Value} {r c i k : Int} {l : List Int} {H : Hp} {K : Value → Hp → Prop} (hc : Sl eI H vc l) (h0 : 0 ≤ i * c) (h1 : i * c ≤ 1000000) (h2 : 0 ≤ i * c + k) (h3 : i * c + k < l.length) (h4 : l.length ≤ 1000000)
    (hk : ∀ H', Le H H' → K (.int .i64 (at_ 0 l (i * c + k))) H') : HT prg I.impl_Field_at [.agg #[.int .i64 r, .int .i64 c, vc], .int .i64 i, .int .i64 k].toArray H K := by
 refine R.impl_Field_at ?_
 unfold F.impl_Field_at
 refine nw_i (fun p H1 hp np le1 => ?_)
 simp only [hp.fa, hp.ld 1 rfl, hp.ld 2 rfl, ob_some]
 rw [vInt_mul (by omega) (by omega), ob_some, vInt_add (by omega) (by omega), ob_some, (hc.le le1).ix h2 h3, ob_some, (hc.le le1).ld 0 h2 h3, ob_some]
 exact hk _ le1
end Go.Proofs.YtijmoehbgkibnaaGreatDoor
/- Fields in slices: one of them. -/
namespace Go.Proofs.YtijmoehbgkibnaaGreatDoor
open HL
/-- A field as it lies in cells. -/
structure Fv where
  r : Int
  c : Int
  v : Value
def fv0 : Fv := ⟨0, 0, .slice none 0 0⟩
def encFv (x : Fv) : List Value := [.int .i64 x.r, .int .i64 x.c, x.v]
theorem encFv_n (x : Fv) : (encFv x).length = 3 := rfl
end Go.Proofs.YtijmoehbgkibnaaGreatDoor
/- Slices of fields whose cells are owned. -/
namespace Go.Proofs.YtijmoehbgkibnaaGreatDoor
open HL
set_option maxRecDepth 100000
namespace HL
/-- What has blocks: a slice or a pointer, or a set of blocks. -/
class Bks (α : Type) where inb : α → Nat → Prop
instance instBV : Bks Value := ⟨fun v b => bk v = some b⟩
def Rg : Type := Nat → Prop
instance instBR : Bks Rg := ⟨fun S b => S b⟩
def Apt {α β : Type} [Bks α] [Bks β] (u : α) (v : β) : Prop := ∀ b, Bks.inb u b → ¬ Bks.inb v b
def Kn {α : Type} [Bks α] (H : Hp) (u : α) : Prop := ∀ b, Bks.inb u b → ∃ o, H b = some o
def Nws (H : Hp) (S : Rg) : Prop := ∀ b, S b → H b = none
def OffS (S : Rg) (H H' : Hp) : Prop := ∀ b o, H b = some o → ¬ S b → H' b = some o
section
variable {α β : Type} [Bks α] [Bks β] {u : α} {v : β} {H H' : Hp} {S : Rg}
theorem Apt.symm (h : Apt u v) : Apt v u := fun b h1 h2 => h b h2 h1
theorem Apt.nil_r {c : Nat} : Apt u (Value.slice none c c) := fun b _ h => by
  have : bk (.slice none c c) = some b := h
  simp [bk] at this
theorem Apt.of_nws (hu : Kn H u) (hn : Nws H S) : Apt u S := fun b h1 h2 => by
  obtain ⟨o, ho⟩ := hu b h1
  rw [hn b h2] at ho; exact absurd ho (by simp)
theorem Apt.of_nw {w : Value} (hu : Kn H u) (hn : Nw H w) : Apt u w := fun b h1 h2 => by
  obtain ⟨o, ho⟩ := hu b h1
  rw [hn b h2] at ho; exact absurd ho (by simp)
theorem Nws.le (h : Nws H' S) (hl : Le H H') : Nws H S := fun b hb => by
  cases ho : H b with
  | none => rfl
  | some o => have := hl b o ho; rw [h b hb] at this; exact absurd this (by simp)
theorem OffS.le {H0 : Hp} (h : OffS S H H') (hl : Le H0 H) (hn : Nws H0 S) : Le H0 H' := fun b o hb =>
  h b o (hl b o hb) (fun e => by rw [hn b e] at hb; exact absurd hb (by simp))
theorem OffS.trans {A B C : Hp} (h : OffS S A B) (h' : OffS S B C) : OffS S A C := fun b o hb hv => h' b o (h b o hb hv) hv
theorem OffS.of_le (h : Le H H') : OffS S H H' := fun b o hb _ => h b o hb
/-- What has no block of a set stays. -/
theorem OffS.off {w x : Value} (h : OffS S H H') (ha : Apt w S) : ∀ b o, bk w = some b → H b = some o → H' b = some o := fun b o hb ho => h b o ho (ha b hb)
end
theorem Own.offS {α : Type} {enc : α → Value} {H H' : Hp} {u : Value} {l : List α} {S : Rg} (h : Own enc H u l) (ho : OffS S H H') (ha : Apt u S) : Own enc H' u l := by
  obtain ⟨a, c, rfl, hc, hr⟩ := h
  refine ⟨a, c, rfl, hc, fun h0 => ?_⟩
  obtain ⟨b, off, cs, e, rfl, hb, hs, hcs⟩ := hr h0
  refine ⟨b, off, cs, e, rfl, ho b _ hb (ha b ?_), hs, hcs⟩
  show bk _ = some b
  simp only [bk]
  rw [if_neg (by omega)]
theorem Cel.offS {H H' : Hp} {p : Value} {cs : List Value} {S : Rg} (h : Cel H p cs) (ho : OffS S H H') (ha : Apt p S) : Cel H' p cs := by
  obtain ⟨r, e, rfl, hr⟩ := h
  exact ⟨r, e, rfl, ho r _ hr (ha r rfl)⟩
theorem Ro.offS {α : Type} {enc : α → Value} {H H' : Hp} {u : Value} {l : List α} {S : Rg} (h : Ro enc H u l) (ho : OffS S H H') (ha : Apt u S) : Ro enc H' u l := by
  obtain ⟨⟨a, c, rfl, hc, hr⟩, hk⟩ := h
  have key : ∀ b, bk (.slice a l.length c) = some b → H' b = H b := fun b hb => by
    obtain ⟨o, hbo⟩ := hk b hb
    rw [ho b o hbo (ha b hb), hbo]
  refine ⟨⟨a, c, rfl, hc, fun i hi => ?_⟩, fun b hb => by rw [key b hb]; exact hk b hb⟩
  obtain ⟨ad, rfl, hh⟩ := hr i hi
  refine ⟨ad, rfl, ?_⟩
  have e : H' (ad.add i).block = H (ad.add i).block := by
    rw [add_block]
    exact key _ (by simp only [bk]; rw [if_neg (by omega)])
  unfold Hp.cell? at hh ⊢
  rw [e]; exact hh
/-- A field. -/
structure FdL where
  r : Int
  c : Int
  l : List Int
  deriving DecidableEq
def fd0 : FdL := ⟨0, 0, []⟩
def RelF (P : Value → List Int → Prop) : List Fv → List FdL → Prop
  | [], [] => True
  | x :: L, f :: fs => (x.r = f.r ∧ x.c = f.c ∧ P x.v f.l) ∧ RelF P L fs
  | _, _ => False
section
variable {P Q : Value → List Int → Prop}
theorem RelF.len : ∀ {L : List Fv} {fs : List FdL}, RelF P L fs → L.length = fs.length
  | [], [], _ => rfl
  | x :: L, f :: fs, h => congrArg (· + 1) (RelF.len h.2)
  | [], _ :: _, h => h.elim
  | _ :: _, [], h => h.elim
theorem RelF.imp : ∀ {L : List Fv} {fs : List FdL}, RelF P L fs → (∀ x ∈ L, ∀ l, P x.v l → Q x.v l) → RelF Q L fs
  | [], [], _, _ => trivial
  | x :: L, f :: fs, h, g => ⟨⟨h.1.1, h.1.2.1, g x (by simp) _ h.1.2.2⟩, RelF.imp h.2 (fun y hy => g y (by simp [hy]))⟩
  | [], _ :: _, h, _ => h.elim
  | _ :: _, [], h, _ => h.elim
theorem RelF.app : ∀ {L M : List Fv} {fs gs : List FdL}, RelF P L fs → RelF P M gs → RelF P (L ++ M) (fs ++ gs)
  | [], M, [], gs, _, h => h
  | x :: L, M, f :: fs, gs, h1, h2 => ⟨h1.1, RelF.app h1.2 h2⟩
  | [], _, _ :: _, _, h, _ => h.elim
  | _ :: _, _, [], _, h, _ => h.elim
theorem RelF.get : ∀ {L : List Fv} {fs : List FdL} {i : Nat}, RelF P L fs → i < L.length → (at_ fv0 L (i : Int)).r = (at_ fd0 fs (i : Int)).r ∧ (at_ fv0 L (i : Int)).c = (at_ fd0 fs (i : Int)).c ∧ P (at_ fv0 L (i : Int)).v (at_ fd0 fs (i : Int)).l
  | [], [], i, _, hi => absurd hi (by simp)
  | x :: L, f :: fs, 0, h, _ => h.1
  | x :: L, f :: fs, i + 1, h, hi => RelF.get (L := L) (fs := fs) (i := i) h.2 (by simpa using hi)
  | [], _ :: _, _, h, _ => h.elim
  | _ :: _, [], _, h, _ => h.elim
end
/-- A slice of fields, whose blocks and those of its fields are owned. -/
def Fam (H : Hp) (v : Value) (S : Rg) (fs : List FdL) : Prop :=
  ∃ L, OwnE 3 encFv H v L ∧ RelF (Own eI H) L fs ∧ (∀ x ∈ L, Apart v x.v) ∧ L.Pairwise (fun x y => Apart x.v y.v) ∧ ∀ b, S b ↔ (bk v = some b ∨ ∃ x ∈ L, bk x.v = some b)
theorem RelF.mem {P : Value → List Int → Prop} : ∀ {L : List Fv} {fs : List FdL}, RelF P L fs → ∀ x ∈ L, ∃ l, P x.v l
  | [], [], _ => by simp
  | x :: L, f :: fs, h => fun y hy => by
    rcases List.mem_cons.mp hy with rfl | hy
    · exact ⟨_, h.1.2.2⟩
    · exact RelF.mem h.2 y hy
  | [], _ :: _, h => h.elim
  | _ :: _, [], h => h.elim
section
variable {H H' : Hp} {v : Value} {S : Rg} {fs : List FdL}
theorem Fam.known (h : Fam H v S fs) : Kn H S := by
  obtain ⟨L, h1, h2, h3, h4, h5⟩ := h
  intro b hb
  rcases (h5 b).mp hb with e | ⟨x, hx, e⟩
  · exact h1.known b e
  · obtain ⟨l, hl⟩ := h2.mem x hx
    exact hl.known b e
theorem Fam.le (h : Fam H v S fs) (hl : Le H H') : Fam H' v S fs := by
  obtain ⟨L, h1, h2, h3, h4, h5⟩ := h
  exact ⟨L, h1.le hl, h2.imp (fun _ _ _ h => h.le hl), h3, h4, h5⟩
theorem Fam.off {w : Value} (h : Fam H v S fs) (ho : Off w H H') (ha : Apt S w) : Fam H' v S fs := by
  obtain ⟨L, h1, h2, h3, h4, h5⟩ := h
  exact ⟨L, h1.off ho (fun b hb => ha b ((h5 b).mpr (.inl hb))), h2.imp (fun x hx _ h => h.off ho (fun b hb => ha b ((h5 b).mpr (.inr ⟨x, hx, hb⟩)))), h3, h4, h5⟩
theorem OwnE.offS {n : Nat} {α : Type} {enc : α → List Value} {u : Value} {l : List α} (h : OwnE n enc H u l) (ho : OffS S H H') (ha : Apt u S) : OwnE n enc H' u l := by
  obtain ⟨a, c, rfl, hc, hr⟩ := h
  refine ⟨a, c, rfl, hc, fun h0 => ?_⟩
  obtain ⟨b, off, cs, e, rfl, hb, hs, hcs⟩ := hr h0
  refine ⟨b, off, cs, e, rfl, ho b _ hb (ha b ?_), hs, hcs⟩
  show bk _ = some b
  simp only [bk]
  rw [if_neg (by omega)]
theorem Fam.offS {T : Rg} (h : Fam H v S fs) (ho : OffS T H H') (ha : Apt S T) : Fam H' v S fs := by
  obtain ⟨L, h1, h2, h3, h4, h5⟩ := h
  exact ⟨L, h1.offS ho (fun b hb => ha b ((h5 b).mpr (.inl hb))), h2.imp (fun x hx _ h => h.offS ho (fun b hb => ha b ((h5 b).mpr (.inr ⟨x, hx, hb⟩)))), h3, h4, h5⟩
theorem Fam.len (h : Fam H v S fs) : vLenSl v = some (.int .i64 fs.length) := by
  obtain ⟨L, h1, h2, _⟩ := h
  rw [h1.len, h2.len]
theorem Fam.one (h : Fam H v S fs) : oneCell v = true := by obtain ⟨L, h1, _⟩ := h; exact h1.one
theorem Fam.cells (h : Fam H v S fs) : v.cells = #[v] := by obtain ⟨L, h1, _⟩ := h; exact h1.cells
theorem Fam.isSl (h : Fam H v S fs) : ∃ a n c, v = .slice a n c := by obtain ⟨L, h1, _⟩ := h; exact h1.isSl
theorem Fam.cast {gs : List FdL} (e : fs = gs) (h : Fam H v S fs) : Fam H v S gs := e ▸ h
theorem Fam.nil_of (a : Option Addr) : Fam H (.slice a 0 0) (fun _ => False) [] :=
  ⟨[], OwnE.nil_of a, trivial, by simp, List.Pairwise.nil, fun b => ⟨fun h => h.elim, fun h => by
    rcases h with h | ⟨x, hx, _⟩
    · cases a <;> simp [bk] at h
    · simp at hx⟩⟩
/-- A new slice of fields. -/
theorem bSE_fam {z : Array Value} {e : TypeId} {K : Value → Hp → Prop} (hk : ∀ v S H', Fam H' v S [] → Nws H S → Le H H' → K v H') : bS 3 0 z e [] H K :=
  bSE_nil (n := 3) (enc := encFv) fun v H' ov nv hb le => hk v (fun _ => False) H' ⟨[], ov, trivial, by simp, List.Pairwise.nil, fun b => ⟨fun h => h.elim, fun h => by
    rcases h with h | ⟨x, hx, _⟩
    · rw [hb] at h; simp at h
    · simp at hx⟩⟩ (fun b h => h.elim) le
/-- One more. -/
theorem Fam.push {bytes : Nat} {z : Array Value} {e : TypeId} {w x : Value} {r c : Int} {l : List Int} {K : Value → Hp → Prop} (h : Fam H v S fs) (hz : z.size = 3) (hw : SlE 3 encFv H w [⟨r, c, x⟩]) (hx : Own eI H x l) (ax : Apt x S)
    (hb : bytes ≤ 64) (hl : fs.length < 1000000)
    (hk : ∀ v' S' H', Fam H' v' S' (fs ++ [⟨r, c, l⟩]) → OffS S H H' → (∀ b, S' b → S b ∨ bk x = some b ∨ H b = none) → (∀ b, bk x = some b → S' b) → Own eI H' x l → K v' H') : apd 3 bytes z e v w H K := by
  obtain ⟨L, h1, h2, h3, h4, h5⟩ := h
  have hlen := h2.len
  have axv : Apart x v := fun b hb hv => ax b hb ((h5 b).mpr (.inl hv))
  refine OwnE.apd h1 encFv_n hz hw (fun y hy t ht => ?_) hb (by simp; omega) (fun v' H' ov off hb' => ?_)
  · simp only [List.mem_singleton] at hy
    subst hy
    simp only [encFv, List.mem_cons, List.not_mem_nil, or_false] at ht
    rcases ht with rfl | rfl | rfl
    · rfl
    · rfl
    · exact hx.one
  have ax' : ∀ y ∈ L, Apart v' y.v := fun y hy b e1 e2 => by
    rcases hb' b e1 with e3 | e3
    · exact h3 y hy b e3 e2
    · obtain ⟨m, hm⟩ := h2.mem y hy
      obtain ⟨o, ho⟩ := hm.known b e2
      rw [e3] at ho; simp at ho
  have axx : Apart v' x := fun b e1 e2 => by
    rcases hb' b e1 with e3 | e3
    · exact axv b e2 e3
    · obtain ⟨o, ho⟩ := hx.known b e2
      rw [e3] at ho; simp at ho
  have hx' := hx.off off axv
  refine hk v' (fun b => bk v' = some b ∨ ∃ y ∈ L ++ [⟨r, c, x⟩], bk y.v = some b) H' ⟨_, ov, ?_, ?_, ?_, fun b => Iff.rfl⟩ (fun b o hbo hn => off b o hbo (fun e => hn ((h5 b).mpr (.inl e)))) ?_ (fun b hb => .inr ⟨⟨r, c, x⟩, by simp, hb⟩) hx'
  · exact (h2.imp (fun y hy m h => h.off off (h3 y hy).symm)).app ⟨⟨rfl, rfl, hx'⟩, trivial⟩
  · intro y hy
    rcases List.mem_append.mp hy with hy | hy
    · exact ax' y hy
    · simp only [List.mem_singleton] at hy; subst hy; exact axx
  · rw [List.pairwise_append]
    refine ⟨h4, List.pairwise_singleton _ _, fun y hy t ht => ?_⟩
    simp only [List.mem_singleton] at ht
    subst ht
    exact fun b e1 e2 => ax b e2 ((h5 b).mpr (.inr ⟨y, hy, e1⟩))
  · intro b hb
    rcases hb with hb | ⟨y, hy, e⟩
    · rcases hb' b hb with e3 | e3
      · exact .inl ((h5 b).mpr (.inl e3))
      · exact .inr (.inr e3)
    · rcases List.mem_append.mp hy with hy | hy
      · exact .inl ((h5 b).mpr (.inr ⟨y, hy, e⟩))
      · simp only [List.mem_singleton] at hy; subst hy; exact .inr (.inl e)
/-- Apart from what was pushed to. -/
theorem Apt.push {α : Type} [Bks α] {u : α} {S' : Rg} {x : Value} (hu : Kn H u) (hS : Apt u S) (hx : Apt u x) (hb : ∀ b, S' b → S b ∨ bk x = some b ∨ H b = none) : Apt u S' := fun b h1 h2 => by
  rcases hb b h2 with h | h | h
  · exact hS b h1 h
  · exact hx b h1 h
  · obtain ⟨o, ho⟩ := hu b h1
    rw [h] at ho; simp at ho
theorem Nws.push {H0 : Hp} {S' : Rg} {x : Value} (hl : Le H0 H) (hS : Nws H0 S) (hx : Nw H0 x) (hb : ∀ b, S' b → S b ∨ bk x = some b ∨ H b = none) : Nws H0 S' := fun b h2 => by
  rcases hb b h2 with h | h | h
  · exact hS b h
  · exact hx b h
  · cases ho : H0 b with
    | none => rfl
    | some o => rw [hl b o ho] at h; simp at h
end
end HL
end Go.Proofs.YtijmoehbgkibnaaGreatDoor
/- Maps from texts to numbers, as owned things. -/
namespace Go.Proofs.YtijmoehbgkibnaaGreatDoor.HL
set_option maxRecDepth 100000
/-- The entries of a map, told as texts and numbers. -/
def entsS (es : List MapEntry) : List (ByteArray × Int) → Prop := fun ms => es.map (fun e => (e.key, e.val)) = ms.map (fun m => (Value.string m.1, Value.int .i64 m.2))
theorem entsS_keys {es : List MapEntry} {ms : List (ByteArray × Int)} (h : entsS es ms) : keysS es := fun e he => by
  have : (e.key, e.val) ∈ es.map (fun e => (e.key, e.val)) := List.mem_map.mpr ⟨e, he, rfl⟩
  rw [h] at this
  obtain ⟨m, _, hm⟩ := List.mem_map.mp this
  exact ⟨m.1, by injection hm with h1 _; exact h1.symm⟩
/-- A map that is owned. -/
def Mp (H : Hp) (p : Value) (S : Rg) (ms : List (ByteArray × Int)) : Prop := ∃ r es c, p = .map (some r) ∧ H r = some (.map es c) ∧ entsS es.toList ms ∧ ∀ b, S b ↔ b = r
section
variable {H H' : Hp} {p : Value} {S : Rg} {ms : List (ByteArray × Int)}
theorem Mp.known (h : Mp H p S ms) : Kn H S := by
  obtain ⟨r, es, c, _, hr, _, hS⟩ := h
  intro b hb
  rw [(hS b).mp hb]; exact ⟨_, hr⟩
theorem Mp.le (h : Mp H p S ms) (hl : Le H H') : Mp H' p S ms := by
  obtain ⟨r, es, c, e, hr, he, hS⟩ := h
  exact ⟨r, es, c, e, hl r _ hr, he, hS⟩
theorem Mp.off {w : Value} (h : Mp H p S ms) (ho : Off w H H') (ha : Apt S w) : Mp H' p S ms := by
  obtain ⟨r, es, c, e, hr, he, hS⟩ := h
  exact ⟨r, es, c, e, ho r _ hr (ha r ((hS r).mpr rfl)), he, hS⟩
theorem Mp.offS {T : Rg} (h : Mp H p S ms) (ho : OffS T H H') (ha : Apt S T) : Mp H' p S ms := by
  obtain ⟨r, es, c, e, hr, he, hS⟩ := h
  exact ⟨r, es, c, e, ho r _ hr (ha r ((hS r).mpr rfl)), he, hS⟩
/-- What the map has at a text. -/
def mget (k : ByteArray) : List (ByteArray × Int) → Option Int
  | [] => none
  | m :: ms => bif k == m.1 then some m.2 else mget k ms
theorem findS_mget (k : ByteArray) : ∀ (es : List MapEntry) (ms : List (ByteArray × Int)) (i : Nat), entsS es ms → (findS k es i).map Prod.snd = (mget k ms).map (Value.int .i64)
  | [], [], _, _ => rfl
  | e :: es, m :: ms, i, h => by
    simp only [entsS, List.map_cons, List.cons.injEq, Prod.mk.injEq] at h
    obtain ⟨⟨h1, h2⟩, h3⟩ := h
    have ih := findS_mget k es ms (i + 1) h3
    unfold findS mget
    rw [h1]
    simp only [keyIs]
    cases k == m.1
    · exact ih
    · simp [h2]
  | [], _ :: _, _, h => by simp [entsS] at h
  | _ :: _, [], _, h => by simp [entsS] at h
/-- One more entry. -/
theorem Mp.add {P : Program} {t kt et : TypeId} {k : ByteArray} {x : Int} {K : Unit → Hp → Prop} (h : Mp H p S ms) (ht : P.underlying t = some (.map kt et)) (hk : P.underlying kt = some .string) (hn : mget k ms = none)
    (hK : ∀ H', Mp H' p S (ms ++ [(k, x)]) → OffS S H H' → K () H') : hp P (Instr.mapUpdate t p (.string k) (.int .i64 x)) H K := by
  obtain ⟨r, es, c, rfl, hr, he, hS⟩ := h
  have e := findS_mget k es.toList ms 0 he
  have hf : findS k es.toList 0 = none := by
    rw [hn] at e
    cases h : findS k es.toList 0 with
    | none => rfl
    | some x => rw [h] at e; simp at e
  refine hp_mapUpdate_new ht hk hr (entsS_keys he) hf ?_
  refine hK _ ⟨r, _, c + 1, rfl, Hp.put_same _ _ _, ?_, hS⟩ (fun b o hb hn => ?_)
  · unfold entsS at he ⊢
    rw [Array.toList_push, List.map_append, he, List.map_append]; rfl
  · rw [Hp.put_ne _ _ (by rintro rfl; exact hn ((hS _).mpr rfl))]; exact hb
end
end Go.Proofs.YtijmoehbgkibnaaGreatDoor.HL
/- Bytes in slices. -/
namespace Go.Proofs.YtijmoehbgkibnaaGreatDoor.HL
abbrev eU : Int → Value := .int .u8
/-- Numbers that are bytes. -/
def bytP (l : List Int) : Prop := ∀ x ∈ l, 0 ≤ x ∧ x ≤ 255
end Go.Proofs.YtijmoehbgkibnaaGreatDoor.HL
/- Bytes told as texts. -/
namespace Go.Proofs.YtijmoehbgkibnaaGreatDoor.HL
set_option maxRecDepth 100000
def bytesS (s : ByteArray) (l : List Int) : ByteArray := l.foldl (fun s n => s.push (UInt8.ofNat n.toNat)) s
theorem val_bytesFrom (P : Program) (H : Hp) : ∀ (l : List Int) (s : ByteArray),
    val P (forIn (l.map eU) s fun c r => (match c with
      | Value.int IntKind.u8 n => pure (ForInStep.yield (r.push (UInt8.ofNat n.toNat)))
      | _ => do
        stuck "bytesToString: byte expected"
        pure (ForInStep.yield r) : Sem (ForInStep ByteArray))) H = some (bytesS s l)
  | [], s => rfl
  | n :: l, s => by
    simp only [List.map_cons, List.forIn_cons, val_bind', val_pure, Option.bind_some]
    exact val_bytesFrom P H l _
theorem val_bytesToString {P : Program} {H : Hp} {v : Value} {l : List Int} (h : Sl eU H v l) : val P (Conv.bytesToString v) H = some (.string (bytesS .empty l)) := by
  have hf := h.firstC
  obtain ⟨a, c, rfl, hc, hr⟩ := h
  cases a with
  | none =>
    have : l = [] := by
      cases l with
      | nil => rfl
      | cons x r => obtain ⟨ad, e, _⟩ := hr 0 (by simp); simp at e
    subst this
    rfl
  | some ad =>
    simp only [HL.firstC, Nat.mul_one] at hf
    unfold Conv.bytesToString
    simp only [val_bind', val_loadCells P H ad l.length _ hf, Option.bind_some]
    have := val_bytesFrom P H l .empty
    simp only [List.forIn_toArray]
    exact Eq.trans (congrArg (fun o => Option.bind o (fun v => val P (pure (Value.string v)) H)) this) rfl
theorem bytesS_data : ∀ (l : List Int) (s : ByteArray), (bytesS s l).data.toList = s.data.toList ++ l.map fun n => UInt8.ofNat n.toNat
  | [], s => by simp [bytesS]
  | n :: l, s => by
    have := bytesS_data l (s.push (UInt8.ofNat n.toNat))
    simp only [bytesS, List.foldl_cons, List.map_cons] at this ⊢
    rw [this, ByteArray.data_push, Array.toList_push, List.append_assoc]; rfl
end Go.Proofs.YtijmoehbgkibnaaGreatDoor.HL
/- Lanes that are switched: what the program's and the reference's functions come to. -/
namespace Go.Proofs.YtijmoehbgkibnaaGreatDoor
open HL
set_option maxRecDepth 100000
/-- May the car at i leave lane a for lane b? -/
def chg (a b : List Int) (i : Int) : Prop :=
  0 ≤ at_ 0 a i ∧ 0 ≤ at_ 0 a ((i + 1).tmod a.length) ∧ at_ 0 b i < 0 ∧ at_ 0 b ((i + 1).tmod a.length) < 0 ∧ at_ 0 b ((i + a.length - 1).tmod a.length) < 0
instance (a b : List Int) (i : Int) : Decidable (chg a b i) := by unfold chg; infer_instance
theorem C.slices_Clone_int64Zint64 {a : Value} {l : List Int} {H : Hp} {K : Value → Hp → Prop} (ha : Sl eI H a l) (hl : l.length ≤ 68719476736) (hk : ∀ v H', Own eI H' v l → Nw H v → Le H H' → K v H') :
    HT prg I.slices_Clone_int64Zint64 [a].toArray H K := by
 refine R.slices_Clone_int64Zint64 ?_
 unfold F.slices_Clone_int64Zint64
 obtain ⟨p, c, rfl, hc, hr⟩ := id ha
 show cnd (.bool p.isNone) _ _
 cases p with
 | none =>
  have : l = [] := by
   cases l with
   | nil => rfl
   | cons x r => obtain ⟨ad, h, _⟩ := hr 0 (by simp); cases h
  subst this
  exact hk _ H ⟨none, 0, rfl, by simp, fun h => absurd h (by simp)⟩ (fun b hb => by simp [bk] at hb) (Le.refl H)
 | some p => exact clone_i (b := 8) ha (fun _ => rfl) (by omega) hl (fun _ => hk)
def okSw (l m : List Int) : Prop := isLane l ∧ isLane m ∧ l.length = m.length
instance (l m : List Int) : Decidable (okSw l m) := by unfold okSw; infer_instance
end Go.Proofs.YtijmoehbgkibnaaGreatDoor
/- What the small functions of structs come to: copies, sizes, what is alike. -/
namespace Go.Proofs.YtijmoehbgkibnaaGreatDoor
open HL
set_option maxRecDepth 100000
end Go.Proofs.YtijmoehbgkibnaaGreatDoor
/- Slices of fields that are compared, marked and held. -/
namespace Go.Proofs.YtijmoehbgkibnaaGreatDoor
open HL
set_option maxRecDepth 100000
namespace HL
theorem at_get {α : Type} (d : α) {l : List α} {i : Nat} (h : i < l.length) : at_ d l (i : Int) = l[i] := by
  unfold at_; rw [List.getD_eq_getElem?_getD, Int.toNat_natCast, List.getElem?_eq_getElem h]; rfl
/-- A new row of elements. -/
theorem bSE_i {α : Type} {enc : α → List Value} {n len : Nat} {z : Array Value} {e : TypeId} {parts : List (Nat × Value)} {l : List α} {H : Hp} {K : Value → Hp → Prop} (h1 : len * n ≤ 1000000) (hl : l.length = len) (hn : ∀ x, (enc x).length = n)
    (hf : Instr.fill (fun i => some (i * n, n)) (if len * n = 0 then #[] else zrow z (len * n)) parts = some (l.flatMap enc).toArray) (hk : ∀ v H', OwnE n enc H' v l → Nw H v → Le H H' → K v H') : bS n len z e parts H K := by
  refine ⟨by omega, ?_⟩
  rw [hf]
  intro r hr
  subst hl
  have fl := flat_len hn l
  refine hk _ _ ⟨some ⟨r, 0, none⟩, l.length, rfl, Nat.le_refl _, fun _ => ⟨r, 0, _, e, rfl, Hp.put_same _ _ _, by simp only [List.size_toArray]; omega, fun i hi => by simp [hi]⟩⟩ ?_ (Le.put _ hr)
  intro b hb
  simp only [bk] at hb
  split at hb
  · simp at hb
  · simp only [Option.some.injEq] at hb; subst hb; exact hr
/-- Fields that are read. -/
def FamS (H : Hp) (v : Value) (fs : List FdL) : Prop := ∃ L, SlE 3 encFv H v L ∧ RelF (Sl eI H) L fs
section
variable {H H' : Hp} {v : Value} {S : Rg} {fs : List FdL}
theorem Fam.sl (h : Fam H v S fs) : FamS H v fs := by
  obtain ⟨L, h1, h2, _⟩ := h
  exact ⟨L, h1.sl encFv_n, h2.imp (fun _ _ _ h => h.sl)⟩
theorem FamS.le (h : FamS H v fs) (hl : Le H H') : FamS H' v fs := by
  obtain ⟨L, h1, h2⟩ := h
  exact ⟨L, h1.le hl, h2.imp (fun _ _ _ h => h.le hl)⟩
theorem FamS.len (h : FamS H v fs) : vLenSl v = some (.int .i64 fs.length) := by
  obtain ⟨L, h1, h2⟩ := h
  rw [h1.len, h2.len]
theorem FamS.one (h : FamS H v fs) : oneCell v = true := by obtain ⟨L, h1, _⟩ := h; exact h1.one
theorem FamS.cells (h : FamS H v fs) : v.cells = #[v] := by obtain ⟨L, h1, _⟩ := h; exact h1.cells
theorem FamS.cast {gs : List FdL} (e : fs = gs) (h : FamS H v fs) : FamS H v gs := e ▸ h
theorem FamS.ix (h : FamS H v fs) {i : Int} (h0 : 0 ≤ i) (h1 : i < fs.length) : vIx 3 v (.int .i64 i) = some (ptrE 3 v i) := by
  obtain ⟨L, g1, g2⟩ := h
  exact g1.ix encFv_n (by omega) h0 (by rw [g2.len]; exact h1)
theorem FamS.at_ (h : FamS H v fs) {i : Nat} (h1 : i < fs.length) : ∃ x, vLoadN 3 (ptrE 3 v i) H = some (.agg #[.int .i64 (at_ fd0 fs (i : Int)).r, .int .i64 (at_ fd0 fs (i : Int)).c, x]) ∧ Sl eI H x (at_ fd0 fs (i : Int)).l ∧
    vLoad (fp (ptrE 3 v i) 0) H = some (.int .i64 (at_ fd0 fs (i : Int)).r) ∧ vLoad (fp (ptrE 3 v i) 1) H = some (.int .i64 (at_ fd0 fs (i : Int)).c) ∧ vLoad (fp (ptrE 3 v i) 2) H = some x ∧ vFa 0 (ptrE 3 v i) = some (fp (ptrE 3 v i) 0) ∧ vFa 1 (ptrE 3 v i) = some (fp (ptrE 3 v i) 1) ∧ vFa 2 (ptrE 3 v i) = some (fp (ptrE 3 v i) 2) := by
  obtain ⟨L, g1, g2⟩ := h
  have hi : (i : Int) < L.length := by rw [g2.len]; omega
  obtain ⟨e1, e2, e3⟩ := g2.get (i := i) (by omega)
  have e := g1.ldn encFv_n (by omega) fv0 (i := (i : Int)) (by omega) hi
  refine ⟨_, ?_, e3, ?_, ?_, ?_, g1.fa encFv_n (by omega) (by omega) hi 0, g1.fa encFv_n (by omega) (by omega) hi 1, g1.fa encFv_n (by omega) (by omega) hi 2⟩
  · rw [e]; simp only [encFv, e1, e2]
  · rw [g1.ld encFv_n (by omega) fv0 (by omega) hi (k := 0) (by omega) rfl, e1]
  · rw [g1.ld encFv_n (by omega) fv0 (by omega) hi (k := 1) (by omega) rfl, e2]
  · exact g1.ld encFv_n (by omega) fv0 (by omega) hi (k := 2) (by omega) rfl
theorem RelF.set : ∀ {P : Value → List Int → Prop} {L : List Fv} {fs : List FdL} {i : Nat} {x : Fv} {f : FdL}, RelF P L fs → (x.r = f.r ∧ x.c = f.c ∧ P x.v f.l) → RelF P (L.set i x) (fs.set i f)
  | P, [], [], i, x, f, _, _ => trivial
  | P, y :: L, g :: fs, 0, x, f, h, hx => ⟨hx, h.2⟩
  | P, y :: L, g :: fs, i + 1, x, f, h, hx => ⟨h.1, RelF.set h.2 hx⟩
  | _, [], _ :: _, _, _, _, h, _ => h.elim
  | _, _ :: _, [], _, _, _, h, _ => h.elim
theorem RelF.gete {P : Value → List Int → Prop} {L : List Fv} {fs : List FdL} {i : Nat} (h : RelF P L fs) (h1 : i < L.length) (h2 : i < fs.length) : L[i].r = fs[i].r ∧ L[i].c = fs[i].c ∧ P L[i].v fs[i].l := by
  have := h.get h1
  rw [at_get fv0 h1, at_get fd0 h2] at this
  exact this
/-- The cells of one of them, and what is put back. -/
theorem Fam.cut (h : Fam H v S fs) {i : Nat} (hi : i < fs.length) : ∃ x, vLoad (fp (ptrE 3 v (i : Int)) 2) H = some x ∧ Own eI H x fs[i].l ∧ ∀ H' m, Own eI H' x m → Off x H H' → Fam H' v S (fs.set i ⟨fs[i].r, fs[i].c, m⟩) ∧ OffS S H H' := by
  obtain ⟨L, h1, h2, h3, h4, h5⟩ := h
  have hi' : i < L.length := by rw [h2.len]; exact hi
  have g := h2.gete hi' hi
  have hx : ∀ b, bk L[i].v = some b → S b := fun b hb => (h5 b).mpr (.inr ⟨_, List.getElem_mem hi', hb⟩)
  refine ⟨L[i].v, ?_, g.2.2, fun H' m om off => ⟨⟨L, h1.off off (h3 _ (List.getElem_mem hi')), ?_, h3, h4, h5⟩, fun b o hb hn => off b o hb (fun e => hn (hx b e))⟩⟩
  · have := (h1.sl encFv_n).ld encFv_n (by omega) fv0 (i := (i : Int)) (by omega) (by omega) (k := 2) (by omega) (x := L[i].v) (by rw [at_get fv0 hi']; rfl)
    exact this
  · have key : ∀ (L : List Fv) (fs : List FdL) (i : Nat) (hi : i < L.length) (hi2 : i < fs.length), RelF (Own eI H) L fs → L.Pairwise (fun x y => Apart x.v y.v) → Off L[i].v H H' → Own eI H' L[i].v m → RelF (Own eI H') L (fs.set i ⟨fs[i].r, fs[i].c, m⟩) := by
      intro L
      induction L with
      | nil => intro fs i hi; simp at hi
      | cons x L ih =>
        intro fs i hi hi2 hr hp hoff ho
        cases fs with
        | nil => simp at hi2
        | cons f fs =>
          rw [List.pairwise_cons] at hp
          cases i with
          | zero =>
            refine ⟨⟨hr.1.1, hr.1.2.1, ho⟩, hr.2.imp (fun y hy _ h => h.off hoff (fun b e1 e2 => hp.1 y hy b e2 e1))⟩
          | succ i =>
            have hi3 : i < L.length := by simpa using hi
            refine ⟨⟨hr.1.1, hr.1.2.1, hr.1.2.2.off hoff (hp.1 _ (List.getElem_mem hi3))⟩, ih fs i hi3 (by simpa using hi2) hr.2 hp.2 hoff ho⟩
    exact key L fs i hi' hi h2 h4 off om
end
end HL
end Go.Proofs.YtijmoehbgkibnaaGreatDoor
/- Pointers that are only read; elements of a family; texts as keys. -/
namespace Go.Proofs.YtijmoehbgkibnaaGreatDoor
open HL
set_option maxRecDepth 100000
namespace HL
/-- A pointer to cells that are read. -/
def CelR (H : Hp) (p : Value) (cs : List Value) : Prop := ∃ a, p = .pointer (some a) ∧ (∃ o, H a.block = some o) ∧ ∀ i (h : i < cs.length), H.cell? (a.add i) = some cs[i]
section
variable {H H' : Hp} {p u v : Value} {cs : List Value}
theorem Cel.r (h : Cel H p cs) : CelR H p cs := by
  obtain ⟨r, e, rfl, hr⟩ := h
  refine ⟨_, rfl, ⟨_, hr⟩, fun i hi => ?_⟩
  simp only [add_none, Hp.cell?, hr, Nat.zero_add]
  simp [hi]
theorem CelR.known (h : CelR H p cs) : ∀ b, bk p = some b → ∃ o, H b = some o := by
  obtain ⟨a, rfl, ho, _⟩ := h
  intro b hb
  simp only [bk, Option.some.injEq] at hb
  subst hb; exact ho
theorem CelR.le (h : CelR H p cs) (hl : Le H H') : CelR H' p cs := by
  obtain ⟨a, rfl, ⟨o, ho⟩, hc⟩ := h
  exact ⟨a, rfl, ⟨o, hl _ _ ho⟩, fun i hi => hl.cell (hc i hi)⟩
theorem CelR.keep (h : CelR H p cs) (hk : ∀ b, bk p = some b → H' b = H b) : CelR H' p cs := by
  obtain ⟨a, rfl, ⟨o, ho⟩, hc⟩ := h
  have e := hk a.block rfl
  refine ⟨a, rfl, ⟨o, by rw [e]; exact ho⟩, fun i hi => ?_⟩
  have := hc i hi
  unfold Hp.cell? at this ⊢
  rw [add_block] at this ⊢
  rw [e]; exact this
theorem CelR.off (h : CelR H p cs) (ho : Off v H H') (ha : Apart p v) : CelR H' p cs := h.keep fun b hb => by
  obtain ⟨o, hh⟩ := h.known b hb
  rw [ho b o hh (ha b hb), hh]
theorem CelR.offS {S : Rg} (h : CelR H p cs) (ho : OffS S H H') (ha : Apt p S) : CelR H' p cs := h.keep fun b hb => by
  obtain ⟨o, hh⟩ := h.known b hb
  rw [ho b o hh (ha b hb), hh]
theorem CelR.apart (h : CelR H p cs) (hn : Nw H v) : Apart p v := Apart.of_nw h.known hn
theorem CelR.fa (h : CelR H p cs) (k : Nat) : vFa k p = some (fp p k) := by
  obtain ⟨a, rfl, _⟩ := h; rfl
theorem CelR.nilC (h : CelR H p cs) : vNilC p = some p := by
  obtain ⟨a, rfl, _⟩ := h; rfl
theorem CelR.ld (h : CelR H p cs) (k : Nat) {x : Value} (hx : cs[k]? = some x) : vLoad (fp p k) H = some x := by
  obtain ⟨a, rfl, _, hc⟩ := h
  obtain ⟨hk, rfl⟩ := List.getElem?_eq_some_iff.mp hx
  exact hc k hk
theorem CelR.ld0 (h : CelR H p cs) {x : Value} (hx : cs[0]? = some x) : vLoad p H = some x := by
  obtain ⟨a, rfl, _, hc⟩ := h
  obtain ⟨hk, rfl⟩ := List.getElem?_eq_some_iff.mp hx
  have := hc 0 hk
  rw [show a.add 0 = a by unfold Addr.add; simp] at this
  exact this
theorem CelR.ldn (h : CelR H p cs) {n : Nat} (hn : cs.length = n) : vLoadN n p H = some (.agg cs.toArray) := by
  obtain ⟨a, rfl, _, hc⟩ := h
  simp only [vLoadN]
  rw [rd_cells (enc := id) a n 0 cs hn (fun i hi => by rw [Nat.zero_add]; exact hc i hi)]
  simp
theorem CelR.cast {ds : List Value} (e : cs = ds) (h : CelR H p cs) : CelR H p ds := e ▸ h
end
theorem OwnE.blk {n : Nat} {α : Type} {enc : α → List Value} {H : Hp} {v : Value} {l : List α} (h : OwnE n enc H v l) (hn : ∀ x, (enc x).length = n) (n0 : 0 < n) {i : Nat} (hi : i < l.length) :
    ∃ a c, v = .slice (some a) l.length c ∧ (∃ o, H a.block = some o) ∧ bk v = some a.block ∧ ∀ j (hj : j < n), H.cell? (a.add (i * n + j)) = (enc l[i])[j]? := by
  have hs := h.sl hn
  obtain ⟨a, c, e, hc⟩ := hs.base hn n0 hi
  have hb : bk v = some a.block := by
    obtain ⟨a', c', e', h1, _⟩ := h
    rw [e] at e'
    simp only [Value.slice.injEq] at e'
    rw [e]
    simp only [bk]
    rw [if_neg (by omega)]
  exact ⟨a, c, e, h.known _ hb, hb, hc⟩
/-- An element of a family, by its pointer. -/
theorem Fam.el {H : Hp} {v : Value} {S : Rg} {fs : List FdL} {f : FdL} (h : Fam H v S fs) {i : Int} (i0 : 0 ≤ i) (i1 : i < fs.length) (e : at_ fd0 fs i = f) :
    ∃ P x, vIx 3 v (.int .i64 i) = some P ∧ CelR H P [.int .i64 f.r, .int .i64 f.c, x] ∧ Ro eI H x f.l ∧ (∀ b, bk P = some b → S b) ∧ (∀ b, bk x = some b → S b) := by
  obtain ⟨L, h1, h2, h3, h4, h5⟩ := h
  obtain ⟨n, rfl⟩ := Int.eq_ofNat_of_zero_le i0
  have hl := h2.len
  have hn : n < L.length := by omega
  obtain ⟨g1, g2, g3⟩ := h2.get hn
  obtain ⟨a, c, rfl, ho, hb, hc⟩ := h1.blk encFv_n (by omega) hn
  have hx := at_get fv0 hn
  subst e
  refine ⟨.pointer (some (a.add (n * 3))), (at_ fv0 L (n : Int)).v, ?_, ⟨_, rfl, by rw [add_block]; exact ho, fun j hj => ?_⟩, g3.ro, fun b hb2 => ?_, fun b hb2 => ?_⟩
  · simp only [vIx]
    rw [if_pos (by omega)]; rfl
  · simp only [List.length_cons, List.length_nil] at hj
    rw [add_add, hc j (by omega), ← hx]
    simp only [encFv]
    have hj3 : j = 0 ∨ j = 1 ∨ j = 2 := by omega
    rcases hj3 with rfl | rfl | rfl
    · simp [g1]
    · simp [g2]
    · simp
  · simp only [bk, add_block, Option.some.injEq] at hb2
    subst hb2
    exact (h5 _).mpr (.inl hb)
  · exact (h5 _).mpr (.inr ⟨_, at_mem fv0 L (by omega) (by omega), hb2⟩)
theorem Apt.ap2 {α : Type} [Bks α] {z : α} {u u' : Value} {H : Hp} (hz : Kn H z) (ha : Apt z u) (hb : ∀ b, bk u' = some b → bk u = some b ∨ H b = none) : Apt z u' := fun b h1 h2 => by
  rcases hb b h2 with h | h
  · exact ha b h1 h
  · obtain ⟨o, ho⟩ := hz b h1
    rw [h] at ho; simp at ho
theorem Mp.cast {H : Hp} {p : Value} {S : Rg} {ms ns : List (ByteArray × Int)} (e : ms = ns) (h : Mp H p S ms) : Mp H p S ns := e ▸ h
def cvBS (P : Program) (s d : TypeId) : Bool := match P.underlying s, P.underlying d with
  | some (.slice e), some .string => (match P.underlying e with | some (.int .u8) => true | _ => false)
  | _, _ => false
theorem val_convBS {P : Program} {s d : TypeId} {H : Hp} {v : Value} {l : List Int} (h : cvBS P s d = true) (hs : Sl eU H v l) : val P (convert s d v) H = some (.string (bytesS .empty l)) := by
  unfold cvBS at h
  split at h
  · rename_i e h1 h2
    split at h
    · rename_i h3
      have hv := val_bytesToString (P := P) hs
      obtain ⟨a, n, c, rfl⟩ := hs.isSl
      unfold convert
      rw [val_bind', val_underlying, h1, Option.bind_some, val_bind', val_underlying, h2, Option.bind_some]
      simp only
      rw [val_bind', val_underlying, h3, Option.bind_some]
      exact hv
    · simp at h
  · simp at h
theorem vCI_u8 {k : IntKind} {a : Int} (h : 0 ≤ a) (h' : a ≤ 255) : vCI .u8 (.int k a) = some (.int .u8 a) := by
  have : IntKind.u8.wrap a = a := by unfold IntKind.wrap; simp [IntKind.signed, IntKind.bits]; omega
  simp only [vCI, this]
end HL
end Go.Proofs.YtijmoehbgkibnaaGreatDoor
/- Texts: bytes turned to texts, small numbers, the rows of a field. -/
namespace Go.Proofs.YtijmoehbgkibnaaGreatDoor
open HL
set_option maxRecDepth 100000
namespace HL
def btT (l : List Int) : List UInt8 := l.map fun n => UInt8.ofNat n.toNat
theorem val_convT {P : Program} {s d : TypeId} {H : Hp} {v : Value} {l : List Int} (h : cvBS P s d = true) (hs : Sl eU H v l) : val P (convert s d v) H = some (vS (btT l)) := by
  rw [val_convBS h hs, tS_of (bytesS .empty l), bytesS_data]
  rfl
theorem Cel.castX {H : Hp} {p : Value} {cs ds : List Value} (e : cs = ds) (h : Cel H p cs) : Cel H p ds := e ▸ h
end HL
def digT : List UInt8 := [48, 49, 50, 51, 52, 53, 54, 55, 56, 57, 97, 98, 99, 100, 101, 102, 103, 104, 105, 106, 107, 108, 109, 110, 111, 112, 113, 114, 115, 116, 117, 118, 119, 120, 121, 122]
def dig2T : List UInt8 := [48, 48, 48, 49, 48, 50, 48, 51, 48, 52, 48, 53, 48, 54, 48, 55, 48, 56, 48, 57, 49, 48, 49, 49, 49, 50, 49, 51, 49, 52, 49, 53, 49, 54, 49, 55, 49, 56, 49, 57, 50, 48, 50, 49, 50, 50, 50, 51, 50, 52, 50, 53, 50, 54, 50, 55, 50, 56, 50, 57, 51, 48, 51, 49, 51, 50, 51, 51, 51, 52, 51, 53, 51, 54, 51, 55, 51, 56, 51, 57, 52, 48, 52, 49, 52, 50, 52, 51, 52, 52, 52, 53, 52, 54, 52, 55, 52, 56, 52, 57, 53, 48, 53, 49, 53, 50, 53, 51, 53, 52, 53, 53, 53, 54, 53, 55, 53, 56, 53, 57, 54, 48, 54, 49, 54, 50, 54, 51, 54, 52, 54, 53, 54, 54, 54, 55, 54, 56, 54, 57, 55, 48, 55, 49, 55, 50, 55, 51, 55, 52, 55, 53, 55, 54, 55, 55, 55, 56, 55, 57, 56, 48, 56, 49, 56, 50, 56, 51, 56, 52, 56, 53, 56, 54, 56, 55, 56, 56, 56, 57, 57, 48, 57, 49, 57, 50, 57, 51, 57, 52, 57, 53, 57, 54, 57, 55, 57, 56, 57, 57]
theorem dig_one : ∀ n : Nat, n < 10 → (digT.drop n).take (n + 1 - n) = decT n := by decide +kernel
theorem dig_two : ∀ n : Nat, n < 100 → 10 ≤ n → (dig2T.drop (n * 2)).take (n * 2 + 2 - n * 2) = decT n := by decide +kernel
theorem small_one {n : Int} (h0 : 0 ≤ n) (h1 : n < 10) : (digT.drop n.toNat).take ((n + 1).toNat - n.toNat) = decT n.toNat := by
  have := dig_one n.toNat (by omega)
  rw [show (n + 1).toNat = n.toNat + 1 by omega]; exact this
theorem small_two {n : Int} (h0 : 10 ≤ n) (h1 : n < 100) : (dig2T.drop (n * 2).toNat).take ((n * 2 + 2).toNat - (n * 2).toNat) = decT n.toNat := by
  have := dig_two n.toNat (by omega) (by omega)
  rw [show (n * 2 + 2).toNat = n.toNat * 2 + 2 by omega, show (n * 2).toNat = n.toNat * 2 by omega]; exact this
theorem num_one {n : Int} (h0 : 0 ≤ n) (h1 : n < 10) : btT [48 + n] = decT n.toNat := by
  unfold btT decT
  rw [if_pos (by omega)]
  simp only [List.map_cons, List.map_nil]
  rw [show (48 + n).toNat = 48 + n.toNat by omega]
theorem num_two {n : Int} (h0 : 10 ≤ n) (h1 : n < 100) : decT (n / 10).toNat ++ btT [48 + n % 10] = decT n.toNat := by
  unfold btT decT
  rw [if_pos (by omega), if_neg (by omega)]
  simp only [List.map_cons, List.map_nil, List.singleton_append]
  rw [show (48 + n % 10).toNat = 48 + n.toNat % 10 by omega, show (n / 10).toNat = n.toNat / 10 by omega]
theorem bo_T {x : Int} (h0 : 0 ≤ x) (h1 : x ≤ 1) : (([98, 111] : List UInt8).drop x.toNat).take ((x + 1).toNat - x.toNat) = [chT x] := by
  rcases show x = 0 ∨ x = 1 by omega with rfl | rfl <;> rfl
theorem chT_1 {x : Int} (h : x = 1) : ([111] : List UInt8) = [chT x] := by subst h; rfl
theorem chT_0 {x : Int} (h : ¬ x = 1) : ([98] : List UInt8) = [chT x] := by unfold chT; rw [if_neg h]
/-- The rows' texts. -/
def rowsT (c : Nat) (l : List Int) (n : Nat) : List (List UInt8) := (List.range n).map fun i => rtx (rowL c l i)
theorem rowsT_len {c : Nat} {l : List Int} {n : Nat} : (rowsT c l n).length = n := by simp [rowsT]
theorem rowsT_succ {c : Nat} {l : List Int} {n : Nat} : rowsT c l (n + 1) = rowsT c l n ++ [rtx (rowL c l n)] := by simp [rowsT, List.range_succ]
theorem rowsT_flat {c : Nat} {l : List Int} : ∀ n : Nat, (rowsT c l n).flatten.length ≤ n * (3 * c)
  | 0 => by simp [rowsT]
  | n + 1 => by
    have ih := rowsT_flat (c := c) (l := l) n
    have h2 := rtx_len c (rowL c l n) (by unfold rowL; simp; omega)
    have h3 : (rowL c l n).length ≤ c := by unfold rowL; simp; omega
    rw [rowsT_succ]
    simp only [List.flatten_append, List.length_append, List.flatten_cons, List.flatten_nil, List.append_nil]
    rw [Nat.add_mul]
    omega
def joinR (c : Nat) (l : List Int) (n : Nat) : List UInt8 := joinT [36] (rowsT c l n)
theorem joinR_zero {c : Nat} {l : List Int} : joinR c l 0 = [] := rfl
theorem joinR_one {c : Nat} {l : List Int} {n : Nat} (h : n = 0) : joinR c l (n + 1) = rtx (rowL c l n) := by
  subst h
  simp [joinR, rowsT, joinT]
theorem joinR_succ {c : Nat} {l : List Int} {n : Nat} (h : 0 < n) : joinR c l (n + 1) = joinR c l n ++ [36] ++ rtx (rowL c l n) := by
  unfold joinR
  rw [rowsT_succ]
  exact joinT_snoc _ _ _ (fun he => by have := congrArg List.length he; rw [rowsT_len] at this; simp at this; omega)
theorem joinR_len {c : Nat} {l : List Int} : ∀ n : Nat, (joinR c l n).length ≤ n * (3 * c + 1)
  | 0 => by simp [joinR_zero]
  | n + 1 => by
    have ih := joinR_len (c := c) (l := l) n
    have h2 := rtx_len c (rowL c l n) (by unfold rowL; simp; omega)
    have h3 : (rowL c l n).length ≤ c := by unfold rowL; simp; omega
    rcases Nat.eq_zero_or_pos n with h | h
    · rw [joinR_one h, Nat.add_mul]; omega
    · rw [joinR_succ h, Nat.add_mul]; simp only [List.length_append, List.length_singleton]; omega
/-- What is written ahead of the rows. -/
def headT (r c : Int) : List UInt8 := decT c.toNat ++ [44] ++ decT r.toNat ++ [58]
theorem headT_len (r c : Int) : (headT r c).length ≤ 6 := by
  have := decT_len c.toNat
  have := decT_len r.toNat
  simp only [headT, List.length_append, List.length_singleton]
  omega
/-- A field's text. -/
def fieldT (r c : Int) (l : List Int) : List UInt8 := headT r c ++ joinR c.toNat l r.toNat ++ [33]
theorem row_mul {r c : Int} {i : Nat} (hs : sidesF r c) (hi : (i : Int) < r) : ((i * c.toNat : Nat) : Int) = (i : Int) * c ∧ 0 ≤ (i : Int) * c ∧ (i : Int) * c + c ≤ r * c ∧ ((i : Int) + 1) * c = (i : Int) * c + c := by
  obtain ⟨⟨_, _⟩, _, _⟩ := hs
  have e : ((i * c.toNat : Nat) : Int) = (i : Int) * c := by rw [Int.natCast_mul, Int.toNat_of_nonneg (by omega)]
  have h1 : ((i : Int) + 1) * c ≤ r * c := Int.mul_le_mul_of_nonneg_right (by omega) (by omega)
  have h2 : ((i : Int) + 1) * c = (i : Int) * c + c := by rw [Int.add_mul, Int.one_mul]
  refine ⟨e, ?_, by omega, h2⟩
  have := Int.mul_nonneg (show (0 : Int) ≤ i by omega) (show 0 ≤ c by omega)
  exact this
theorem row_eq {r c : Int} {l : List Int} {i : Nat} (hs : sidesF r c) (hi : (i : Int) < r) : (l.drop ((i : Int) * c).toNat).take ((((i : Int) + 1) * c).toNat - ((i : Int) * c).toNat) = rowL c.toNat l i := by
  obtain ⟨e, h0, h1, h2⟩ := row_mul hs hi
  unfold rowL
  rw [show ((i : Int) * c).toNat = i * c.toNat by omega, show (((i : Int) + 1) * c).toNat - i * c.toNat = c.toNat by have := hs.2.1; omega]
theorem row_01 {c : Nat} {l : List Int} {i : Nat} (h : ∀ x ∈ l, 0 ≤ x ∧ x ≤ 1) : ∀ x ∈ rowL c l i, 0 ≤ x ∧ x ≤ 1 := fun x hx => h x (List.mem_of_mem_drop (List.mem_of_mem_take hx))
theorem endP_back {row : List Int} {e : Nat} (h : endP row e) (he : 0 < e) (h0 : at_ 0 row ((e : Int) - 1) = 0) {d : Nat} (hd : d = e - 1) : endP row d := by
  subst hd
  refine ⟨by have := h.1; omega, fun q h1 h2 => ?_⟩
  rcases Nat.lt_or_ge q e with h3 | h3
  · rw [show (q : Int) = (e : Int) - 1 by omega]; exact h0
  · exact h.2 q h3 h2
end Go.Proofs.YtijmoehbgkibnaaGreatDoor
/- Fields that are made by a function of rows and columns, and fields that grow. -/
namespace Go.Proofs.YtijmoehbgkibnaaGreatDoor
open HL
set_option maxRecDepth 100000
theorem Apart.app {H : Hp} {x u u' : Value} (hx : ∀ b, bk x = some b → ∃ o, H b = some o) (ha : Apart x u) (hb : ∀ b, bk u' = some b → bk u = some b ∨ H b = none) : Apart x u' := fun b h1 h2 => by
  rcases hb b h2 with h | h
  · exact ha b h1 h
  · obtain ⟨o, ho⟩ := hx b h1; rw [h] at ho; simp at ho
theorem Nw.app {H0 H : Hp} {u u' : Value} (hn : Nw H0 u) (hl : Le H0 H) (hb : ∀ b, bk u' = some b → bk u = some b ∨ H b = none) : Nw H0 u' := fun b h => by
  rcases hb b h with h1 | h1
  · exact hn b h1
  · cases ho : H0 b with
    | none => rfl
    | some o => rw [hl b o ho] at h1; simp at h1
theorem apd_one {α : Type} {enc : α → Value} {z : Value} {b : Nat} {e : TypeId} {u t : Value} {x : α} {l : List α} {H : Hp} {K : Value → Hp → Prop} (o : Own enc H u l) (ot : Sl enc H t [x]) (ho : ∀ x, oneCell (enc x) = true) (hb : b ≤ 64) (hl : l.length ≤ 68719476736)
    (hk : ∀ u' H', Own enc H' u' (l ++ [x]) → Off u H H' → (∀ b, bk u' = some b → bk u = some b ∨ H b = none) → K u' H') : apd 1 b #[z] e u t H K := by
  refine o.apd ot ho (by simp; omega) (fun c hc => ?_) hk
  have := nsc_le hc
  simp only [List.length_singleton] at this ⊢
  exact Nat.le_trans (Nat.mul_le_mul this hb) (by omega)
theorem bS_i {α : Type} {enc : α → Value} {len : Nat} {z : Value} {e : TypeId} {parts : List (Nat × Value)} {l : List α} {H : Hp} {K : Value → Hp → Prop} (h1 : len ≤ 1000) (hl : l.length = len)
    (hf : Instr.fill (fun i => some (i * 1, 1)) (if len * 1 = 0 then #[] else zrow #[z] (len * 1)) parts = some (l.map enc).toArray) (hk : ∀ v H', Own enc H' v l → Nw H v → Le H H' → K v H') : bS 1 len #[z] e parts H K := by
  refine ⟨by omega, ?_⟩
  rw [hf]
  intro r hr
  subst hl
  refine hk _ _ ⟨some ⟨r, 0, none⟩, l.length, rfl, Nat.le_refl _, fun _ => ⟨r, 0, _, e, rfl, Hp.put_same _ _ _, by simp, fun i hi => by simp [hi]⟩⟩ ?_ (Le.put _ hr)
  intro b hb
  simp only [bk] at hb
  split at hb
  · simp at hb
  · simp only [Option.some.injEq] at hb; subst hb; exact hr
/-- A field's cells, row by row, by a function. -/
def mkL (c : Int) (g : Int → Int → Int) (n : Nat) : List Int := (List.range n).map fun (t : Nat) => g ((t : Int) / c) ((t : Int) % c)
theorem mkL_length (c : Int) (g : Int → Int → Int) (n : Nat) : (mkL c g n).length = n := by simp [mkL]
theorem mkL_succ (c : Int) (g : Int → Int → Int) (n : Nat) : mkL c g (n + 1) = mkL c g n ++ [g ((n : Int) / c) ((n : Int) % c)] := by simp [mkL, List.range_succ]
theorem divmod {c : Int} {i k : Int} (hc : 0 < c) (k0 : 0 ≤ k) (k1 : k < c) : (i * c + k) / c = i ∧ (i * c + k) % c = k := by
  constructor
  · rw [Int.add_comm, Int.add_mul_ediv_right _ _ (by omega), Int.ediv_eq_zero_of_lt k0 k1]; omega
  · rw [Int.add_comm, Int.add_mul_emod_self_right, Int.emod_eq_of_lt k0 k1]
theorem cast_ix {c : Int} {i k : Nat} (hc : 0 ≤ c) : ((i * c.toNat + k : Nat) : Int) = i * c + k := by rw [Int.natCast_add, Int.natCast_mul, Int.toNat_of_nonneg hc]
theorem C.impl_madeField {fv : Value} {rr cc : Int} {g : Int → Int → Int} {H : Hp} {K : Value → Hp → Prop} (r1 : 0 ≤ rr) (r2 : rr ≤ 1000) (c1 : 1 ≤ cc) (c2 : cc ≤ 1000)
    (hcl : ∀ H' (i k : Nat) (Z : Value → Hp → Prop), Le H H' → (i : Int) < rr → (k : Int) < cc → (∀ H'', Le H' H'' → Z (.int .i64 (g i k)) H'') → callV prg fv [.int .i64 i, .int .i64 k] H' Z)
    (hk : ∀ u H', Own eI H' u (mkL cc g (rr.toNat * cc.toNat)) → Nw H u → Le H H' → K (.agg #[.int .i64 rr, .int .i64 cc, u]) H') :
    HT prg I.impl_madeField [.int .i64 rr, .int .i64 cc, fv].toArray H K := by
 refine R.impl_madeField ?_
 unfold F.impl_madeField
 refine nw_i (fun q H1 oq nq le1 => ?_)
 replace oq : Cel H1 q [.int .i64 0, .int .i64 0, .slice none 0 0] := oq
 refine ob_i (a := .agg #[.int .i64 rr, .int .i64 cc, .slice none 0 0]) rfl ?_
 refine nw_i (fun s H2 os ns le2 => ?_)
 have aqs : Apart q s := oq.apart ns
 replace oq := oq.le le2
 have ns0 : Nw H s := ns.le le1
 have nq0 : Nw H q := nq
 refine os.stn (ws := [.int .i64 rr, .int .i64 cc, .slice none 0 0]) rfl rfl (by simp [oneCell]) (fun H3 os off3 => ?_)
 replace oq := oq.off off3 aqs
 have leB : Le H H3 := off3.le (le1.trans le2) ns0
 refine jn_i (fun σ' H' => σ' 6 = q ∧ σ' 7 = s ∧ Cel H' q [.int .i64 0, .int .i64 0, .slice none 0 0] ∧ Le H H' ∧ ∃ u, Cel H' s [.int .i64 rr, .int .i64 cc, u] ∧ Own eI H' u (mkL cc g (rr.toNat * cc.toNat)) ∧ Nw H u ∧ Apart q u) (fun σ' H' hP => ?_) (fun J7 hJ7 => ?_)
 ·obtain ⟨g6, g7, oq, le, u, os, ou, nu, aqu⟩ := hP
  rw [g6, g7]
  refine ob_i (os.ldn rfl) ?_
  refine oq.stn (ws := [.int .i64 rr, .int .i64 cc, u]) rfl rfl (oc1 rfl (oc1 rfl (oc1 ou.one oc0))) (fun H6 oq off6 => ?_)
  refine ob_i (oq.ldn rfl) ?_
  exact hk u H6 (ou.off off6 aqu.symm) nu (off6.le le nq0)
 refine ⟨fun n σ H4 => ∃ i : Nat, n = rr.toNat - i ∧ (i : Int) ≤ rr ∧ σ 1 = .int .i64 cc ∧ σ 2 = fv ∧ σ 6 = q ∧ σ 7 = s ∧ σ 13 = .int .i64 rr ∧ σ 14 = .int .i64 i ∧ Cel H4 q [.int .i64 0, .int .i64 0, .slice none 0 0] ∧ Le H H4 ∧
   ∃ u, Cel H4 s [.int .i64 rr, .int .i64 cc, u] ∧ Own eI H4 u (mkL cc g (i * cc.toNat)) ∧ Nw H u ∧ Apart q u ∧ Apart s u,
  ⟨_, 0, rfl, by omega, rfl, rfl, rfl, rfl, rfl, rfl, oq, leB, .slice none 0 0, os, by rw [Nat.zero_mul]; exact Own.nil_of none, fun b hb => by simp [bk] at hb, fun b _ hb => by simp [bk] at hb, fun b _ hb => by simp [bk] at hb⟩, ?_⟩
 rintro n σ H4 ⟨i, rfl, hiR, g1, g2, g6, g7, g13, g14, oq, le4, hu⟩
 simp only [g1, g13, g14, vInt_lss, ob_some]
 refine cnd_d (fun hlt => ?_) (fun hge => ?_)
 ·refine jn_i (fun σ' H' => σ' 1 = .int .i64 cc ∧ σ' 2 = fv ∧ σ' 6 = q ∧ σ' 7 = s ∧ σ' 13 = .int .i64 rr ∧ σ' 14 = .int .i64 i ∧ Cel H' q [.int .i64 0, .int .i64 0, .slice none 0 0] ∧ Le H H' ∧
    ∃ u, Cel H' s [.int .i64 rr, .int .i64 cc, u] ∧ Own eI H' u (mkL cc g ((i + 1) * cc.toNat)) ∧ Nw H u ∧ Apart q u ∧ Apart s u) (fun σ' H' hP => ?_) (fun J13 hJ13 => ?_)
  ·obtain ⟨z1, z2, z6, z7, z13, z14, zq, zle, zu⟩ := hP
   rw [z14, vInt_add (by omega) (by omega), ob_some]
   exact nxt (rr.toNat - (i + 1)) (by omega) ⟨i + 1, rfl, by omega, z1, z2, z6, z7, z13, rfl, zq, zle, zu⟩
  refine ⟨fun n σ H5 => ∃ k : Nat, n = cc.toNat - k ∧ (k : Int) ≤ cc ∧ σ 1 = .int .i64 cc ∧ σ 2 = fv ∧ σ 6 = q ∧ σ 7 = s ∧ σ 13 = .int .i64 rr ∧ σ 14 = .int .i64 i ∧ σ 8 = .int .i64 i ∧ σ 17 = .int .i64 cc ∧ σ 18 = .int .i64 k ∧ Cel H5 q [.int .i64 0, .int .i64 0, .slice none 0 0] ∧ Le H H5 ∧
    ∃ u, Cel H5 s [.int .i64 rr, .int .i64 cc, u] ∧ Own eI H5 u (mkL cc g (i * cc.toNat + k)) ∧ Nw H u ∧ Apart q u ∧ Apart s u,
   ⟨_, 0, rfl, by omega, g1, g2, g6, g7, g13, g14, rfl, rfl, rfl, oq, le4, hu⟩, ?_⟩
  rintro n σ H5 ⟨k, rfl, hkC, z1, z2, z6, z7, z13, z14, z8, z17, z18, zq, le5, u, zs, zu, nu, aqu, asu⟩
  simp only [z2, z7, z8, z17, z18, vInt_lss, ob_some]
  refine cnd_d (fun hkl => ?_) (fun hkg => ?_)
  ·simp only [zs.fa, zs.ld 2 rfl, ob_some]
   refine hcl H5 i k _ le5 hlt hkl (fun H6 le6 => ⟨le6, ?_⟩)
   refine bS_i (enc := eI) (l := [g i k]) (by omega) rfl (by kernel_rfl) (fun t H7 ot nt le7 => ?_)
   have le57 := le6.trans le7
   replace zq := zq.le le57
   replace zs := zs.le le57
   replace zu := zu.le le57
   have leB7 := le5.trans le57
   have hlen : (mkL cc g (i * cc.toNat + k)).length ≤ 68719476736 := by
    rw [mkL_length]
    have : i * cc.toNat ≤ 1000 * 1000 := Nat.mul_le_mul (by omega) (by omega)
    omega
   refine apd_one zu ot.sl (fun _ => rfl) (by omega) hlen (fun u' H8 ou' off8 hbk => ?_)
   have aqu' : Apart q u' := Apart.app zq.known aqu hbk
   have asu' : Apart s u' := Apart.app zs.known asu hbk
   have nu' : Nw H u' := Nw.app nu leB7 hbk
   replace zq := zq.off off8 aqu
   replace zs := zs.off off8 asu
   have leB8 : Le H H8 := off8.le leB7 nu
   refine zs.st (by simp) ou'.one ou'.cells (fun H9 os9 off9 => ?_)
   rw [vInt_add (by omega) (by omega), ob_some]
   refine nxt (cc.toNat - (k + 1)) (by omega) ⟨k + 1, rfl, by omega, z1, z2, z6, z7, z13, z14, z8, z17, rfl, zq.off off9 aqs, off9.le leB8 ns0, u', os9, ?_, nu', aqu', asu'⟩
   have hd := divmod (c := cc) (i := i) (k := k) (by omega) (by omega) hkl
   rw [← Nat.add_assoc, mkL_succ, cast_ix (by omega), hd.1, hd.2]
   exact ou'.off off9 asu'.symm
  ·have e : k = cc.toNat := by omega
   refine hJ13 _ _ ⟨z1, z2, z6, z7, z13, z14, zq, le5, u, zs, ?_, nu, aqu, asu⟩
   rw [Nat.add_mul, Nat.one_mul, ← e]; rw [← e] at zu; exact zu
 ·have e : i = rr.toNat := by omega
  subst e
  obtain ⟨u, os, ou, nu, aqu, asu⟩ := hu
  exact hJ7 _ _ ⟨g6, g7, oq, le4, u, os, ou, nu, aqu⟩
/-- A cell, or 0 beyond the border. -/
def flatF (r c : Int) (l : List Int) (i k : Int) : Int := if (0 ≤ i ∧ i ≤ r - 1) ∧ 0 ≤ k ∧ k ≤ c - 1 then at_ 0 l (i * c + k) else 0
theorem C.impl_Field_has {vc : Value} {r c i k : Int} {H : Hp} {K : Value → Hp → Prop} (hs : sidesF r c) (hk : ∀ H', Le H H' → K (.bool (decide ((0 ≤ i ∧ i ≤ r - 1) ∧ 0 ≤ k ∧ k ≤ c - 1))) H') :
    HT prg I.impl_Field_has [.agg #[.int .i64 r, .int .i64 c, vc], .int .i64 i, .int .i64 k].toArray H K := by
 refine R.impl_Field_has ?_
 unfold F.impl_Field_has
 refine nw_i (fun p H1 hp np le1 => ?_)
 replace hk := hk H1 le1
 have q1 := hs.1
 have q2 := hs.2
 simp only [hp.fa, hp.ld 0 rfl, ob_some]
 rw [vInt_sub (by omega) (by omega), ob_some]
 refine C.impl_within ?_
 by_cases c1 : 0 ≤ i ∧ i ≤ r - 1
 ·simp only [decide_eq_true c1, hp.fa, hp.ld 1 rfl, EV]
  rw [vInt_sub (by omega) (by omega), ob_some]
  refine C.impl_within ?_
  exact kQ (K := K) hk ⟨fun h => h.2, fun h => ⟨c1, h⟩⟩
 ·simp only [decide_eq_false c1, EV]; exact kF (K := K) hk (fun h => c1 h.1)
theorem C.look_flat {vc : Value} {r c i k : Int} {l : List Int} {H : Hp} {K : Value → Hp → Prop} (hc : Sl eI H vc l) (hs : sidesF r c) (hl : (l.length : Int) = r * c)
    (hk : ∀ H', Le H H' → K (.int .i64 (flatF r c l i k)) H') : HT prg I.impl_Field_look [.agg #[.int .i64 r, .int .i64 c, vc], .int .i64 i, .int .i64 k, .bool false].toArray H K := by
 refine R.impl_Field_look ?_
 unfold F.impl_Field_look
 refine nw_i (fun p H1 hp np le1 => ?_)
 refine cnd_f1 ?_
 refine ob_i (hp.ldn rfl) ?_
 refine C.impl_Field_has hs (fun H2 le2 => ?_)
 rw [vUn_not, ob_some]
 have m := sidesF_mul hs
 by_cases c1 : (0 ≤ i ∧ i ≤ r - 1) ∧ 0 ≤ k ∧ k ≤ c - 1
 ·have hk' := fun H' h => hk H' h
  simp only [flatF, c1, and_self, if_true] at hk'
  simp only [decide_eq_true c1, EV]
  refine ob_i ((hp.le le2).ldn rfl) ?_
  have a1 := Int.mul_nonneg (a := i) (b := c) (by omega) (by have := hs.2; omega)
  have a2 := Int.mul_le_mul (a := i) (b := c) (c := r - 1) (d := c) (by omega) (by omega) (by have := hs.2; omega) (by have := hs.1; omega)
  rw [Int.sub_mul] at a2
  refine C.impl_Field_at (hc.le (le1.trans le2)) (by omega) (by have := hs.2; omega) (by omega) (by rw [hl]; omega) (by omega) (fun H3 le3 => ?_)
  exact hk' _ ((le1.trans le2).trans le3)
 ·have h1 := hk H2 (le1.trans le2)
  simp only [flatF, c1, if_false] at h1
  simp only [decide_eq_false c1, EV]; exact h1
end Go.Proofs.YtijmoehbgkibnaaGreatDoor
/- Fields with a border of zeros: the program's and the reference's. -/
namespace Go.Proofs.YtijmoehbgkibnaaGreatDoor
open HL
set_option maxRecDepth 100000
def groOk (r c : Int) (l : List Int) (b : Int) : Prop := fieldN 1 r c l ∧ (0 ≤ b ∧ b ≤ 24) ∧ (1 ≤ r + 2 * b ∧ r + 2 * b ≤ 24) ∧ (1 ≤ c + 2 * b ∧ c + 2 * b ≤ 24)
instance (r c : Int) (l : List Int) (b : Int) : Decidable (groOk r c l b) := by unfold groOk; infer_instance
def groG (r c : Int) (l : List Int) (b : Int) (i k : Int) : Int := flatF r c l (i - b) (k - b)
def groW (r c : Int) (l : List Int) (b : Int) : List Int := mkL (c + 2 * b) (groG r c l b) ((r + 2 * b).toNat * (c + 2 * b).toNat)
def groL (r c : Int) (l : List Int) (b : Int) : List Int := if groOk r c l b then groW r c l b else []
def groI (x r c : Int) (l : List Int) (b : Int) : Int := if groOk r c l b then x else 0
theorem C.impl_GrowField_1 {p q vc : Value} {r c b i k : Int} {l : List Int} {H : Hp} {K : Value → Hp → Prop} (hp : Cel H p [.int .i64 r, .int .i64 c, vc]) (hq : Cel H q [.int .i64 b]) (hc : Sl eI H vc l) (hs : sidesF r c) (hl : (l.length : Int) = r * c)
    (b0 : 0 ≤ b) (b1 : b ≤ 24) (i0 : 0 ≤ i) (i1 : i ≤ 1000) (k0 : 0 ≤ k) (k1 : k ≤ 1000) (hk : ∀ H', Le H H' → K (.int .i64 (groG r c l b i k)) H') : HT prg I.impl_GrowField_1 [.int .i64 i, .int .i64 k, p, q].toArray H K := by
 refine R.impl_GrowField_1 ?_
 unfold F.impl_GrowField_1
 refine ob_i (hp.ldn rfl) ?_
 refine ob_i (hq.ld0 rfl) ?_
 refine ob_i (vInt_sub (by omega) (by omega)) ?_
 refine ob_i (hq.ld0 rfl) ?_
 refine ob_i (vInt_sub (by omega) (by omega)) ?_
 exact C.look_flat hc hs hl hk
theorem C.impl_GrowField {vc : Value} {r c b : Int} {l : List Int} {H : Hp} {K : Value → Hp → Prop} (hc : Sl eI H vc l)
    (k1 : l.length ≤ 9223372036854775807)
    (hk : ∀ u H', Own eI H' u (groL r c l b) → Nw H u → Le H H' → K (.tuple #[.agg #[.int .i64 (groI (r + 2 * b) r c l b), .int .i64 (groI (c + 2 * b) r c l b), u], .bool (decide (groOk r c l b))]) H') :
    HT prg I.impl_GrowField [.agg #[.int .i64 r, .int .i64 c, vc], .int .i64 b].toArray H K := by
 refine R.impl_GrowField ?_
 unfold F.impl_GrowField
 refine nw_i (fun p H1 hp np le1 => ?_)
 replace hp : Cel H1 p [.int .i64 r, .int .i64 c, vc] := hp
 refine nw_i (fun q H2 oq nq le2 => ?_)
 replace oq : Cel H2 q [.int .i64 b] := oq
 replace hp := hp.le le2
 refine nw_i (fun s H3 os ns le3 => ?_)
 replace os : Cel H3 s [.int .i64 0, .int .i64 0, .slice none 0 0] := os
 replace hp := hp.le le3
 replace oq := oq.le le3
 have le13 := (le1.trans le2).trans le3
 have ns0 : Nw H s := ns.le (le1.trans le2)
 refine ob_i (hp.ldn rfl) ?_
 refine C.impl_isPlain (hc.le le13) k1 (fun H4 le4 => ?_)
 replace hp := hp.le le4
 replace oq := oq.le le4
 replace os := os.le le4
 have leB := le13.trans le4
 have bad : ¬ groOk r c l b → HL.ob (vBuild [(0, 1), (1, 1), (2, 1)] (.agg #[(.int .i64 0), (.int .i64 0), (.slice none 0 0)]) []) fun v32 =>
   st 3 s v32 H4 fun H66 => HL.ob (vLoadN 3 s H66) fun u67 => K (.tuple #[u67, (.bool false)]) H66 := by
  intro hn
  refine ob_i (a := .agg #[.int .i64 0, .int .i64 0, .slice none 0 0]) rfl ?_
  refine os.stn (ws := [.int .i64 0, .int .i64 0, .slice none 0 0]) rfl rfl (by simp [oneCell]) (fun H5 os off5 => ?_)
  refine ob_i (os.ldn rfl) ?_
  have h1 := hk (.slice none 0 0) H5
  simp only [groL, groI, hn, if_false, decide_false] at h1
  exact h1 (Own.nil_of none) (fun b hb => by simp [bk] at hb) (off5.le leB ns0)
 rw [vUn_not, ob_some]
 by_cases c1 : fieldN 1 r c l
 ·have q1 := c1.1.1
  have q2 := c1.1.2
  simp only [decide_eq_true c1, oq.ld0 (x := .int .i64 b) rfl, EV]
  refine C.impl_within ?_
  by_cases c2 : 0 ≤ b ∧ b ≤ 24
  ·have m1 : vInt .mul (.int .i64 2) (.int .i64 b) = some (.int .i64 (2 * b)) := vInt_mul (by omega) (by omega)
   have m2 : vInt .add (.int .i64 r) (.int .i64 (2 * b)) = some (.int .i64 (r + 2 * b)) := vInt_add (by omega) (by omega)
   have m3 : vInt .add (.int .i64 c) (.int .i64 (2 * b)) = some (.int .i64 (c + 2 * b)) := vInt_add (by omega) (by omega)
   simp only [decide_eq_true c2, hp.fa, hp.ld 0 rfl, oq.ld0 (x := .int .i64 b) rfl, m1, m2, EV]
   refine C.impl_isSide ?_
   by_cases c3 : 1 ≤ r + 2 * b ∧ r + 2 * b ≤ 24
   ·simp only [decide_eq_true c3, hp.fa, hp.ld 1 rfl, oq.ld0 (x := .int .i64 b) rfl, m1, m3, EV]
    refine C.impl_isSide ?_
    by_cases c4 : 1 ≤ c + 2 * b ∧ c + 2 * b ≤ 24
    ·have hok : groOk r c l b := ⟨c1, c2, c3, c4⟩
     simp only [decide_eq_true c4, hp.fa, hp.ld 0 rfl, hp.ld 1 rfl, oq.ld0 (x := .int .i64 b) rfl, m1, m2, m3, EV]
     refine C.impl_madeField (g := groG r c l b) (by omega) (by omega) (by omega) (by omega) (fun H' i k Z le hi hk' hZ => ?_) (fun u H5 ou nu le5 => ?_)
     ·refine ⟨by kernel_rfl, ?_⟩
      exact C.impl_GrowField_1 (hp.le le) (oq.le le) (hc.le (leB.trans le)) c1.1 c1.2.1 c2.1 c2.2 (by omega) (by omega) (by omega) (by omega) hZ
     ·have asu : Apart s u := os.apart nu
      replace os := os.le le5
      refine os.stn (ws := [.int .i64 (r + 2 * b), .int .i64 (c + 2 * b), u]) rfl rfl (oc1 rfl (oc1 rfl (oc1 ou.one oc0))) (fun H6 os off6 => ?_)
      refine ob_i (os.ldn rfl) ?_
      have h1 := hk u H6
      simp only [groL, groI, hok, if_true, decide_true] at h1
      exact h1 (ou.off off6 asu.symm) (nu.le leB) (off6.le (leB.trans le5) ns0)
    ·simp only [decide_eq_false c4, EV]; exact bad (fun h => c4 h.2.2.2)
   ·simp only [decide_eq_false c3, EV]; exact bad (fun h => c3 h.2.2.1)
  ·simp only [decide_eq_false c2, EV]; exact bad (fun h => c2 h.2.1)
 ·simp only [decide_eq_false c1, EV]; exact bad (fun h => c1 h.1)
theorem C.spec_l04New {rr cc : Int} {H : Hp} {K : Value → Hp → Prop} (r0 : 0 ≤ rr) (r1 : rr ≤ 24) (c0 : 0 ≤ cc) (c1 : cc ≤ 24)
    (hk : ∀ u H', Own eI H' u (List.replicate (rr.toNat * cc.toNat) 0) → Nw H u → Le H H' → K (.agg #[.int .i64 rr, .int .i64 cc, u]) H') : HT prg I.spec_l04New [.int .i64 rr, .int .i64 cc].toArray H K := by
 refine R.spec_l04New ?_
 unfold F.spec_l04New
 have m := Int.mul_le_mul r1 c1 c0 (by omega)
 have m0 := Int.mul_nonneg r0 c0
 refine nw_i (fun q H1 oq nq le1 => ?_)
 rw [vInt_mul (by omega) (by omega), ob_some]
 refine Own.mk_ (z := (0 : Int)) (by omega) (by omega) (by omega) (by omega) (fun u H2 ou nu le2 => ?_)
 have aqu : Apart q u := oq.apart nu
 replace oq := oq.le le2
 refine ob_i (a := .agg #[.int .i64 rr, .int .i64 cc, u]) (by obtain ⟨_, _, _, rfl⟩ := ou.isSl; rfl) ?_
 refine oq.stn (ws := [.int .i64 rr, .int .i64 cc, u]) rfl rfl (oc1 rfl (oc1 rfl (oc1 ou.one oc0))) (fun H3 oq off3 => ?_)
 refine ob_i (oq.ldn rfl) ?_
 rw [Int.toNat_mul r0 c0] at ou
 exact hk u H3 (ou.off off3 aqu.symm) (nu.le le1) (off3.le (le1.trans le2) nq)
end Go.Proofs.YtijmoehbgkibnaaGreatDoor
/- The smallest part of a field with all cells of 1. -/
namespace Go.Proofs.YtijmoehbgkibnaaGreatDoor
open HL
set_option maxRecDepth 100000
theorem ix_lt {a b r c : Int} (a0 : 0 ≤ a) (a1 : a < r) (b0 : 0 ≤ b) (b1 : b < c) : 0 ≤ a * c ∧ a * c + b < r * c := by
  have := Int.mul_nonneg a0 (show (0 : Int) ≤ c by omega)
  have := Int.mul_le_mul (a := a) (b := c) (c := r - 1) (d := c) (by omega) (by omega) (by omega) (by omega)
  rw [Int.sub_mul] at this
  omega
theorem ix_le {a b : Int} (a0 : 0 ≤ a) (a1 : a ≤ 24) (b0 : 0 ≤ b) (b1 : b ≤ 24) : 0 ≤ a * b ∧ a * b ≤ 576 := by
  have := Int.mul_nonneg a0 b0
  have := Int.mul_le_mul a1 b1 b0 (by omega)
  omega
/-- A part of a field. -/
def cutG (c : Int) (l : List Int) (row col i k : Int) : Int := at_ 0 l ((row + i) * c + col + k)
/-- Where the cells of 1 lie, of the first t cells: top, bottom, left, right. -/
def trStep (c : Int) (l : List Int) (s : Int × Int × Int × Int) (j : Nat) : Int × Int × Int × Int :=
  if at_ 0 l (j : Int) = 1 then (min s.1 ((j : Int) / c), max s.2.1 ((j : Int) / c), min s.2.2.1 ((j : Int) % c), max s.2.2.2 ((j : Int) % c)) else s
def trS (r c : Int) (l : List Int) (t : Nat) : Int × Int × Int × Int := (List.range t).foldl (trStep c l) (r, -1, c, -1)
theorem trS_t {r c : Int} {l : List Int} {t : Nat} (h : at_ 0 l (t : Int) = 1) :
    trS r c l (t + 1) = (min (trS r c l t).1 ((t : Int) / c), max (trS r c l t).2.1 ((t : Int) / c), min (trS r c l t).2.2.1 ((t : Int) % c), max (trS r c l t).2.2.2 ((t : Int) % c)) := by
  unfold trS
  rw [List.range_succ, List.foldl_append, List.foldl_cons, List.foldl_nil, trStep, if_pos h]
theorem trS_f {r c : Int} {l : List Int} {t : Nat} (h : ¬ at_ 0 l (t : Int) = 1) : trS r c l (t + 1) = trS r c l t := by
  unfold trS
  rw [List.range_succ, List.foldl_append, List.foldl_cons, List.foldl_nil, trStep, if_neg h]
theorem trS_inv {r c : Int} {l : List Int} (hs : sidesF r c) : ∀ t : Nat, (t : Int) ≤ r * c →
    trS r c l t = (r, -1, c, -1) ∨ ((0 ≤ (trS r c l t).1 ∧ (trS r c l t).1 ≤ (trS r c l t).2.1 ∧ (trS r c l t).2.1 < r) ∧ 0 ≤ (trS r c l t).2.2.1 ∧ (trS r c l t).2.2.1 ≤ (trS r c l t).2.2.2 ∧ (trS r c l t).2.2.2 < c)
  | 0, _ => .inl rfl
  | t + 1, h => by
    have q1 := hs.1
    have q2 := hs.2
    have d1 := Int.ediv_nonneg (a := (t : Int)) (b := c) (by omega) (by omega)
    have d2 : (t : Int) / c < r := Int.ediv_lt_of_lt_mul (by omega) (by omega)
    have d3 := Int.emod_nonneg (t : Int) (b := c) (by omega)
    have d4 := Int.emod_lt_of_pos (t : Int) (b := c) (by omega)
    by_cases e : at_ 0 l (t : Int) = 1
    · rw [trS_t e]
      refine .inr ?_
      rcases trS_inv (l := l) hs t (by omega) with h1 | h1
      · rw [h1]; simp only; omega
      · simp only; omega
    · rw [trS_f e]
      exact trS_inv hs t (by omega)
theorem trS_bnd {r c : Int} {l : List Int} (hs : sidesF r c) (t : Nat) (h : (t : Int) ≤ r * c) : (0 ≤ (trS r c l t).1 ∧ (trS r c l t).1 ≤ r ∧ -1 ≤ (trS r c l t).2.1 ∧ (trS r c l t).2.1 < r) ∧ 0 ≤ (trS r c l t).2.2.1 ∧ (trS r c l t).2.2.1 ≤ c ∧ -1 ≤ (trS r c l t).2.2.2 ∧ (trS r c l t).2.2.2 < c := by
  have q1 := hs.1
  have q2 := hs.2
  rcases trS_inv (l := l) hs t h with h1 | h1
  · rw [h1]; simp only; omega
  · omega
theorem trS_ok {r c : Int} {l : List Int} (hs : sidesF r c) (t : Nat) (h : (t : Int) ≤ r * c) (hb : 0 ≤ (trS r c l t).2.1) : (trS r c l t).1 ≤ (trS r c l t).2.1 ∧ (trS r c l t).2.2.1 ≤ (trS r c l t).2.2.2 := by
  rcases trS_inv (l := l) hs t h with h1 | h1
  · rw [h1] at hb; simp only at hb; omega
  · omega
/-- The smallest part: its sides, its cells, and where it begins. -/
def trm (r c : Int) (l : List Int) : Int × Int × Int × Int := trS r c l (r * c).toNat
def trR (r c : Int) (l : List Int) : Int := (trm r c l).2.1 - (trm r c l).1 + 1
def trC (r c : Int) (l : List Int) : Int := (trm r c l).2.2.2 - (trm r c l).2.2.1 + 1
def trL (r c : Int) (l : List Int) : List Int := mkL (trC r c l) (cutG c l (trm r c l).1 (trm r c l).2.2.1) ((trR r c l).toNat * (trC r c l).toNat)
theorem trm_bnd {r c : Int} {l : List Int} (hs : sidesF r c) (hb : 0 ≤ (trm r c l).2.1) : 0 ≤ (trm r c l).1 ∧ 0 ≤ (trm r c l).2.2.1 ∧ 1 ≤ trR r c l ∧ 1 ≤ trC r c l ∧ (trm r c l).1 + trR r c l ≤ r ∧ (trm r c l).2.2.1 + trC r c l ≤ c := by
  have m := sidesF_mul hs
  have b := trS_bnd (l := l) hs (r * c).toNat (by omega)
  have d := trS_ok (l := l) hs (r * c).toNat (by omega) hb
  unfold trR trC trm
  omega
def trimOk (r c : Int) (l : List Int) : Prop := fieldN 1 r c l ∧ 0 ≤ (trm r c l).2.1
instance (r c : Int) (l : List Int) : Decidable (trimOk r c l) := by unfold trimOk; infer_instance
def trimI (x r c : Int) (l : List Int) : Int := if trimOk r c l then x else 0
def trimL (r c : Int) (l : List Int) : List Int := if trimOk r c l then trL r c l else []
theorem C.impl_Field_cut_1 {p q s vc : Value} {r c row col i k : Int} {l : List Int} {H : Hp} {K : Value → Hp → Prop} (hp0 : Cel H p [.int .i64 r, .int .i64 c, vc]) (hq0 : Cel H q [.int .i64 row]) (hs0 : Cel H s [.int .i64 col]) (hvc0 : Sl eI H vc l) (hs : sidesF r c) (hl : (l.length : Int) = r * c)
    (h0 : 0 ≤ row + i) (h1 : 0 ≤ col + k) (h2 : row + i < r) (h3 : col + k < c) (hk : ∀ H', Le H H' → K (.int .i64 (cutG c l row col i k)) H') : HT prg I.impl_Field_cut_1 [.int .i64 i, .int .i64 k, p, q, s].toArray H K := by
 unfold cutG at hk
 have hs' := hs
 have lE := Le.refl H
 have hp := hp0
 have hq := hq0
 have hsx := hs0
 have hvc := hvc0
 refine R.impl_Field_cut_1 ?_
 unfold F.impl_Field_cut_1
 have x1 := ix_lt (a := row + i) (b := col + k) (r := r) (c := c) (by omega) (by omega) (by omega) (by omega)
 have m := sidesF_mul hs
 have q1 := hs.1
 have q2 := hs.2
 refine ob_i (hp.ldn rfl) ?_
 refine ob_i (hq.ld0 rfl) ?_
 refine ob_i (vInt_add (by omega) (by omega)) ?_
 refine ob_i (hsx.ld0 rfl) ?_
 refine ob_i (vInt_add (by omega) (by omega)) ?_
 refine C.impl_Field_at hvc (by omega) (by omega) (by omega) (by omega) (by omega) (fun H1 le2 => ?_)
 replace lE := lE.trans le2
 rw [show (row + i) * c + (col + k) = (row + i) * c + col + k by omega]
 exact hk _ lE
theorem C.impl_Field_cut {vc : Value} {r c row col rows cols : Int} {l : List Int} {H : Hp} {K : Value → Hp → Prop} (hvc0 : Sl eI H vc l) (hs : sidesF r c) (hl : (l.length : Int) = r * c)
    (h0 : 0 ≤ row) (h1 : 0 ≤ col) (h2 : 1 ≤ rows) (h3 : 1 ≤ cols) (h4 : row + rows ≤ r) (h5 : col + cols ≤ c) (hk : ∀ u H', Own eI H' u (mkL cols (cutG c l row col) (rows.toNat * cols.toNat)) → Nw H u → Le H H' → K (.agg #[.int .i64 rows, .int .i64 cols, u]) H') :
    HT prg I.impl_Field_cut [.agg #[.int .i64 r, .int .i64 c, vc], .int .i64 row, .int .i64 col, .int .i64 rows, .int .i64 cols].toArray H K := by
 have lE := Le.refl H
 have hvc := hvc0
 refine R.impl_Field_cut ?_
 unfold F.impl_Field_cut
 have q1 := hs.1
 have q2 := hs.2
 refine nw_i (fun p1 H2 op1 nn3 le4 => ?_)
 replace hvc := hvc.le le4
 replace lE := lE.trans le4
 replace op1 : Cel H2 p1 [(.int .i64 (r)), (.int .i64 (c)), vc] := op1
 refine nw_i (fun p5 H6 op5 nn7 le8 => ?_)
 replace op1 := op1.le le8
 replace hvc := hvc.le le8
 replace lE := lE.trans le8
 replace op5 : Cel H6 p5 [(.int .i64 (row))] := op5
 refine nw_i (fun p9 H10 op9 nn11 le12 => ?_)
 replace op1 := op1.le le12
 replace op5 := op5.le le12
 replace hvc := hvc.le le12
 replace lE := lE.trans le12
 replace op9 : Cel H10 p9 [(.int .i64 (col))] := op9
 refine nw_i (fun p13 H14 op13 nn15 le16 => ?_)
 have np13 : Nw H p13 := nn15.le lE
 replace op1 := op1.le le16
 replace op5 := op5.le le16
 replace op9 := op9.le le16
 replace hvc := hvc.le le16
 replace lE := lE.trans le16
 replace op13 : Cel H14 p13 [(.int .i64 (0)), (.int .i64 (0)), (.slice none 0 0)] := op13
 refine C.impl_madeField (g := cutG c l row col) (by omega) (by omega) (by omega) (by omega) (fun H' i k Z le hi hk' hZ => ?_) (fun u17 H18 ou17 nn19 le20 => ?_)
 ·refine ⟨by kernel_rfl, ?_⟩
  exact C.impl_Field_cut_1 (op1.le le) (op5.le le) (op9.le le) (hvc.le le) hs hl (by omega) (by omega) (by omega) (by omega) hZ
 have ap13Xu17 : Apart p13 u17 := op13.apart nn19
 have nu17 : Nw H u17 := nn19.le lE
 replace op13 := op13.le le20
 replace hvc := hvc.le le20
 replace lE := lE.trans le20
 refine op13.stn (ws := [(.int .i64 (rows)), (.int .i64 (cols)), u17]) rfl rfl (oc1 rfl (oc1 rfl (oc1 ou17.one oc0))) (fun H21 op13 off22 => ?_)
 replace ou17 := ou17.off off22 ap13Xu17.symm
 replace hvc := hvc0.le (off22.le lE np13)
 replace lE := off22.le lE np13
 replace op13 : Cel H21 p13 [(.int .i64 (rows)), (.int .i64 (cols)), u17] := op13
 refine ob_i (op13.ldn rfl) ?_
 exact hk u17 _ ou17 nu17 lE
theorem C.impl_Field_trimmed {vc : Value} {r c : Int} {l : List Int} {H : Hp} {K : Value → Hp → Prop} (hvc0 : Sl eI H vc l) (hs : sidesF r c) (hl : (l.length : Int) = r * c)
    (hk1 : (trm r c l).2.1 < 0 → ∀ H', Le H H' → K (.tuple #[.agg #[.int .i64 0, .int .i64 0, .slice none 0 0], .int .i64 0, .int .i64 0, .bool false]) H')
    (hk2 : 0 ≤ (trm r c l).2.1 → ∀ u H', Own eI H' u (trL r c l) → Nw H u → Le H H' → K (.tuple #[.agg #[.int .i64 (trR r c l), .int .i64 (trC r c l), u], .int .i64 (trm r c l).1, .int .i64 (trm r c l).2.2.1, .bool true]) H') :
    HT prg I.impl_Field_trimmed [.agg #[.int .i64 r, .int .i64 c, vc]].toArray H K := by
 have q1 := hs.1
 have q2 := hs.2
 have m := sidesF_mul hs
 change (trS r c l (r * c).toNat).2.1 < 0 → _ at hk1
 change 0 ≤ (trS r c l (r * c).toNat).2.1 → _ at hk2
 have lE := Le.refl H
 have hvc := hvc0
 refine R.impl_Field_trimmed ?_
 unfold F.impl_Field_trimmed
 refine nw_i (fun p H1 op nn2 le3 => ?_)
 replace hvc := hvc.le le3
 replace lE := lE.trans le3
 replace op : Cel H1 p [(.int .i64 (r)), (.int .i64 (c)), vc] := op
 refine nw_i (fun q H4 oq nn5 le6 => ?_)
 have nq : Nw H q := nn5.le lE
 replace op := op.le le6
 replace hvc := hvc.le le6
 replace lE := lE.trans le6
 replace oq : Cel H4 q [(.int .i64 (0)), (.int .i64 (0)), (.slice none 0 0)] := oq
 refine ob_i (op.fa 0) ?_
 refine ob_i (op.ld 0 rfl) ?_
 refine ob_i (op.fa 1) ?_
 refine ob_i (op.ld 1 rfl) ?_
 refine jn_i (fun σ' H' => σ' 1 = p ∧ σ' 2 = q ∧ σ' 6 = (.int .i64 ((trS r c l ((r * c).toNat)).1)) ∧ σ' 7 = (.int .i64 ((trS r c l ((r * c).toNat)).2.2.1)) ∧ σ' 8 = (.int .i64 ((trS r c l ((r * c).toNat)).2.1)) ∧ σ' 9 = (.int .i64 ((trS r c l ((r * c).toNat)).2.2.2)) ∧ Cel H' p [(.int .i64 (r)), (.int .i64 (c)), vc] ∧ Cel H' q [(.int .i64 (0)), (.int .i64 (0)), (.slice none 0 0)] ∧ Le H H') (fun σ7 H7 hP => ?_) (fun J7 hJ7 => ?_)
 ·skip
  obtain ⟨g1L7, g2L7, g6L7, g7L7, g8L7, g9L7, op, oq, lE⟩ := hP
  have hvc := hvc0.le lE
  simp only [g1L7, g2L7, g6L7, g7L7, g8L7, g9L7]
  have b := trS_bnd (l := l) hs (r * c).toNat (by omega)
  have b2 := trS_ok (l := l) hs (r * c).toNat (by omega)
  refine ob_i (vInt_lss _ _ _) ?_
  refine cnd_d (fun hg8 => ?_) (fun hg8 => ?_)
  ·skip
   refine ob_i (a := (.agg #[(.int .i64 (0)), (.int .i64 (0)), (.slice none 0 0)])) (by rfl) ?_
   refine oq.stn (ws := [(.int .i64 (0)), (.int .i64 (0)), (.slice none 0 0)]) rfl rfl (oc1 rfl (oc1 rfl (oc1 rfl oc0))) (fun H9 oq off10 => ?_)
   replace hvc := hvc0.le (off10.le lE nq)
   replace lE := off10.le lE nq
   replace oq : Cel H9 q [(.int .i64 (0)), (.int .i64 (0)), (.slice none 0 0)] := oq
   refine ob_i (oq.ldn rfl) ?_
   exact hk1 (by omega) _ lE
  ·skip
   refine ob_i (op.ldn rfl) ?_
   refine ob_i (vInt_sub (by omega) (by omega)) ?_
   refine ob_i (vInt_add (by omega) (by omega)) ?_
   refine ob_i (vInt_sub (by omega) (by omega)) ?_
   refine ob_i (vInt_add (by omega) (by omega)) ?_
   refine C.impl_Field_cut hvc hs hl (by omega) (by omega) (by omega) (by omega) (by omega) (by omega) (fun u13 H11 ou13 nn14  le12 => ?_)
   have aqXu13 : Apart q u13 := oq.apart nn14
   have nu13 : Nw H u13 := nn14.le lE
   replace oq := oq.le le12
   replace hvc := hvc.le le12
   replace lE := lE.trans le12
   refine oq.stn (ws := [(.int .i64 ((((trS r c l ((r * c).toNat)).2.1) - ((trS r c l ((r * c).toNat)).1)) + 1)), (.int .i64 ((((trS r c l ((r * c).toNat)).2.2.2) - ((trS r c l ((r * c).toNat)).2.2.1)) + 1)), u13]) rfl rfl (oc1 rfl (oc1 rfl (oc1 ou13.one oc0))) (fun H15 oq off16 => ?_)
   replace ou13 := ou13.off off16 aqXu13.symm
   replace hvc := hvc0.le (off16.le lE nq)
   replace lE := off16.le lE nq
   replace oq : Cel H15 q [(.int .i64 ((((trS r c l ((r * c).toNat)).2.1) - ((trS r c l ((r * c).toNat)).1)) + 1)), (.int .i64 ((((trS r c l ((r * c).toNat)).2.2.2) - ((trS r c l ((r * c).toNat)).2.2.1)) + 1)), u13] := oq
   refine ob_i (oq.ldn rfl) ?_
   exact hk2 (by omega) u13 _ ou13 nu13 lE
 refine ob_i (op.fa 2) ?_
 refine ob_i (op.ld 2 rfl) ?_
 refine ob_i (hvc.len) ?_
 refine ⟨fun n' σ' H' => ∃ t : Nat, n' = l.length - t ∧ t ≤ l.length ∧ σ' 1 = p ∧ σ' 2 = q ∧ σ' 6 = (.int .i64 ((trS r c l (t)).1)) ∧ σ' 7 = (.int .i64 ((trS r c l (t)).2.2.1)) ∧ σ' 8 = (.int .i64 ((trS r c l (t)).2.1)) ∧ σ' 9 = (.int .i64 ((trS r c l (t)).2.2.2)) ∧ σ' 19 = vc ∧ σ' 20 = (.int .i64 (((l).length : Int))) ∧ σ' 21 = (.int .i64 ((t : Int))) ∧ Cel H' p [(.int .i64 (r)), (.int .i64 (c)), vc] ∧ Cel H' q [(.int .i64 (0)), (.int .i64 (0)), (.slice none 0 0)] ∧ Le H H',
  ⟨_, 0, rfl, by omega, rfl, rfl, rfl, rfl, rfl, rfl, rfl, rfl, rfl, op, oq, lE⟩, ?_⟩
 rintro n17 σ17 H17 ⟨t, rfl, htN, g1L17, g2L17, g6L17, g7L17, g8L17, g9L17, g19L17, g20L17, g21L17, op, oq, lE⟩
 have hvc := hvc0.le lE
 simp only [g1L17, g2L17, g6L17, g7L17, g8L17, g9L17, g19L17, g20L17, g21L17]
 refine ob_i (vInt_lss _ _ _) ?_
 refine cnd_d (fun hg18 => ?_) (fun hg18 => ?_)
 ·skip
  have tt := hg18
  refine ob_i (hvc.ix (by omega) (by omega)) ?_
  refine ob_i (hvc.ld 0 (by omega) (by omega)) ?_
  refine ob_i (vInt_eql _ _ _) ?_
  refine cnd_d (fun hg19 => ?_) (fun hg19 => ?_)
  ·skip
   refine ob_i (op.fa 1) ?_
   refine ob_i (op.ld 1 rfl) ?_
   refine ob_i (vInt_quoN (by omega) (by omega) (by omega)) ?_
   refine ob_i (op.fa 1) ?_
   refine ob_i (op.ld 1 rfl) ?_
   refine ob_i (vInt_remN (by omega) (by omega)) ?_
   refine ob_i (vMx_min _ _ _) ?_
   refine ob_i (vMx_min _ _ _) ?_
   refine ob_i (vMx_max _ _ _) ?_
   refine ob_i (vMx_max _ _ _) ?_
   refine ob_i (vInt_add (by omega) (by omega)) ?_
   have eT := trS_t (r := r) (c := c) hg19
   exact nxt (l.length - (t + 1)) (by omega) ⟨t + 1, rfl, by omega, g1L17, g2L17, (by rw [eT]; rfl), (by rw [eT]; rfl), (by rw [eT]; rfl), (by rw [eT]; rfl), g19L17, g20L17, rfl, op, oq, lE⟩
  ·skip
   refine ob_i (vInt_add (by omega) (by omega)) ?_
   have eT := trS_f (r := r) (c := c) hg19
   exact nxt (l.length - (t + 1)) (by omega) ⟨t + 1, rfl, by omega, g1L17, g2L17, (by rw [eT]; exact g6L17), (by rw [eT]; exact g7L17), (by rw [eT]; exact g8L17), (by rw [eT]; exact g9L17), g19L17, g20L17, rfl, op, oq, lE⟩
 ·skip
  have tt := hg18
  exact hJ7 _ _ ⟨g1L17, g2L17, (by rw [← show t = (r * c).toNat by omega]; exact g6L17), (by rw [← show t = (r * c).toNat by omega]; exact g7L17), (by rw [← show t = (r * c).toNat by omega]; exact g8L17), (by rw [← show t = (r * c).toNat by omega]; exact g9L17), op, oq, lE⟩
theorem C.impl_TrimField {vc : Value} {r c : Int} {l : List Int} {H : Hp} {K : Value → Hp → Prop} (hvc0 : Sl eI H vc l)
    (k1 : l.length ≤ 9223372036854775807)
    (hk : ∀ u H', Own eI H' u (trimL r c l) → Nw H u → Le H H' → K (.tuple #[.agg #[.int .i64 (trimI (trR r c l) r c l), .int .i64 (trimI (trC r c l) r c l), u], .int .i64 (trimI (trm r c l).1 r c l), .int .i64 (trimI (trm r c l).2.2.1 r c l), .bool (decide (trimOk r c l))]) H') :
    HT prg I.impl_TrimField [.agg #[.int .i64 r, .int .i64 c, vc]].toArray H K := by
 have lE := Le.refl H
 have hvc := hvc0
 refine R.impl_TrimField ?_
 unfold F.impl_TrimField
 refine nw_i (fun p H1 op nn2 le3 => ?_)
 replace hvc := hvc.le le3
 replace lE := lE.trans le3
 replace op : Cel H1 p [(.int .i64 (r)), (.int .i64 (c)), vc] := op
 refine nw_i (fun q H4 oq nn5 le6 => ?_)
 have nq : Nw H q := nn5.le lE
 replace op := op.le le6
 replace hvc := hvc.le le6
 replace lE := lE.trans le6
 replace oq : Cel H4 q [(.int .i64 (0)), (.int .i64 (0)), (.slice none 0 0)] := oq
 refine ob_i (op.ldn rfl) ?_
 refine C.impl_isPlain hvc k1 (fun H7 le8 => ?_)
 replace op := op.le le8
 replace oq := oq.le le8
 replace hvc := hvc.le le8
 replace lE := lE.trans le8
 refine ob_nd (fun hc9 => ?_) (fun hc9 => ?_)
 ·skip
  refine cnd_f1 ?_
  refine ob_i (op.ldn rfl) ?_
  refine C.impl_Field_trimmed hvc hc9.1 hc9.2.1 (fun ht10 H11 le12 => ?_) (fun ht10 u13 H11 ou13 nn14 le12 => ?_)
  ·skip
   replace oq := oq.le le12
   replace hvc := hvc.le le12
   replace lE := lE.trans le12
   refine ob_i (vExt_40 _ _ _ _) ?_
   refine ob_i (vExt_41 _ _ _ _) ?_
   refine ob_i (vExt_42 _ _ _ _) ?_
   refine ob_i (vExt_43 _ _ _ _) ?_
   refine oq.stn (ws := [(.int .i64 (0)), (.int .i64 (0)), (.slice none 0 0)]) rfl rfl (oc1 rfl (oc1 rfl (oc1 rfl oc0))) (fun H15 oq off16 => ?_)
   replace hvc := hvc0.le (off16.le lE nq)
   replace lE := off16.le lE nq
   replace oq : Cel H15 q [(.int .i64 (0)), (.int .i64 (0)), (.slice none 0 0)] := oq
   refine ob_i (oq.ldn rfl) ?_
   have hok : ¬ trimOk r c l := fun h => by have := h.2; omega
   have h1 := hk (.slice none 0 0) H15
   simp only [trimL, trimI, hok, if_false, decide_false] at h1
   exact h1 (Own.nil_of none) (fun b hb => by simp [bk] at hb) lE
  ·skip
   have aqXu13 : Apart q u13 := oq.apart nn14
   have nu13 : Nw H u13 := nn14.le lE
   replace oq := oq.le le12
   replace hvc := hvc.le le12
   replace lE := lE.trans le12
   refine ob_i (vExt_40 _ _ _ _) ?_
   refine ob_i (vExt_41 _ _ _ _) ?_
   refine ob_i (vExt_42 _ _ _ _) ?_
   refine ob_i (vExt_43 _ _ _ _) ?_
   refine oq.stn (ws := [(.int .i64 (trR r c l)), (.int .i64 (trC r c l)), u13]) rfl rfl (oc1 rfl (oc1 rfl (oc1 ou13.one oc0))) (fun H17 oq off18 => ?_)
   replace ou13 := ou13.off off18 aqXu13.symm
   replace hvc := hvc0.le (off18.le lE nq)
   replace lE := off18.le lE nq
   replace oq : Cel H17 q [(.int .i64 (trR r c l)), (.int .i64 (trC r c l)), u13] := oq
   refine ob_i (oq.ldn rfl) ?_
   have hok : trimOk r c l := ⟨hc9, ht10⟩
   have h1 := hk u13 H17
   simp only [trimL, trimI, hok, if_true, decide_true] at h1
   exact h1 ou13 nu13 lE
 ·skip
  refine cnd_t1 ?_
  refine ob_i (a := (.agg #[(.int .i64 (0)), (.int .i64 (0)), (.slice none 0 0)])) (by rfl) ?_
  refine oq.stn (ws := [(.int .i64 (0)), (.int .i64 (0)), (.slice none 0 0)]) rfl rfl (oc1 rfl (oc1 rfl (oc1 rfl oc0))) (fun H19 oq off20 => ?_)
  replace hvc := hvc0.le (off20.le lE nq)
  replace lE := off20.le lE nq
  replace oq : Cel H19 q [(.int .i64 (0)), (.int .i64 (0)), (.slice none 0 0)] := oq
  refine ob_i (oq.ldn rfl) ?_
  have hok : ¬ trimOk r c l := fun h => hc9 h.1
  have h1 := hk (.slice none 0 0) H19
  simp only [trimL, trimI, hok, if_false, decide_false] at h1
  exact h1 (Own.nil_of none) (fun b hb => by simp [bk] at hb) lE
end Go.Proofs.YtijmoehbgkibnaaGreatDoor
/- Life on fields: what a step and many steps come to. -/
namespace Go.Proofs.YtijmoehbgkibnaaGreatDoor
open HL
set_option maxRecDepth 100000
/-- Numbers that rise, the first n of them. -/
def cntU (l : List Int) (n : Nat) : Prop := ∀ j : Nat, j < n → 0 < j → at_ 0 l ((j : Int) - 1) < at_ 0 l (j : Int)
/-- Counts of neighbours. -/
def cntP (l : List Int) : Prop := (∀ x ∈ l, 0 ≤ x ∧ x ≤ 8) ∧ cntU l l.length
instance (l : List Int) (n : Nat) : Decidable (cntU l n) := by unfold cntU; infer_instance
instance (l : List Int) : Decidable (cntP l) := by unfold cntP; infer_instance
/-- Is a life valid? -/
def lifP (b s : List Int) : Prop := cntP b ∧ cntP s
instance (b s : List Int) : Decidable (lifP b s) := by unfold lifP; infer_instance
/-- Can a field live? -/
def canP (b s : List Int) (r c : Int) (l : List Int) : Prop := lifP b s ∧ fieldN 1 r c l
instance (b s : List Int) (r c : Int) (l : List Int) : Decidable (canP b s r c l) := by unfold canP; infer_instance
def sumF (f : Int → Int) : Nat → Int
  | 0 => 0
  | n + 1 => sumF f n + f n
/-- A cell, round and round, or 0 beyond the border. -/
def lkF (rnd : Bool) (r c : Int) (l : List Int) (i k : Int) : Int := if rnd then at_ 0 l (roundF r c i k) else flatF r c l i k
/-- The same, but 0 for one cell. -/
def skF (rnd : Bool) (r c : Int) (l : List Int) (i k a b : Int) : Int := if a = i ∧ b = k then 0 else lkF rnd r c l a b
/-- The neighbours of a cell that are 1. -/
def arF (rnd : Bool) (r c : Int) (l : List Int) (i k : Int) : Int := sumF (fun a => sumF (fun b => skF rnd r c l i k (i - 1 + a) (k - 1 + b)) 3) 3
/-- What a cell becomes. -/
def nxG (rnd : Bool) (b s : List Int) (r c : Int) (l : List Int) (i k : Int) : Int :=
  if at_ 0 l (i * c + k) = 0 then (if arF rnd r c l i k ∈ b then 1 else 0) else (if arF rnd r c l i k ∈ s then 1 else 0)
section
variable {rnd : Bool} {b s : List Int} {r c i k : Int} {l : List Int}
end
/-- The next field. -/
def nxL (rnd : Bool) (b s : List Int) (r c : Int) (l : List Int) : List Int := mkL c (nxG rnd b s r c l) (r.toNat * c.toNat)
theorem mkL_len' {c : Int} {g : Int → Int → Int} {rr cc : Int} (h1 : 0 ≤ rr) (h2 : 0 ≤ cc) : ((mkL c g (rr.toNat * cc.toNat)).length : Int) = rr * cc := by
  rw [mkL_length, Int.natCast_mul, Int.toNat_of_nonneg h1, Int.toNat_of_nonneg h2]
theorem mkL_field {n r c : Int} {g : Int → Int → Int} (h : sidesF r c) (hg : ∀ i k, 0 ≤ g i k ∧ g i k ≤ n) : fieldN n r c (mkL c g (r.toNat * c.toNat)) := by
  have q1 := h.1
  have q2 := h.2
  refine ⟨h, mkL_len' (by omega) (by omega), fun x hx => ?_⟩
  simp only [mkL, List.mem_map] at hx
  obtain ⟨j, _, rfl⟩ := hx
  exact hg _ _
/-- The field behind steps. -/
def rnL (rnd : Bool) (b s : List Int) (r c : Int) (l : List Int) : Nat → List Int
  | 0 => l
  | n + 1 => nxL rnd b s r c (rnL rnd b s r c l n)
/-- How many cells have a state. -/
def cntE (v : Int) (l : List Int) : Int := l.countP (· == v)
def sumL : List Int → Int
  | [] => 0
  | x :: r => x + sumL r
theorem sumL_append (a b : List Int) : sumL (a ++ b) = sumL a + sumL b := by
  induction a with
  | nil => simp [sumL]
  | cons x r ih => simp only [List.cons_append, sumL, ih]; omega
theorem cntE_take {v : Int} {l : List Int} {i : Nat} (h : i < l.length) : cntE v (l.take (i + 1)) = cntE v (l.take i) + (if at_ 0 l (i : Int) = v then 1 else 0) := by
  unfold cntE
  rw [take_at 0 l h, List.countP_append]
  simp only [List.countP_cons, List.countP_nil, beq_iff_eq, Nat.zero_add]
  split <;> simp
theorem sumL_take {l : List Int} {i : Nat} (h : i < l.length) : sumL (l.take (i + 1)) = sumL (l.take i) + at_ 0 l (i : Int) := by
  rw [take_at 0 l h, sumL_append]; simp [sumL]
theorem cntE_one : ∀ {l : List Int}, (∀ x ∈ l, 0 ≤ x ∧ x ≤ 1) → cntE 1 l = sumL l
  | [], _ => rfl
  | x :: r, h => by
    have h1 := h x (by simp)
    have ih := cntE_one (l := r) (fun y hy => h y (by simp [hy]))
    unfold cntE at ih ⊢
    simp only [sumL, List.countP_cons, Int.natCast_add, beq_iff_eq]
    split
    · simp; omega
    · simp; omega
theorem cntE_bnd (v : Int) (l : List Int) : 0 ≤ cntE v l ∧ cntE v l ≤ l.length := by
  unfold cntE
  have := List.countP_le_length (p := (· == v)) (l := l)
  omega
theorem sumL_bnd {l : List Int} {m : Int} (h : ∀ x ∈ l, 0 ≤ x ∧ x ≤ m) : 0 ≤ sumL l ∧ sumL l ≤ l.length * m := by
  induction l with
  | nil => simp [sumL]
  | cons x r ih =>
    have h1 := h x (by simp)
    have h2 := ih (fun y hy => h y (by simp [hy]))
    simp only [sumL, List.length_cons, Int.natCast_add, Int.add_mul]
    omega
end Go.Proofs.YtijmoehbgkibnaaGreatDoor
/- What is found first; counts ahead; shifted fields. -/
namespace Go.Proofs.YtijmoehbgkibnaaGreatDoor
open HL
/-- The first number below N of which something holds, or -1. -/
def fstN (p : Nat → Prop) [DecidablePred p] : Nat → Int
  | 0 => -1
  | n + 1 => if 0 ≤ fstN p n then fstN p n else if p n then (n : Int) else -1
/-- A shifted field. -/
def shG (r c : Int) (l : List Int) (a b i k : Int) : Int := at_ 0 l (roundF r c (i - a) (k - b))
def shL (r c : Int) (l : List Int) (a b : Int) : List Int := mkL c (shG r c l a b) (r.toNat * c.toNat)
/-- A place of a shift: steps, rows and columns in one number. -/
def mvP (b s : List Int) (r c : Int) (l : List Int) (t : Nat) : Prop :=
  cntE 1 (rnL true b s r c l (t / c.toNat / r.toNat + 1)) = cntE 1 l ∧ rnL true b s r c l (t / c.toNat / r.toNat + 1) = shL r c l ((t / c.toNat % r.toNat : Nat) : Int) ((t % c.toNat : Nat) : Int)
instance (b s : List Int) (r c : Int) (l : List Int) : DecidablePred (mvP b s r c l) := fun t => by unfold mvP; infer_instance
/-- Where a field is shifted first, steps, rows and columns in one number. -/
def mvF (b s : List Int) (r c : Int) (l : List Int) (st : Int) : Int := fstN (mvP b s r c l) (st.toNat * r.toNat * c.toNat)
def mvOk (b s : List Int) (r c : Int) (l : List Int) (st : Int) : Prop := canP b s r c l ∧ (1 ≤ st ∧ st ≤ 512) ∧ 0 ≤ mvF b s r c l st
instance (b s : List Int) (r c : Int) (l : List Int) (st : Int) : Decidable (mvOk b s r c l st) := by unfold mvOk; infer_instance
section
variable {b s : List Int} {r c st : Int} {l : List Int} {n i k : Nat}
end
/-- A plain square of 4, 8 or 16 rows. -/
def sqP (r c : Int) (l : List Int) : Prop := fieldN 1 r c l ∧ r = c ∧ (r = 4 ∨ r = 8 ∨ r = 16)
instance (r c : Int) (l : List Int) : Decidable (sqP r c l) := by unfold sqP; infer_instance
def inP (b s : List Int) (r c : Int) (l : List Int) : Prop := lifP b s ∧ sqP r c l
instance (b s : List Int) (r c : Int) (l : List Int) : Decidable (inP b s r c l) := by unfold inP; infer_instance
end Go.Proofs.YtijmoehbgkibnaaGreatDoor
/- Digits of numbers, and all plain fields of few cells. -/
namespace Go.Proofs.YtijmoehbgkibnaaGreatDoor
open HL
theorem HL.Cel.cast {H : Hp} {p : Value} {cs cs' : List Value} (e : cs = cs') (h : Cel H p cs) : Cel H p cs' := e ▸ h
/-- A power of 2. -/
def pw (n : Int) : Nat := 2 ^ n.toNat
/-- The digits of a number, the greatest one first; and the last t of them. -/
def dgL (b x : Int) (N : Nat) : List Int := (List.range N).map fun j => x / b ^ (N - 1 - j) % b
/-- Few cells. -/
def smP (r c : Int) : Prop := sidesF r c ∧ r * c ≤ 12
instance (r c : Int) : Decidable (smP r c) := by unfold smP; infer_instance
def stillP (b s : List Int) (r c : Int) (t : Nat) : Prop := nxL false b s r c (dgL 2 t (r * c).toNat) = dgL 2 t (r * c).toNat
instance (b s : List Int) (r c : Int) : DecidablePred (stillP b s r c) := fun t => by unfold stillP; infer_instance
def befP (b s : List Int) (r c : Int) (l : List Int) (t : Nat) : Prop := nxL false b s r c (dgL 2 t (r * c).toNat) = l
instance (b s : List Int) (r c : Int) (l : List Int) : DecidablePred (befP b s r c l) := fun t => by unfold befP; infer_instance
def stlP (b s : List Int) (r c : Int) : Prop := lifP b s ∧ smP r c
instance (b s : List Int) (r c : Int) : Decidable (stlP b s r c) := by unfold stlP; infer_instance
def cbfP (b s : List Int) (r c : Int) (l : List Int) : Prop := canP b s r c l ∧ smP r c
instance (b s : List Int) (r c : Int) (l : List Int) : Decidable (cbfP b s r c l) := by unfold cbfP; infer_instance
/-- The first field that leads to one. -/
def fbF (b s : List Int) (r c : Int) (l : List Int) : Int := fstN (befP b s r c l) (pw (r * c))
def fbP (b s : List Int) (r c : Int) (l : List Int) : Prop := cbfP b s r c l ∧ 0 ≤ fbF b s r c l
instance (b s : List Int) (r c : Int) (l : List Int) : Decidable (fbP b s r c l) := by unfold fbP; infer_instance
end Go.Proofs.YtijmoehbgkibnaaGreatDoor
/- Two fields put together: the program's and the reference's. -/
namespace Go.Proofs.YtijmoehbgkibnaaGreatDoor
open HL
set_option maxRecDepth 100000
theorem mkL_congr {c : Int} {f g : Int → Int → Int} {N : Nat} (hc : 0 < c) (h : ∀ x y, 0 ≤ x → 0 ≤ y → y < c → x * c + y < N → f x y = g x y) : mkL c f N = mkL c g N := by
  unfold mkL
  apply List.map_congr_left
  intro j hj
  have := List.mem_range.mp hj
  have d := Int.mul_ediv_add_emod (j : Int) c
  rw [Int.mul_comm] at d
  exact h _ _ (Int.ediv_nonneg (by omega) (by omega)) (Int.emod_nonneg _ (by omega)) (Int.emod_lt_of_pos _ hc) (by omega)
theorem mkL_set {c : Int} {f : Int → Int → Int} {N : Nat} {i k v : Int} (hc : 0 < c) (k0 : 0 ≤ k) (k1 : k < c) (h : 0 ≤ i * c) : (mkL c f N).set (i * c + k).toNat v = mkL c (fun x y => if x = i ∧ y = k then v else f x y) N := by
  have hd := divmod (c := c) (i := i) (k := k) hc k0 k1
  apply List.ext_getElem?
  intro j
  rw [List.getElem?_set]
  simp only [mkL, List.getElem?_map, List.length_map, List.length_range]
  by_cases hj : j < N
  · rw [List.getElem?_range hj]
    simp only [Option.map_some]
    by_cases e : (i * c + k).toNat = j
    · rw [if_pos e, if_pos (by omega), if_pos]
      have ej : (j : Int) = i * c + k := by omega
      rw [ej]; exact hd
    · rw [if_neg e, if_neg]
      rintro ⟨h1, h2⟩
      have d := Int.mul_ediv_add_emod (j : Int) c
      rw [h1, h2, Int.mul_comm] at d
      omega
  · rw [List.getElem?_eq_none (by simpa using hj)]
    simp only [Option.map_none]
    split
    · rw [if_neg (by omega)]
    · rfl
theorem mkL_len {c : Int} {g : Int → Int → Int} {rr cc : Int} (h1 : 0 ≤ rr) (h2 : 0 ≤ cc) : ((mkL c g (rr.toNat * cc.toNat)).length : Int) = rr * cc := by
  rw [mkL_length, Int.natCast_mul, Int.toNat_of_nonneg h1, Int.toNat_of_nonneg h2]
theorem mkL_zero {c : Int} {N : Nat} : mkL c (fun _ _ => 0) N = List.replicate N 0 := by
  rw [List.eq_replicate_iff]
  refine ⟨mkL_length _ _ _, fun x hx => ?_⟩
  simp only [mkL, List.mem_map] at hx
  obtain ⟨j, _, rfl⟩ := hx
  rfl
def metO (ra ca rb cb row col : Int) : Prop := (0 ≤ row ∧ row ≤ 24) ∧ (0 ≤ col ∧ col ≤ 24) ∧ (1 ≤ max ra (row + rb) ∧ max ra (row + rb) ≤ 24) ∧ (1 ≤ max ca (col + cb) ∧ max ca (col + cb) ≤ 24)
def metOk (ra ca : Int) (la : List Int) (rb cb : Int) (lb : List Int) (row col : Int) : Prop := fieldN 1 ra ca la ∧ fieldN 1 rb cb lb ∧ metO ra ca rb cb row col
instance (ra ca rb cb row col : Int) : Decidable (metO ra ca rb cb row col) := by unfold metO; infer_instance
instance (ra ca : Int) (la : List Int) (rb cb : Int) (lb : List Int) (row col : Int) : Decidable (metOk ra ca la rb cb lb row col) := by unfold metOk; infer_instance
end Go.Proofs.YtijmoehbgkibnaaGreatDoor
/- Patterns that come again elsewhere. -/
namespace Go.Proofs.YtijmoehbgkibnaaGreatDoor
open HL
set_option maxRecDepth 100000
/-- A cell of 1 on the border. -/
def bdC (r c : Int) (l : List Int) (j : Nat) : Prop := at_ 0 l (j : Int) = 1 ∧ ((j : Int) / c = 0 ∨ (j : Int) % c = 0 ∨ (j : Int) / c = r - 1 ∨ (j : Int) % c = c - 1)
instance (r c : Int) (l : List Int) (j : Nat) : Decidable (bdC r c l j) := by unfold bdC; infer_instance
def bdU (r c : Int) (l : List Int) (n : Nat) : Prop := ∀ j, j < n → ¬ bdC r c l j
instance (r c : Int) (l : List Int) (n : Nat) : Decidable (bdU r c l n) := by unfold bdU; infer_instance
/-- Is a cell on the border 1? -/
def brdP (r c : Int) (l : List Int) : Prop := ¬ bdU r c l (r * c).toNat
instance (r c : Int) (l : List Int) : Decidable (brdP r c l) := by unfold brdP; infer_instance
section
variable {r c : Int} {l : List Int}
end
def shp0 (r c : Int) (l : List Int) : List Int := mkL 24 (fun x y => flatF r c l (x - (24 - r) / 2) (y - (24 - c) / 2)) ((24 : Int).toNat * (24 : Int).toNat)
/-- Is a field's smallest part that of another one? -/
def matP (l m : List Int) : Prop := 0 ≤ (trm 24 24 m).2.1 ∧ trR 24 24 m = trR 24 24 l ∧ trC 24 24 m = trC 24 24 l ∧ trL 24 24 m = trL 24 24 l
instance (l m : List Int) : Decidable (matP l m) := by unfold matP; infer_instance
def shpS (b s : List Int) (r c : Int) (l : List Int) (n : Nat) : List Int := rnL false b s 24 24 (shp0 r c l) n
def shpE (b s : List Int) (r c : Int) (l : List Int) (t : Nat) : Prop := brdP 24 24 (shpS b s r c l (t + 1)) ∨ matP (shp0 r c l) (shpS b s r c l (t + 1))
instance (b s : List Int) (r c : Int) (l : List Int) : DecidablePred (shpE b s r c l) := fun t => by unfold shpE; infer_instance
def shpF (b s : List Int) (r c : Int) (l : List Int) (st : Int) : Int := fstN (shpE b s r c l) st.toNat
def shpT (b s : List Int) (r c : Int) (l : List Int) (st : Int) : List Int := shpS b s r c l ((shpF b s r c l st).toNat + 1)
def shpOk (b s : List Int) (r c : Int) (l : List Int) (st : Int) : Prop := canP b s r c l ∧ (1 ≤ st ∧ st ≤ 64) ∧ 0 ≤ (trm 24 24 (shp0 r c l)).2.1 ∧ ¬ brdP 24 24 (shp0 r c l) ∧ 0 ≤ shpF b s r c l st ∧ ¬ brdP 24 24 (shpT b s r c l st)
instance (b s : List Int) (r c : Int) (l : List Int) (st : Int) : Decidable (shpOk b s r c l st) := by unfold shpOk; infer_instance
section
variable {b s : List Int} {r c st : Int} {l : List Int} {t : Nat}
end
end Go.Proofs.YtijmoehbgkibnaaGreatDoor
/- Fields that are turned and mirrored. -/
namespace Go.Proofs.YtijmoehbgkibnaaGreatDoor
open HL
set_option maxRecDepth 100000
def turG (r c : Int) (l : List Int) (x y : Int) : Int := at_ 0 l ((r - 1 - y) * c + x)
def turL (r c : Int) (l : List Int) : List Int := mkL r (turG r c l) (c.toNat * r.toNat)
def mirG (c : Int) (l : List Int) (x y : Int) : Int := at_ 0 l (x * c + (c - 1 - y))
def mirL (r c : Int) (l : List Int) : List Int := mkL c (mirG c l) (r.toNat * c.toNat)
theorem at_01 {l : List Int} (h : ∀ x ∈ l, 0 ≤ x ∧ x ≤ 1) (i : Int) : 0 ≤ at_ 0 l i ∧ at_ 0 l i ≤ 1 := by
  unfold at_
  rw [List.getD_eq_getElem?_getD]
  cases he : l[i.toNat]? with
  | none => simp
  | some y => exact h y (List.mem_of_getElem? he)
def turF (f : FdL) : FdL := ⟨f.c, f.r, turL f.r f.c f.l⟩
def mirF (f : FdL) : FdL := ⟨f.r, f.c, mirL f.r f.c f.l⟩
def okF (f : FdL) : Prop := fieldN 1 f.r f.c f.l
theorem turF_ok {f : FdL} (h : okF f) : okF (turF f) := mkL_field ⟨h.1.2, h.1.1⟩ (fun _ _ => at_01 h.2.2 _)
theorem mirF_ok {f : FdL} (h : okF f) : okF (mirF f) := mkL_field h.1 (fun _ _ => at_01 h.2.2 _)
def imK (f : FdL) : Nat → FdL
  | 0 => f
  | k + 1 => turF (imK f k)
theorem imK_ok {f : FdL} (h : okF f) : ∀ k, okF (imK f k)
  | 0 => h
  | k + 1 => turF_ok (imK_ok h k)
/-- The field of a side. -/
def imB (f : FdL) (i : Nat) : FdL := if i = 0 then f else mirF f
theorem imB_ok {f : FdL} (h : okF f) (i : Nat) : okF (imB f i) := by
  unfold imB
  split
  · exact h
  · exact mirF_ok h
def imgs (f : FdL) (n : Nat) : List FdL := (List.range n).map fun t => imK (imB f (t / 4)) (t % 4)
theorem imgs_len (f : FdL) (n : Nat) : (imgs f n).length = n := by simp [imgs]
theorem imgs_succ (f : FdL) {i k : Nat} (hk : k < 4) : imgs f (4 * i + k) ++ [⟨(imK (imB f i) k).r, (imK (imB f i) k).c, (imK (imB f i) k).l⟩] = imgs f (4 * i + k + 1) := by
  simp only [imgs, List.range_succ, List.map_append, List.map_cons, List.map_nil]
  rw [show (4 * i + k) / 4 = i by omega, show (4 * i + k) % 4 = k by omega]
/-- What is told of the field of a round, and of the next one. -/
def gL (f : FdL) (i : Nat) : List Int := if i = 0 then f.l else if i = 1 then (mirF f).l else []
def hL (f : FdL) (i : Nat) : List Int := if i = 0 then (mirF f).l else []
theorem hgL (f : FdL) (i : Nat) : hL f i = gL f (i + 1) := by
  unfold hL gL
  rcases i with _ | i <;> simp
theorem gL_eq {f : FdL} {i : Nat} (h : i < 2) : gL f i = (imB f i).l := by
  rcases (by omega : i = 0 ∨ i = 1) with rfl | rfl <;> rfl
theorem imB_r (f : FdL) (i : Nat) : (imB f i).r = f.r := by unfold imB; split <;> rfl
theorem imB_c (f : FdL) (i : Nat) : (imB f i).c = f.c := by unfold imB; split <;> rfl
end Go.Proofs.YtijmoehbgkibnaaGreatDoor
/- Names of fields: the least text of the trimmed field's images: plain law. -/
namespace Go.Proofs.YtijmoehbgkibnaaGreatDoor
open HL
set_option maxRecDepth 100000
theorem bytesLess_tri : ∀ a b : List UInt8, Op.bytesLess b a = !(Op.bytesLess a b || a == b)
  | [], [] => rfl
  | [], _ :: _ => rfl
  | _ :: _, [] => rfl
  | x :: a, y :: b => by
    have ih := bytesLess_tri a b
    simp only [Op.bytesLess, ih, List.cons_beq_cons]
    rcases Nat.lt_trichotomy x.toNat y.toNat with h | h | h
    · have h1 : x < y := UInt8.lt_iff_toNat_lt.mpr h
      have h2 : ¬ y < x := fun g => by have := UInt8.lt_iff_toNat_lt.mp g; omega
      have h3 : ¬ y = x := fun g => by subst g; omega
      simp [h1, h2, h3]
    · obtain rfl : x = y := UInt8.toNat_inj.mp h
      have h2 : ¬ x < x := fun g => by have := UInt8.lt_iff_toNat_lt.mp g; omega
      simp [h2]
    · have h1 : y < x := UInt8.lt_iff_toNat_lt.mpr h
      have h2 : ¬ x < y := fun g => by have := UInt8.lt_iff_toNat_lt.mp g; omega
      have h3 : ¬ x = y := fun g => by subst g; omega
      simp [h1, h2, h3]
/-- The lesser of two texts. -/
def minT (m x : List UInt8) : List UInt8 := if Op.bytesLess x m = true then x else m
/-- The least of some texts. -/
def minF : List (List UInt8) → List UInt8
  | [] => []
  | a :: r => r.foldl minT a
theorem minF_snoc (ls : List (List UInt8)) (x : List UInt8) (h : ls ≠ []) : minF (ls ++ [x]) = minT (minF ls) x := by
  cases ls with
  | nil => exact absurd rfl h
  | cons a r => simp [minF]
theorem min_tr {P : Program} {H : Hp} {K : Value → Hp → Prop} {ts : Array TypeId} {t : TypeId} {bs : Array Bool} {m x : List UInt8} (h : K (vS (minT m x)) H) : hp P (builtin .min ts t bs #[vS m, vS x]) H (nextH P K) := by
  have e : hp P (builtin .min ts t bs #[vS m, vS x]) H (nextH P K) = K (.string (if (Op.bytesLess (tS m).toList (tS x).toList || (tS m).toList == (tS x).toList) = true then tS m else tS x)) H := rfl
  rw [e]
  simp only [tS_toList]
  have : (if (Op.bytesLess m x || m == x) = true then tS m else tS x) = tS (minT m x) := by
    unfold minT
    rw [bytesLess_tri m x]
    cases Op.bytesLess m x || m == x <;> rfl
  rw [this]
  exact h
section
variable {r c : Int} {l : List Int}
theorem trF_ok (h : fieldN 1 r c l) (hb : 0 ≤ (trm r c l).2.1) : fieldN 1 (trR r c l) (trC r c l) (trL r c l) := by
  obtain ⟨h1, h2, h3, h4, h5, h6⟩ := trm_bnd h.1 hb
  have hs := h.1
  obtain ⟨⟨_, _⟩, _, _⟩ := hs
  refine ⟨⟨⟨h3, by omega⟩, h4, by omega⟩, ?_, fun x hx => ?_⟩
  · unfold trL; exact mkL_len (by omega) (by omega)
  · simp only [trL, mkL, List.mem_map] at hx
    obtain ⟨t, _, rfl⟩ := hx
    exact at_01 h.2.2 _
end
/-- The text of a field. -/
def ftx (f : FdL) : List UInt8 := fieldT f.r f.c f.l
/-- The trimmed field. -/
def tmF (r c : Int) (l : List Int) : FdL := ⟨trR r c l, trC r c l, trL r c l⟩
def imF (f : FdL) (i : Nat) : FdL := imK (imB f (i / 4)) (i % 4)
theorem imF_ok {f : FdL} (h : okF f) (i : Nat) : okF (imF f i) := imK_ok (imB_ok h _) _
theorem imF_at {f : FdL} {n i : Nat} (h : i < n) : at_ fd0 (imgs f n) (i : Int) = ⟨(imF f i).r, (imF f i).c, (imF f i).l⟩ := by
  rw [at_eq fd0 (imgs f n) (by rw [imgs_len]; omega)]
  simp [imgs, imF]
def imT (f : FdL) (n : Nat) : List (List UInt8) := (List.range n).map fun i => ftx (imF f i)
theorem imT_len {f : FdL} {n : Nat} : (imT f n).length = n := by simp [imT]
theorem imT_succ {f : FdL} {n : Nat} : imT f (n + 1) = imT f n ++ [fieldT (imF f n).r (imF f n).c (imF f n).l] := by simp [imT, List.range_succ, ftx]
/-- The least of the first texts. -/
theorem minF_take {ls : List (List UInt8)} {t : Nat} (h0 : 1 ≤ t) (h : t < ls.length) : minF (ls.take (t + 1)) = minT (minF (ls.take t)) (at_ [] ls (t : Int)) := by
  rw [take_at [] ls h]
  exact minF_snoc _ _ (fun e => by have := congrArg List.length e; simp only [List.length_take, List.length_nil] at this; omega)
theorem minF_take1 {ls : List (List UInt8)} (h : 1 ≤ ls.length) : minF (ls.take 1) = at_ [] ls 0 := by
  cases ls with
  | nil => simp at h
  | cons a r => rfl
/-- A field's name. -/
def nameT (r c : Int) (l : List Int) : List UInt8 := if 0 ≤ (trm r c l).2.1 then minF (imT (tmF r c l) 8) else []
theorem nameT_t {r c : Int} {l : List Int} (h : 0 ≤ (trm r c l).2.1) : nameT r c l = minF (imT (tmF r c l) 8) := if_pos h
theorem nameT_f {r c : Int} {l : List Int} (h : (trm r c l).2.1 < 0) : nameT r c l = [] := if_neg (by omega)
end Go.Proofs.YtijmoehbgkibnaaGreatDoor
/- A census: plain law. Names in rising order, each with how often it stands. -/
namespace Go.Proofs.YtijmoehbgkibnaaGreatDoor
open HL
set_option maxRecDepth 100000
abbrev Txt := List UInt8
def LtT (a b : Txt) : Prop := Op.bytesLess a b = true
theorem less_lt : ∀ a b : Txt, Op.bytesLess a b = decide (a < b)
  | [], [] => rfl
  | [], _ :: _ => rfl
  | _ :: _, [] => rfl
  | x :: a, y :: b => by
    have ih := less_lt a b
    simp only [Op.bytesLess, ih, List.cons_lt_cons_iff]
    by_cases h1 : x < y <;> by_cases h2 : x = y <;> simp [h1, h2]
theorem ltT_iff {a b : Txt} : LtT a b ↔ a < b := by unfold LtT; rw [less_lt]; simp
theorem ltT_irr (a : Txt) : ¬ LtT a a := fun h => List.lt_irrefl a (ltT_iff.mp h)
theorem ltT_trans {a b c : Txt} (h : LtT a b) (h' : LtT b c) : LtT a c := ltT_iff.mpr (List.lt_trans (ltT_iff.mp h) (ltT_iff.mp h'))
theorem ltT_tri {a b : Txt} (h : ¬ LtT a b) (h' : a ≠ b) : LtT b a := by
  unfold LtT at *
  rw [bytesLess_tri a b]
  simp [h, h']
theorem ltT_ne {a b : Txt} (h : LtT a b) : a ≠ b := fun e => ltT_irr a (e ▸ h)
/-- The names of a list, rising, with how often each stands there. -/
structure Cen (ns : List Txt) (cs : List Int) (L : List Txt) : Prop where
  srt : ns.Pairwise LtT
  mem : ∀ x, x ∈ ns ↔ x ∈ L
  cnt : cs = ns.map fun x => (L.count x : Int)
section
variable {A B : List Txt} {b x : Txt} {cs : List Int} {ns L : List Txt}
theorem Cen.len (h : Cen ns cs L) : cs.length = ns.length := by rw [h.cnt]; simp
theorem Cen.nodup (h : Cen ns cs L) : ns.Nodup := h.srt.imp fun hab => ltT_ne hab
theorem Cen.le (h : Cen ns cs L) : ns.length ≤ L.length := by
  have : ns ⊆ L := fun x hx => (h.mem x).mp hx
  exact h.nodup.length_le_of_subset this
theorem Cen.bnd (h : Cen ns cs L) {c : Int} (hc : c ∈ cs) : 0 ≤ c ∧ c ≤ L.length := by
  rw [h.cnt] at hc
  obtain ⟨x, _, rfl⟩ := List.mem_map.mp hc
  have := List.count_le_length (a := x) (l := L)
  omega
end
section
variable {x : Txt} {cs : List Int} {ns L : List Txt} {p : Nat}
end
end Go.Proofs.YtijmoehbgkibnaaGreatDoor
/- The law of texts, by plain law: images, trimmed parts, borders. -/
namespace Go.Proofs.YtijmoehbgkibnaaGreatDoor
open HL
set_option maxRecDepth 100000
theorem mkL_see {c : Int} {g : Int → Int → Int} {N : Nat} {i k : Int} (i0 : 0 ≤ i) (k0 : 0 ≤ k) (k1 : k < c) (h : i * c + k < N) : at_ 0 (mkL c g N) (i * c + k) = g i k := by
  have hm : 0 ≤ i * c := Int.mul_nonneg i0 (by omega)
  obtain ⟨t, ht⟩ := Int.eq_ofNat_of_zero_le (show 0 ≤ i * c + k by omega)
  have d := divmod (c := c) (i := i) (k := k) (by omega) k0 k1
  rw [ht, at_eq 0 _ (by rw [mkL_length]; omega)]
  simp only [mkL, List.getElem_map, List.getElem_range]
  rw [← ht, d.1, d.2]
/-- A cell of a field. -/
def lk (f : FdL) (i k : Int) : Int := at_ 0 f.l (i * f.c + k)
def inF (f : FdL) (i k : Int) : Prop := (0 ≤ i ∧ i < f.r) ∧ 0 ≤ k ∧ k < f.c
theorem lk_mk {r c : Int} {g : Int → Int → Int} {i k : Int} (h : inF ⟨r, c, []⟩ i k) : lk ⟨r, c, mkL c g (r.toNat * c.toNat)⟩ i k = g i k := by
  obtain ⟨⟨i0, i1⟩, k0, k1⟩ := h
  replace i1 : i < r := i1
  replace k1 : k < c := k1
  have h := ix_lt (a := i) (b := k) (r := r) (c := c) i0 i1 k0 k1
  refine mkL_see i0 k0 k1 ?_
  rw [Int.natCast_mul, Int.toNat_of_nonneg (by omega), Int.toNat_of_nonneg (by omega)]
  exact h.2
theorem lk_tur {f : FdL} {x y : Int} (x0 : 0 ≤ x) (x1 : x < f.c) (y0 : 0 ≤ y) (y1 : y < f.r) : lk (turF f) x y = lk f (f.r - 1 - y) x := lk_mk (g := turG f.r f.c f.l) ⟨⟨x0, x1⟩, y0, y1⟩
theorem lk_mir {f : FdL} {x y : Int} (x0 : 0 ≤ x) (x1 : x < f.r) (y0 : 0 ≤ y) (y1 : y < f.c) : lk (mirF f) x y = lk f x (f.c - 1 - y) := lk_mk (g := mirG f.c f.l) ⟨⟨x0, x1⟩, y0, y1⟩
theorem fd_ext {f g : FdL} (hf : okF f) (hg : okF g) (hr : f.r = g.r) (hc : f.c = g.c) (h : ∀ i k, inF f i k → lk f i k = lk g i k) : f = g := by
  obtain ⟨r, c, l⟩ := f
  obtain ⟨r2, c2, m⟩ := g
  obtain rfl : r = r2 := hr
  obtain rfl : c = c2 := hc
  have l1 : (l.length : Int) = r * c := hf.2.1
  have l2 : (m.length : Int) = r * c := hg.2.1
  have hs : sidesF r c := hf.1
  obtain ⟨⟨_, _⟩, c1, _⟩ := hs
  have : l = m := by
    apply List.ext_getElem
    · omega
    · intro j g1 g2
      have d := Int.mul_ediv_add_emod (j : Int) c
      rw [Int.mul_comm] at d
      have e := h ((j : Int) / c) ((j : Int) % c) ⟨⟨Int.ediv_nonneg (by omega) (by omega), Int.ediv_lt_of_lt_mul (by omega) (by show (j : Int) < r * c; omega)⟩, Int.emod_nonneg _ (by omega), Int.emod_lt_of_pos _ (by omega)⟩
      simp only [lk] at e
      rw [d, at_get 0 g1, at_get 0 g2] at e
      exact e
  rw [this]
theorem tur4 {f : FdL} (h : okF f) : turF (turF (turF (turF f))) = f := by
  refine fd_ext (turF_ok (turF_ok (turF_ok (turF_ok h)))) h rfl rfl fun i k ⟨⟨i0, i1⟩, k0, k1⟩ => ?_
  replace i1 : i < f.r := i1
  replace k1 : k < f.c := k1
  rw [lk_tur (f := turF (turF (turF f))) (by omega) i1 (by omega) k1, show (turF (turF (turF f))).r = f.c from rfl]
  rw [lk_tur (f := turF (turF f)) (by omega) (by show f.c - 1 - k < f.c; omega) (by omega) i1, show (turF (turF f)).r = f.r from rfl]
  rw [lk_tur (f := turF f) (by omega) (by show f.r - 1 - i < f.r; omega) (by omega) (by show f.c - 1 - k < f.c; omega), show (turF f).r = f.c from rfl]
  rw [lk_tur (by omega) (by omega) (by omega) (by omega)]
  congr 1 <;> omega
theorem mir2 {f : FdL} (h : okF f) : mirF (mirF f) = f := by
  refine fd_ext (mirF_ok (mirF_ok h)) h rfl rfl fun i k ⟨⟨i0, i1⟩, k0, k1⟩ => ?_
  replace i1 : i < f.r := i1
  replace k1 : k < f.c := k1
  rw [lk_mir (f := mirF f) i0 i1 k0 k1, show (mirF f).c = f.c from rfl, lk_mir i0 i1 (by omega) (by omega)]
  congr 1; omega
theorem mirtur {f : FdL} (h : okF f) : mirF (turF f) = turF (turF (turF (mirF f))) := by
  refine fd_ext (mirF_ok (turF_ok h)) (turF_ok (turF_ok (turF_ok (mirF_ok h)))) rfl rfl fun i k ⟨⟨i0, i1⟩, k0, k1⟩ => ?_
  replace i1 : i < f.c := i1
  replace k1 : k < f.r := k1
  rw [lk_mir (f := turF f) i0 i1 k0 k1, show (turF f).c = f.r from rfl, lk_tur i0 i1 (by omega) (by omega)]
  rw [lk_tur (f := turF (turF (mirF f))) i0 i1 k0 k1, show (turF (turF (mirF f))).r = f.r from rfl]
  rw [lk_tur (f := turF (mirF f)) (by omega) (by show f.r - 1 - k < f.r; omega) i0 i1, show (turF (mirF f)).r = f.c from rfl]
  rw [lk_tur (f := mirF f) (by omega) (by show f.c - 1 - i < f.c; omega) (by omega) (by show f.r - 1 - k < f.r; omega), show (mirF f).r = f.r from rfl]
  rw [lk_mir (by omega) (by omega) (by omega) (by omega)]
  congr 1 <;> omega
/-! ### The least of some texts hangs on which texts they are -/
theorem minF_least : ∀ (r : List Txt) (a : Txt), r.foldl minT a ∈ a :: r ∧ ∀ x ∈ a :: r, ¬ LtT x (r.foldl minT a)
  | [], a => ⟨by simp, fun x hx => by rw [List.mem_singleton.mp hx]; exact ltT_irr a⟩
  | b :: r, a => by
    obtain ⟨h1, h2⟩ := minF_least r (minT a b)
    simp only [List.foldl_cons]
    have hm : ¬ LtT a (minT a b) ∧ ¬ LtT b (minT a b) ∧ (minT a b = a ∨ minT a b = b) := by
      unfold minT
      split
      · rename_i h; exact ⟨fun h3 => ltT_irr a (ltT_trans h3 h), ltT_irr b, .inr rfl⟩
      · rename_i h; exact ⟨ltT_irr a, h, .inl rfl⟩
    have tr : ∀ x, ¬ LtT x (minT a b) → ¬ LtT x (r.foldl minT (minT a b)) := by
      intro x hx h3
      have h4 := h2 _ (List.mem_cons_self)
      by_cases e : (r.foldl minT (minT a b)) = minT a b
      · rw [e] at h3; exact hx h3
      · exact hx (ltT_trans h3 (ltT_tri h4 (fun e2 => e e2.symm)))
    refine ⟨?_, fun x hx => ?_⟩
    · rcases List.mem_cons.mp h1 with h | h
      · rw [h]; rcases hm.2.2 with e | e <;> simp [e]
      · simp [h]
    · rcases List.mem_cons.mp hx with rfl | hx
      · exact tr _ hm.1
      · rcases List.mem_cons.mp hx with rfl | hx
        · exact tr _ hm.2.1
        · exact h2 x (by simp [hx])
theorem minF_same {a b : Txt} {r s : List Txt} (h : ∀ x, x ∈ a :: r ↔ x ∈ b :: s) : minF (a :: r) = minF (b :: s) := by
  obtain ⟨h1, h2⟩ := minF_least r a
  obtain ⟨h3, h4⟩ := minF_least s b
  show r.foldl minT a = s.foldl minT b
  refine Classical.byContradiction fun e => ?_
  exact h2 _ ((h _).mpr h3) (ltT_tri (h4 _ ((h _).mp h1)) e)
theorem minF_in {ls : List Txt} (h : ls ≠ []) : minF ls ∈ ls := by
  cases ls with
  | nil => exact absurd rfl h
  | cons a r => exact (minF_least r a).1
theorem imT8 (f : FdL) : imT f 8 = [ftx f, ftx (turF f), ftx (turF (turF f)), ftx (turF (turF (turF f))), ftx (mirF f), ftx (turF (mirF f)), ftx (turF (turF (mirF f))), ftx (turF (turF (turF (mirF f))))] := rfl
theorem min_tur {f : FdL} (h : okF f) : minF (imT (turF f) 8) = minF (imT f 8) := by
  rw [imT8, imT8, mirtur h, tur4 h, tur4 (mirF_ok h)]
  refine minF_same fun x => ?_
  simp only [List.mem_cons, List.not_mem_nil, or_false]
  constructor <;> (intro h; rcases h with h | h | h | h | h | h | h | h <;> simp [h])
theorem min_mir {f : FdL} (h : okF f) : minF (imT (mirF f) 8) = minF (imT f 8) := by
  rw [imT8, imT8, mir2 h]
  refine minF_same fun x => ?_
  simp only [List.mem_cons, List.not_mem_nil, or_false]
  constructor <;> (intro h; rcases h with h | h | h | h | h | h | h | h <;> simp [h])
/-! ### Where the cells of 1 lie -/
structure BoxP (f : FdL) (T B L R : Int) : Prop where
  rows : 0 ≤ T ∧ T ≤ B ∧ B < f.r
  cols : 0 ≤ L ∧ L ≤ R ∧ R < f.c
  ins : ∀ i k, inF f i k → lk f i k = 1 → (T ≤ i ∧ i ≤ B) ∧ L ≤ k ∧ k ≤ R
  top : ∃ k, (0 ≤ k ∧ k < f.c) ∧ lk f T k = 1
  bot : ∃ k, (0 ≤ k ∧ k < f.c) ∧ lk f B k = 1
  lef : ∃ i, (0 ≤ i ∧ i < f.r) ∧ lk f i L = 1
  rig : ∃ i, (0 ≤ i ∧ i < f.r) ∧ lk f i R = 1
theorem BoxP.uni {f : FdL} {T B L R T' B' L' R' : Int} (h : BoxP f T B L R) (g : BoxP f T' B' L' R') : T = T' ∧ B = B' ∧ L = L' ∧ R = R' := by
  obtain ⟨k1, b1, e1⟩ := h.top; obtain ⟨k2, b2, e2⟩ := h.bot; obtain ⟨i1, b3, e3⟩ := h.lef; obtain ⟨i2, b4, e4⟩ := h.rig
  obtain ⟨k3, b5, e5⟩ := g.top; obtain ⟨k4, b6, e6⟩ := g.bot; obtain ⟨i3, b7, e7⟩ := g.lef; obtain ⟨i4, b8, e8⟩ := g.rig
  have hr := h.rows; have hc := h.cols; have gr := g.rows; have gc := g.cols
  have x1 := g.ins _ _ ⟨⟨by omega, by omega⟩, b1⟩ e1
  have x2 := g.ins _ _ ⟨⟨by omega, by omega⟩, b2⟩ e2
  have x3 := g.ins _ _ ⟨b3, by omega, by omega⟩ e3
  have x4 := g.ins _ _ ⟨b4, by omega, by omega⟩ e4
  have x5 := h.ins _ _ ⟨⟨by omega, by omega⟩, b5⟩ e5
  have x6 := h.ins _ _ ⟨⟨by omega, by omega⟩, b6⟩ e6
  have x7 := h.ins _ _ ⟨b7, by omega, by omega⟩ e7
  have x8 := h.ins _ _ ⟨b8, by omega, by omega⟩ e8
  omega
theorem trS_box {r c : Int} {l : List Int} (hs : sidesF r c) : ∀ t : Nat, (t : Int) ≤ r * c →
    ((∀ j : Nat, j < t → at_ 0 l (j : Int) ≠ 1) ∧ trS r c l t = (r, -1, c, -1)) ∨
    ((∀ j : Nat, j < t → at_ 0 l (j : Int) = 1 → ((trS r c l t).1 ≤ (j : Int) / c ∧ (j : Int) / c ≤ (trS r c l t).2.1) ∧ (trS r c l t).2.2.1 ≤ (j : Int) % c ∧ (j : Int) % c ≤ (trS r c l t).2.2.2) ∧
      (∃ j : Nat, j < t ∧ at_ 0 l (j : Int) = 1 ∧ (j : Int) / c = (trS r c l t).1) ∧ (∃ j : Nat, j < t ∧ at_ 0 l (j : Int) = 1 ∧ (j : Int) / c = (trS r c l t).2.1) ∧
      (∃ j : Nat, j < t ∧ at_ 0 l (j : Int) = 1 ∧ (j : Int) % c = (trS r c l t).2.2.1) ∧ (∃ j : Nat, j < t ∧ at_ 0 l (j : Int) = 1 ∧ (j : Int) % c = (trS r c l t).2.2.2))
  | 0, _ => .inl ⟨fun j hj => absurd hj (by omega), rfl⟩
  | t + 1, ht => by
    have q1 := hs.1
    have q2 := hs.2
    have d1 := Int.ediv_nonneg (a := (t : Int)) (b := c) (by omega) (by omega)
    have d2 := Int.ediv_lt_of_lt_mul (a := (t : Int)) (b := r) (c := c) (by omega) (by omega)
    have d3 := Int.emod_nonneg (t : Int) (show c ≠ 0 by omega)
    have d4 := Int.emod_lt_of_pos (t : Int) (show 0 < c by omega)
    by_cases e : at_ 0 l (t : Int) = 1
    · refine .inr ?_
      rw [trS_t e]
      rcases trS_box (l := l) hs t (by omega) with ⟨h1, h2⟩ | ⟨h1, ⟨j1, l1, e1, f1⟩, ⟨j2, l2, e2, f2⟩, ⟨j3, l3, e3, f3⟩, ⟨j4, l4, e4, f4⟩⟩
      · rw [h2]
        have m1 : min r ((t : Int) / c) = (t : Int) / c := by omega
        have m2 : max (-1) ((t : Int) / c) = (t : Int) / c := by omega
        have m3 : min c ((t : Int) % c) = (t : Int) % c := by omega
        have m4 : max (-1) ((t : Int) % c) = (t : Int) % c := by omega
        simp only [m1, m2, m3, m4]
        refine ⟨fun j hj e2 => ?_, ⟨t, by omega, e, rfl⟩, ⟨t, by omega, e, rfl⟩, ⟨t, by omega, e, rfl⟩, ⟨t, by omega, e, rfl⟩⟩
        obtain rfl : j = t := by
          refine Classical.byContradiction fun hne => h1 j (by omega) e2
        omega
      · refine ⟨fun j hj e2 => ?_, ?_, ?_, ?_, ?_⟩
        · by_cases hjt : j = t
          · subst hjt; simp only; omega
          · have := h1 j (by omega) e2; simp only; omega
        · simp only
          rcases Int.le_total (trS r c l t).1 ((t : Int) / c) with h | h
          · exact ⟨j1, by omega, e1, by omega⟩
          · exact ⟨t, by omega, e, by omega⟩
        · simp only
          rcases Int.le_total (trS r c l t).2.1 ((t : Int) / c) with h | h
          · exact ⟨t, by omega, e, by omega⟩
          · exact ⟨j2, by omega, e2, by omega⟩
        · simp only
          rcases Int.le_total (trS r c l t).2.2.1 ((t : Int) % c) with h | h
          · exact ⟨j3, by omega, e3, by omega⟩
          · exact ⟨t, by omega, e, by omega⟩
        · simp only
          rcases Int.le_total (trS r c l t).2.2.2 ((t : Int) % c) with h | h
          · exact ⟨t, by omega, e, by omega⟩
          · exact ⟨j4, by omega, e4, by omega⟩
    · rw [trS_f e]
      rcases trS_box (l := l) hs t (by omega) with ⟨h1, h2⟩ | ⟨h1, ⟨j1, l1, e1, f1⟩, ⟨j2, l2, e2, f2⟩, ⟨j3, l3, e3, f3⟩, ⟨j4, l4, e4, f4⟩⟩
      · refine .inl ⟨fun j hj => ?_, h2⟩
        by_cases hjt : j = t
        · subst hjt; exact e
        · exact h1 j (by omega)
      · refine .inr ⟨fun j hj e2 => ?_, ⟨j1, by omega, e1, f1⟩, ⟨j2, by omega, e2, f2⟩, ⟨j3, by omega, e3, f3⟩, ⟨j4, by omega, e4, f4⟩⟩
        by_cases hjt : j = t
        · subst hjt; exact absurd e2 e
        · exact h1 j (by omega) e2
/-- The trim of a field. -/
abbrev tmB (f : FdL) : Int × Int × Int × Int := trm f.r f.c f.l
theorem trm_dec {f : FdL} (h : okF f) : ((∀ i k, inF f i k → lk f i k ≠ 1) ∧ (tmB f).2.1 = -1) ∨ BoxP f (tmB f).1 (tmB f).2.1 (tmB f).2.2.1 (tmB f).2.2.2 := by
  have hs := h.1
  have q1 := hs.1
  have q2 := hs.2
  have hm := sidesF_mul hs
  have back : ∀ j : Nat, j < (f.r * f.c).toNat → inF f ((j : Int) / f.c) ((j : Int) % f.c) ∧ lk f ((j : Int) / f.c) ((j : Int) % f.c) = at_ 0 f.l (j : Int) := by
    intro j hj
    have d := Int.mul_ediv_add_emod (j : Int) f.c
    rw [Int.mul_comm] at d
    refine ⟨⟨⟨Int.ediv_nonneg (by omega) (by omega), Int.ediv_lt_of_lt_mul (by omega) (by omega)⟩, Int.emod_nonneg _ (by omega), Int.emod_lt_of_pos _ (by omega)⟩, ?_⟩
    unfold lk; rw [d]
  have forth : ∀ i k, inF f i k → ∃ j : Nat, j < (f.r * f.c).toNat ∧ at_ 0 f.l (j : Int) = lk f i k ∧ (j : Int) / f.c = i ∧ (j : Int) % f.c = k := by
    intro i k ⟨⟨i0, i1⟩, k0, k1⟩
    have hx := ix_lt i0 i1 k0 k1
    have d := divmod (c := f.c) (i := i) (k := k) (by omega) k0 k1
    refine ⟨(i * f.c + k).toNat, by omega, ?_, ?_, ?_⟩
    · unfold lk; rw [Int.toNat_of_nonneg (by omega)]
    · rw [Int.toNat_of_nonneg (by omega)]; exact d.1
    · rw [Int.toNat_of_nonneg (by omega)]; exact d.2
  have key := trS_box (l := f.l) hs (f.r * f.c).toNat (by omega)
  rcases key with ⟨h1, h2⟩ | ⟨h1, ⟨j1, l1, e1, f1⟩, ⟨j2, l2, e2, f2⟩, ⟨j3, l3, e3, f3⟩, ⟨j4, l4, e4, f4⟩⟩
  · refine .inl ⟨fun i k hin he => ?_, ?_⟩
    · obtain ⟨j, hj, ej, _⟩ := forth i k hin
      exact h1 j hj (ej.trans he)
    · show (trS f.r f.c f.l (f.r * f.c).toNat).2.1 = -1; rw [h2]
  · refine .inr ?_
    show BoxP f (trS f.r f.c f.l (f.r * f.c).toNat).1 (trS f.r f.c f.l (f.r * f.c).toNat).2.1 (trS f.r f.c f.l (f.r * f.c).toNat).2.2.1 (trS f.r f.c f.l (f.r * f.c).toNat).2.2.2
    generalize trS f.r f.c f.l (f.r * f.c).toNat = s at *
    have b1 := back j1 l1; have b2 := back j2 l2; have b3 := back j3 l3; have b4 := back j4 l4
    obtain ⟨⟨⟨_, _⟩, _, _⟩, b1'⟩ := b1; obtain ⟨⟨⟨_, _⟩, _, _⟩, b2'⟩ := b2; obtain ⟨⟨⟨_, _⟩, _, _⟩, b3'⟩ := b3; obtain ⟨⟨⟨_, _⟩, _, _⟩, b4'⟩ := b4
    have x1 := h1 j1 l1 e1
    have x3 := h1 j3 l3 e3
    refine ⟨⟨by omega, by omega, by omega⟩, ⟨by omega, by omega, by omega⟩, fun i k hin he => ?_, ⟨(j1 : Int) % f.c, ⟨by omega, by omega⟩, by rw [← f1, b1', e1]⟩, ⟨(j2 : Int) % f.c, ⟨by omega, by omega⟩, by rw [← f2, b2', e2]⟩, ⟨(j3 : Int) / f.c, ⟨by omega, by omega⟩, by rw [← f3, b3', e3]⟩, ⟨(j4 : Int) / f.c, ⟨by omega, by omega⟩, by rw [← f4, b4', e4]⟩⟩
    obtain ⟨j, hj, ej, ej1, ej2⟩ := forth i k hin
    have := h1 j hj (ej.trans he)
    rw [ej1, ej2] at this
    exact this
theorem trm_box {f : FdL} (h : okF f) {T B L R : Int} (b : BoxP f T B L R) : tmB f = (T, B, L, R) := by
  rcases trm_dec h with ⟨h1, _⟩ | h1
  · obtain ⟨k, hk, e⟩ := b.top
    exact absurd e (h1 _ _ ⟨⟨b.rows.1, by have := b.rows; omega⟩, hk⟩)
  · obtain ⟨e1, e2, e3, e4⟩ := h1.uni b
    exact Prod.ext e1 (Prod.ext e2 (Prod.ext e3 e4))
theorem box_tur {f : FdL} {T B L R : Int} (b : BoxP f T B L R) : BoxP (turF f) L R (f.r - 1 - B) (f.r - 1 - T) := by
  have hr := b.rows; have hc := b.cols
  refine ⟨⟨hc.1, hc.2.1, hc.2.2⟩, ⟨by omega, by omega, by show f.r - 1 - T < f.r; omega⟩, fun i k ⟨⟨i0, i1⟩, k0, k1⟩ he => ?_, ?_, ?_, ?_, ?_⟩
  · replace i1 : i < f.c := i1
    replace k1 : k < f.r := k1
    rw [lk_tur i0 i1 k0 k1] at he
    have := b.ins _ _ ⟨⟨by omega, by omega⟩, i0, i1⟩ he
    omega
  · obtain ⟨i, hi, e⟩ := b.lef
    refine ⟨f.r - 1 - i, ⟨by omega, by show f.r - 1 - i < f.r; omega⟩, ?_⟩
    rw [lk_tur (by omega) (by omega) (by omega) (by omega), show f.r - 1 - (f.r - 1 - i) = i by omega]; exact e
  · obtain ⟨i, hi, e⟩ := b.rig
    refine ⟨f.r - 1 - i, ⟨by omega, by show f.r - 1 - i < f.r; omega⟩, ?_⟩
    rw [lk_tur (by omega) (by omega) (by omega) (by omega), show f.r - 1 - (f.r - 1 - i) = i by omega]; exact e
  · obtain ⟨k, hk, e⟩ := b.bot
    refine ⟨k, hk, ?_⟩
    rw [lk_tur hk.1 hk.2 (by omega) (by omega), show f.r - 1 - (f.r - 1 - B) = B by omega]; exact e
  · obtain ⟨k, hk, e⟩ := b.top
    refine ⟨k, hk, ?_⟩
    rw [lk_tur hk.1 hk.2 (by omega) (by omega), show f.r - 1 - (f.r - 1 - T) = T by omega]; exact e
theorem box_mir {f : FdL} {T B L R : Int} (b : BoxP f T B L R) : BoxP (mirF f) T B (f.c - 1 - R) (f.c - 1 - L) := by
  have hr := b.rows; have hc := b.cols
  refine ⟨hr, ⟨by omega, by omega, by show f.c - 1 - L < f.c; omega⟩, fun i k ⟨⟨i0, i1⟩, k0, k1⟩ he => ?_, ?_, ?_, ?_, ?_⟩
  · replace i1 : i < f.r := i1
    replace k1 : k < f.c := k1
    rw [lk_mir i0 i1 k0 k1] at he
    have := b.ins _ _ ⟨⟨i0, i1⟩, by omega, by omega⟩ he
    omega
  · obtain ⟨k, hk, e⟩ := b.top
    refine ⟨f.c - 1 - k, ⟨by omega, by show f.c - 1 - k < f.c; omega⟩, ?_⟩
    rw [lk_mir (by omega) (by omega) (by omega) (by omega), show f.c - 1 - (f.c - 1 - k) = k by omega]; exact e
  · obtain ⟨k, hk, e⟩ := b.bot
    refine ⟨f.c - 1 - k, ⟨by omega, by show f.c - 1 - k < f.c; omega⟩, ?_⟩
    rw [lk_mir (by omega) (by omega) (by omega) (by omega), show f.c - 1 - (f.c - 1 - k) = k by omega]; exact e
  · obtain ⟨i, hi, e⟩ := b.rig
    refine ⟨i, hi, ?_⟩
    rw [lk_mir hi.1 hi.2 (by omega) (by omega), show f.c - 1 - (f.c - 1 - R) = R by omega]; exact e
  · obtain ⟨i, hi, e⟩ := b.lef
    refine ⟨i, hi, ?_⟩
    rw [lk_mir hi.1 hi.2 (by omega) (by omega), show f.c - 1 - (f.c - 1 - L) = L by omega]; exact e
abbrev tmG (f : FdL) : FdL := tmF f.r f.c f.l
theorem tmG_ok {f : FdL} (h : okF f) (hb : 0 ≤ (tmB f).2.1) : okF (tmG f) := trF_ok h hb
theorem tmG_box {f : FdL} (h : okF f) {T B L R : Int} (b : BoxP f T B L R) : (tmG f).r = B - T + 1 ∧ (tmG f).c = R - L + 1 := by
  have e := trm_box h b
  simp only [tmG, tmF, trR, trC]
  rw [show trm f.r f.c f.l = (T, B, L, R) from e]
  exact ⟨rfl, rfl⟩
theorem lk_tm {f : FdL} (h : okF f) {T B L R : Int} (b : BoxP f T B L R) {i k : Int} (hi : inF (tmG f) i k) : lk (tmG f) i k = lk f (T + i) (L + k) := by
  have e := trm_box h b
  have : lk (tmG f) i k = cutG f.c f.l (trm f.r f.c f.l).1 (trm f.r f.c f.l).2.2.1 i k := lk_mk (g := cutG f.c f.l (trm f.r f.c f.l).1 (trm f.r f.c f.l).2.2.1) hi
  rw [this, show trm f.r f.c f.l = (T, B, L, R) from e]
  show at_ 0 f.l ((T + i) * f.c + L + k) = at_ 0 f.l ((T + i) * f.c + (L + k))
  rw [Int.add_assoc]
theorem box_nn {f : FdL} (h : okF f) {T B L R : Int} (b : BoxP f T B L R) : 0 ≤ (tmB f).2.1 := by
  rw [trm_box h b]; have := b.rows; show 0 ≤ B; omega
theorem tm_tur {f : FdL} (h : okF f) {T B L R : Int} (b : BoxP f T B L R) : tmG (turF f) = turF (tmG f) := by
  have b2 := box_tur b
  have s1 := tmG_box h b
  have s2 := tmG_box (turF_ok h) b2
  have hr := b.rows; have hc := b.cols
  refine fd_ext (tmG_ok (turF_ok h) (box_nn (turF_ok h) b2)) (turF_ok (tmG_ok h (box_nn h b))) (by show (tmG (turF f)).r = (tmG f).c; omega) (by show (tmG (turF f)).c = (tmG f).r; omega) fun i k hin => ?_
  have hin2 := hin
  obtain ⟨⟨i0, i1⟩, k0, k1⟩ := hin2
  rw [lk_tm (turF_ok h) b2 hin, lk_tur (f := tmG f) i0 (by omega) k0 (by omega), lk_tm h b ⟨⟨by omega, by omega⟩, i0, by omega⟩, lk_tur (by omega) (by omega) (by omega) (by omega)]
  congr 1; omega
theorem tm_mir {f : FdL} (h : okF f) {T B L R : Int} (b : BoxP f T B L R) : tmG (mirF f) = mirF (tmG f) := by
  have b2 := box_mir b
  have s1 := tmG_box h b
  have s2 := tmG_box (mirF_ok h) b2
  have hr := b.rows; have hc := b.cols
  refine fd_ext (tmG_ok (mirF_ok h) (box_nn (mirF_ok h) b2)) (mirF_ok (tmG_ok h (box_nn h b))) (by show (tmG (mirF f)).r = (tmG f).r; omega) (by show (tmG (mirF f)).c = (tmG f).c; omega) fun i k hin => ?_
  have hin2 := hin
  obtain ⟨⟨i0, i1⟩, k0, k1⟩ := hin2
  rw [lk_tm (mirF_ok h) b2 hin, lk_mir (f := tmG f) i0 (by omega) k0 (by omega), lk_tm h b ⟨⟨i0, by omega⟩, by omega, by omega⟩, lk_mir (by omega) (by omega) (by omega) (by omega)]
  congr 1; omega
abbrev nmG (f : FdL) : Txt := nameT f.r f.c f.l
theorem no_tur {f : FdL} (h : ∀ i k, inF f i k → lk f i k ≠ 1) : ∀ i k, inF (turF f) i k → lk (turF f) i k ≠ 1 := by
  intro i k ⟨⟨i0, i1⟩, k0, k1⟩
  replace i1 : i < f.c := i1
  replace k1 : k < f.r := k1
  rw [lk_tur i0 i1 k0 k1]
  exact h _ _ ⟨⟨by omega, by omega⟩, i0, i1⟩
theorem no_mir {f : FdL} (h : ∀ i k, inF f i k → lk f i k ≠ 1) : ∀ i k, inF (mirF f) i k → lk (mirF f) i k ≠ 1 := by
  intro i k ⟨⟨i0, i1⟩, k0, k1⟩
  replace i1 : i < f.r := i1
  replace k1 : k < f.c := k1
  rw [lk_mir i0 i1 k0 k1]
  exact h _ _ ⟨⟨i0, i1⟩, by omega, by omega⟩
theorem no_box {f : FdL} (h : okF f) (hn : ∀ i k, inF f i k → lk f i k ≠ 1) : (tmB f).2.1 = -1 := by
  rcases trm_dec h with h1 | h1
  · exact h1.2
  · obtain ⟨k, hk, e⟩ := h1.top
    exact absurd e (hn _ _ ⟨⟨h1.rows.1, by have := h1.rows; omega⟩, hk⟩)
theorem name_tur {f : FdL} (h : okF f) : nmG (turF f) = nmG f := by
  rcases trm_dec h with ⟨h1, h2⟩ | b
  · rw [nmG, nmG, nameT_f (by have := no_box (turF_ok h) (no_tur h1); simp only [tmB] at this; omega), nameT_f (by simp only [tmB] at h2; omega)]
  · have n1 := box_nn h b
    have n2 := box_nn (turF_ok h) (box_tur b)
    rw [nmG, nmG, nameT_t n2, nameT_t n1]
    show minF (imT (tmG (turF f)) 8) = minF (imT (tmG f) 8)
    rw [tm_tur h b, min_tur (tmG_ok h n1)]
theorem name_mir {f : FdL} (h : okF f) : nmG (mirF f) = nmG f := by
  rcases trm_dec h with ⟨h1, h2⟩ | b
  · rw [nmG, nmG, nameT_f (by have := no_box (mirF_ok h) (no_mir h1); simp only [tmB] at this; omega), nameT_f (by simp only [tmB] at h2; omega)]
  · have n1 := box_nn h b
    have n2 := box_nn (mirF_ok h) (box_mir b)
    rw [nmG, nmG, nameT_t n2, nameT_t n1]
    show minF (imT (tmG (mirF f)) 8) = minF (imT (tmG f) 8)
    rw [tm_mir h b, min_mir (tmG_ok h n1)]
theorem name_imK {f : FdL} (h : okF f) : ∀ k, nmG (imK f k) = nmG f
  | 0 => rfl
  | k + 1 => (name_tur (imK_ok h k)).trans (name_imK h k)
theorem name_im {f : FdL} (h : okF f) (i : Nat) : nmG (imF f i) = nmG f := by
  unfold imF
  rw [name_imK (imB_ok h _)]
  unfold imB
  split
  · rfl
  · exact name_mir h
theorem name_pos {f : FdL} : 0 < (nmG f).length ↔ 0 ≤ (tmB f).2.1 := by
  unfold nmG nameT
  split
  · rename_i hb
    refine ⟨fun _ => hb, fun _ => ?_⟩
    have hm := minF_in (ls := imT (tmF f.r f.c f.l) 8) (by rw [imT8]; simp)
    obtain ⟨i, _, e⟩ := List.mem_map.mp hm
    rw [← e]
    simp only [ftx, fieldT, List.length_append, List.length_singleton]
    omega
  · rename_i hb
    exact ⟨fun h => absurd h (by simp), fun h => absurd h hb⟩
/-! ### Sums of cells -/
def sumN : Nat → (Nat → Int) → Int
  | 0, _ => 0
  | n + 1, f => sumN n f + f n
theorem sumN_congr {f g : Nat → Int} : ∀ {n : Nat}, (∀ i, i < n → f i = g i) → sumN n f = sumN n g
  | 0, _ => rfl
  | n + 1, h => by simp only [sumN]; rw [sumN_congr (fun i hi => h i (by omega)), h n (by omega)]
theorem sumN_add (f : Nat → Int) (n : Nat) : ∀ m : Nat, sumN (n + m) f = sumN n f + sumN m fun i => f (n + i)
  | 0 => by simp [sumN]
  | m + 1 => by rw [← Nat.add_assoc]; simp only [sumN]; rw [sumN_add f n m]; omega
theorem sumN_zero {f : Nat → Int} : ∀ {n : Nat}, (∀ i, i < n → f i = 0) → sumN n f = 0
  | 0, _ => rfl
  | n + 1, h => by simp only [sumN]; rw [sumN_zero (fun i hi => h i (by omega)), h n (by omega)]; rfl
theorem sumN_plus (f g : Nat → Int) : ∀ n : Nat, sumN n (fun i => f i + g i) = sumN n f + sumN n g
  | 0 => rfl
  | n + 1 => by simp only [sumN]; rw [sumN_plus f g n]; omega
theorem sumN_rev (f : Nat → Int) : ∀ n : Nat, sumN n (fun i => f (n - 1 - i)) = sumN n f
  | 0 => rfl
  | n + 1 => by
    rw [Nat.add_comm n 1, sumN_add (fun i => f (1 + n - 1 - i)) 1 n]
    have : sumN n (fun i => f (1 + n - 1 - (1 + i))) = sumN n (fun i => f (n - 1 - i)) := sumN_congr fun i hi => by congr 1; omega
    rw [this, sumN_rev f n, Nat.add_comm 1 n]
    simp only [sumN]
    rw [show n + 1 - 1 - 0 = n by omega]; omega
theorem sumN_swap (f : Nat → Nat → Int) (m : Nat) : ∀ n : Nat, sumN n (fun i => sumN m (f i)) = sumN m fun k => sumN n fun i => f i k
  | 0 => (sumN_zero fun _ _ => rfl).symm
  | n + 1 => by simp only [sumN]; rw [sumN_swap f m n, sumN_plus]
theorem sumN_mul (f : Nat → Int) (c : Nat) : ∀ r : Nat, sumN (r * c) f = sumN r fun i => sumN c fun k => f (i * c + k)
  | 0 => by rw [Nat.zero_mul]; rfl
  | r + 1 => by rw [Nat.add_mul, Nat.one_mul, sumN_add, sumN_mul f c r]; rfl
theorem sumL_sum : ∀ l : List Int, sumL l = sumN l.length fun i => at_ 0 l (i : Int)
  | [] => rfl
  | x :: l => by
    rw [List.length_cons, Nat.add_comm, sumN_add]
    simp only [sumL]
    rw [sumL_sum l]
    have : sumN l.length (fun i => at_ 0 (x :: l) ((1 + i : Nat) : Int)) = sumN l.length (fun i => at_ 0 l (i : Int)) := sumN_congr fun i hi => by
      unfold at_; rw [Int.toNat_natCast, Int.toNat_natCast, Nat.add_comm]; rfl
    rw [this]; simp [sumN, at_]
/-- The sum of a field's cells, row by row. -/
theorem sum_fd {f : FdL} (h : okF f) : sumL f.l = sumN f.r.toNat fun i => sumN f.c.toNat fun k => lk f (i : Int) (k : Int) := by
  have hs := h.1
  have q1 := hs.1
  have q2 := hs.2
  have hl := h.2.1
  rw [sumL_sum, show f.l.length = f.r.toNat * f.c.toNat by rw [← Int.natCast_inj, Int.natCast_mul, Int.toNat_of_nonneg (by omega), Int.toNat_of_nonneg (by omega)]; exact hl, sumN_mul]
  refine sumN_congr fun i _ => sumN_congr fun k _ => ?_
  unfold lk
  rw [Int.natCast_add, Int.natCast_mul, Int.toNat_of_nonneg (by omega)]
theorem sum_tur {f : FdL} (h : okF f) : sumL (turF f).l = sumL f.l := by
  have hs := h.1
  have q1 := hs.1
  have q2 := hs.2
  rw [sum_fd h, sum_fd (turF_ok h), ← sumN_rev (fun i => sumN f.c.toNat fun k => lk f (i : Int) (k : Int))]
  show sumN f.c.toNat (fun x => sumN f.r.toNat fun y => lk (turF f) (x : Int) (y : Int)) = _
  rw [sumN_swap]
  refine sumN_congr fun y hy => sumN_congr fun x hx => ?_
  rw [lk_tur (by omega) (by omega) (by omega) (by omega)]
  congr 1; omega
theorem sum_mir {f : FdL} (h : okF f) : sumL (mirF f).l = sumL f.l := by
  have hs := h.1
  have q1 := hs.1
  have q2 := hs.2
  rw [sum_fd h, sum_fd (mirF_ok h)]
  show sumN f.r.toNat (fun x => sumN f.c.toNat fun y => lk (mirF f) (x : Int) (y : Int)) = _
  refine sumN_congr fun x hx => ?_
  rw [← sumN_rev (fun k => lk f (x : Int) (k : Int))]
  refine sumN_congr fun y hy => ?_
  rw [lk_mir (by omega) (by omega) (by omega) (by omega)]
  congr 1; omega
theorem sum_imK {f : FdL} (h : okF f) : ∀ k, sumL (imK f k).l = sumL f.l
  | 0 => rfl
  | k + 1 => (sum_tur (imK_ok h k)).trans (sum_imK h k)
theorem sum_im {f : FdL} (h : okF f) (i : Nat) : sumL (imF f i).l = sumL f.l := by
  unfold imF
  rw [sum_imK (imB_ok h _)]
  unfold imB
  split
  · rfl
  · exact sum_mir h
theorem cnt_im {f : FdL} (h : okF f) (i : Nat) : cntE 1 (imF f i).l = sumL f.l := by rw [cntE_one (imF_ok h i).2.2, sum_im h]
theorem lk_01 {f : FdL} (h : okF f) (i k : Int) : 0 ≤ lk f i k ∧ lk f i k ≤ 1 := at_01 h.2.2 _
/-- A sum of which only a part counts. -/
theorem sumN_part {f : Nat → Int} {a m n : Nat} (h : a + m ≤ n) (h0 : ∀ i, i < n → ¬ (a ≤ i ∧ i < a + m) → f i = 0) : sumN n f = sumN m fun i => f (a + i) := by
  rw [show n = a + (m + (n - a - m)) by omega, sumN_add, sumN_add, sumN_zero (n := a) fun i hi => h0 i (by omega) (by omega), sumN_zero (n := n - a - m) fun i hi => h0 _ (by omega) (by omega)]
  omega
theorem sum_tm {f : FdL} (h : okF f) {T B L R : Int} (b : BoxP f T B L R) : sumL (tmG f).l = sumL f.l := by
  have hs := h.1
  have q1 := hs.1
  have q2 := hs.2
  have hr := b.rows; have hc := b.cols
  obtain ⟨s1, s2⟩ := tmG_box h b
  have out : ∀ i k : Int, inF f i k → ¬ ((T ≤ i ∧ i ≤ B) ∧ L ≤ k ∧ k ≤ R) → lk f i k = 0 := by
    intro i k hin hn
    have h1 := lk_01 h i k
    have h2 : lk f i k ≠ 1 := fun e => hn (b.ins i k hin e)
    omega
  rw [sum_fd h, sum_fd (tmG_ok h (box_nn h b))]
  rw [sumN_part (a := T.toNat) (m := (tmG f).r.toNat) (n := f.r.toNat) (by omega) fun i hi hn => sumN_zero fun k hk => out _ _ ⟨⟨by omega, by omega⟩, by omega, by omega⟩ (by omega)]
  refine sumN_congr fun i hi => ?_
  rw [sumN_part (a := L.toNat) (m := (tmG f).c.toNat) (n := f.c.toNat) (by omega) fun k hk hn => out _ _ ⟨⟨by omega, by omega⟩, by omega, by omega⟩ (by omega)]
  refine sumN_congr fun k hk => ?_
  rw [lk_tm h b ⟨⟨by omega, by omega⟩, by omega, by omega⟩]
  congr 1 <;> omega
theorem sum_pos {f : FdL} (h : okF f) : 0 < sumL f.l ↔ 0 ≤ (tmB f).2.1 := by
  have nn := sumL_bnd h.2.2
  rcases trm_dec h with ⟨h1, h2⟩ | b
  · have : sumL f.l = 0 := by
      have hs := h.1
      have q1 := hs.1
      have q2 := hs.2
      rw [sum_fd h]
      refine sumN_zero fun i hi => sumN_zero fun k hk => ?_
      have h3 := lk_01 h (i : Int) (k : Int)
      have h4 := h1 (i : Int) (k : Int) ⟨⟨by omega, by omega⟩, by omega, by omega⟩
      omega
    omega
  · have nn2 := box_nn h b
    refine ⟨fun _ => nn2, fun _ => ?_⟩
    refine Classical.byContradiction fun hn => ?_
    have z : ∀ x ∈ f.l, x = 0 := by
      have key : ∀ l : List Int, (∀ x ∈ l, 0 ≤ x ∧ x ≤ 1) → sumL l ≤ 0 → ∀ x ∈ l, x = 0 := by
        intro l
        induction l with
        | nil => intro _ _ x hx; cases hx
        | cons a l ih =>
          intro h1 h2 x hx
          have ha := h1 a (by simp)
          have hb := sumL_bnd (l := l) (m := 1) (fun y hy => h1 y (by simp [hy]))
          simp only [sumL] at h2
          rcases List.mem_cons.mp hx with rfl | hx
          · omega
          · exact ih (fun y hy => h1 y (by simp [hy])) (by omega) x hx
      exact key f.l h.2.2 (by omega)
    obtain ⟨k, hk, e⟩ := b.top
    have : lk f (tmB f).1 k = 0 := by
      unfold lk at_
      rw [List.getD_eq_getElem?_getD]
      cases he : f.l[((tmB f).1 * f.c + k).toNat]? with
      | none => rfl
      | some y => exact z y (List.mem_of_getElem? he)
    omega
/-! ### The smallest part, put back and grown -/
theorem tm_sides {f : FdL} (h : okF f) (hb : 0 ≤ (tmB f).2.1) : (1 ≤ (tmG f).r ∧ (tmB f).1 + (tmG f).r ≤ f.r) ∧ (1 ≤ (tmG f).c ∧ (tmB f).2.2.1 + (tmG f).c ≤ f.c) ∧ 0 ≤ (tmB f).1 ∧ 0 ≤ (tmB f).2.2.1 := by
  obtain ⟨h1, h2, h3, h4, h5, h6⟩ := trm_bnd h.1 hb
  exact ⟨⟨h3, h5⟩, ⟨h4, h6⟩, h1, h2⟩
theorem has_box {f : FdL} (h : okF f) (hb : 0 ≤ (tmB f).2.1) : BoxP f (tmB f).1 (tmB f).2.1 (tmB f).2.2.1 (tmB f).2.2.2 := by
  rcases trm_dec h with ⟨_, h2⟩ | b
  · omega
  · exact b
theorem cnt_tm {f : FdL} (h : okF f) (hb : 0 ≤ (tmB f).2.1) : cntE 1 (trL f.r f.c f.l) = sumL f.l := by
  rw [show trL f.r f.c f.l = (tmG f).l from rfl, cntE_one (tmG_ok h hb).2.2, sum_tm h (has_box h hb)]
/-- A field in which the part is put. -/
def pasG (row col pr pc : Int) (p : List Int) (x y : Int) : Int := if (row ≤ x ∧ x < row + pr) ∧ col ≤ y ∧ y < col + pc then at_ 0 p ((x - row) * pc + (y - col)) else 0
theorem pas_back {f : FdL} (h : okF f) (hb : 0 ≤ (tmB f).2.1) : mkL f.c (pasG (tmB f).1 (tmB f).2.2.1 (tmG f).r (tmG f).c (tmG f).l) (f.r.toNat * f.c.toNat) = f.l := by
  have b := has_box h hb
  have hr := b.rows; have hc := b.cols
  obtain ⟨s1, s2⟩ := tmG_box h b
  have h01 := (tmG_ok h hb).2.2
  have e : (⟨f.r, f.c, mkL f.c (pasG (tmB f).1 (tmB f).2.2.1 (tmG f).r (tmG f).c (tmG f).l) (f.r.toNat * f.c.toNat)⟩ : FdL) = f := by
    refine fd_ext (mkL_field h.1 fun i k => ?_) h rfl rfl fun i k hin => ?_
    · unfold pasG
      split
      · exact at_01 h01 _
      · omega
    · rw [lk_mk hin]
      unfold pasG
      obtain ⟨⟨i0, i1⟩, k0, k1⟩ := hin
      split
      · rename_i hh
        have := lk_tm h b (i := i - (tmB f).1) (k := k - (tmB f).2.2.1) ⟨⟨by omega, by omega⟩, by omega, by omega⟩
        rw [show (tmB f).1 + (i - (tmB f).1) = i by omega, show (tmB f).2.2.1 + (k - (tmB f).2.2.1) = k by omega] at this
        exact this
      · rename_i hh
        have h1 := lk_01 h i k
        have h2 : lk f i k ≠ 1 := fun e => hh (by have := b.ins i k ⟨⟨i0, i1⟩, k0, k1⟩ e; omega)
        omega
  exact congrArg FdL.l e
/-- A box that is the whole field. -/
theorem box_whole {f : FdL} (h : okF f) {T B L R : Int} (b : BoxP f T B L R) : BoxP (tmG f) 0 ((tmG f).r - 1) 0 ((tmG f).c - 1) := by
  obtain ⟨s1, s2⟩ := tmG_box h b
  have hr := b.rows; have hc := b.cols
  refine ⟨⟨by omega, by omega, by omega⟩, ⟨by omega, by omega, by omega⟩, fun i k ⟨⟨i0, i1⟩, k0, k1⟩ _ => by omega, ?_, ?_, ?_, ?_⟩
  · obtain ⟨k, hk, e⟩ := b.top
    have hh := b.ins _ _ ⟨⟨by omega, by omega⟩, hk⟩ e
    refine ⟨k - L, by omega, ?_⟩
    rw [lk_tm h b ⟨⟨by omega, by omega⟩, by omega, by omega⟩, show T + 0 = T by omega, show L + (k - L) = k by omega]; exact e
  · obtain ⟨k, hk, e⟩ := b.bot
    have hh := b.ins _ _ ⟨⟨by omega, by omega⟩, hk⟩ e
    refine ⟨k - L, by omega, ?_⟩
    rw [lk_tm h b ⟨⟨by omega, by omega⟩, by omega, by omega⟩, show T + ((tmG f).r - 1) = B by omega, show L + (k - L) = k by omega]; exact e
  · obtain ⟨i, hi, e⟩ := b.lef
    have hh := b.ins _ _ ⟨hi, by omega, by omega⟩ e
    refine ⟨i - T, by omega, ?_⟩
    rw [lk_tm h b ⟨⟨by omega, by omega⟩, by omega, by omega⟩, show L + 0 = L by omega, show T + (i - T) = i by omega]; exact e
  · obtain ⟨i, hi, e⟩ := b.rig
    have hh := b.ins _ _ ⟨hi, by omega, by omega⟩ e
    refine ⟨i - T, by omega, ?_⟩
    rw [lk_tm h b ⟨⟨by omega, by omega⟩, by omega, by omega⟩, show L + ((tmG f).c - 1) = R by omega, show T + (i - T) = i by omega]; exact e
/-- A field with a border. -/
abbrev grF (p : FdL) (b : Int) : FdL := ⟨p.r + 2 * b, p.c + 2 * b, groW p.r p.c p.l b⟩
theorem grF_ok {p : FdL} {b : Int} (hp : okF p) (h : groOk p.r p.c p.l b) : okF (grF p b) := by
  refine mkL_field ⟨h.2.2.1, h.2.2.2⟩ fun i k => ?_
  unfold groG flatF
  split
  · exact at_01 hp.2.2 _
  · omega
theorem lk_gr {p : FdL} {b i k : Int} (h : inF (grF p b) i k) : lk (grF p b) i k = flatF p.r p.c p.l (i - b) (k - b) := lk_mk (g := groG p.r p.c p.l b) h
theorem flat_in {p : FdL} {i k : Int} (h : inF p i k) : flatF p.r p.c p.l i k = lk p i k := by
  obtain ⟨⟨i0, i1⟩, k0, k1⟩ := h
  unfold flatF lk; rw [if_pos (by omega)]
theorem box_gr {p : FdL} {b : Int} (b0 : 0 ≤ b) (h : BoxP p 0 (p.r - 1) 0 (p.c - 1)) : BoxP (grF p b) b (b + p.r - 1) b (b + p.c - 1) := by
  have hr := h.rows; have hc := h.cols
  refine ⟨⟨by omega, by omega, by show b + p.r - 1 < p.r + 2 * b; omega⟩, ⟨by omega, by omega, by show b + p.c - 1 < p.c + 2 * b; omega⟩, fun i k hin he => ?_, ?_, ?_, ?_, ?_⟩
  · rw [lk_gr hin] at he
    unfold flatF at he
    split at he
    · omega
    · omega
  · obtain ⟨k, hk, e⟩ := h.top
    refine ⟨b + k, ⟨by omega, by show b + k < p.c + 2 * b; omega⟩, ?_⟩
    rw [lk_gr ⟨⟨by omega, by show b < p.r + 2 * b; omega⟩, by omega, by show b + k < p.c + 2 * b; omega⟩, show b - b = 0 by omega, show b + k - b = k by omega, flat_in ⟨⟨by omega, by omega⟩, hk⟩]; exact e
  · obtain ⟨k, hk, e⟩ := h.bot
    refine ⟨b + k, ⟨by omega, by show b + k < p.c + 2 * b; omega⟩, ?_⟩
    rw [lk_gr ⟨⟨by omega, by show b + p.r - 1 < p.r + 2 * b; omega⟩, by omega, by show b + k < p.c + 2 * b; omega⟩, show b + p.r - 1 - b = p.r - 1 by omega, show b + k - b = k by omega, flat_in ⟨⟨by omega, by omega⟩, hk⟩]; exact e
  · obtain ⟨i, hi, e⟩ := h.lef
    refine ⟨b + i, ⟨by omega, by show b + i < p.r + 2 * b; omega⟩, ?_⟩
    rw [lk_gr ⟨⟨by omega, by show b + i < p.r + 2 * b; omega⟩, by omega, by show b < p.c + 2 * b; omega⟩, show b - b = 0 by omega, show b + i - b = i by omega, flat_in ⟨hi, by omega, by omega⟩]; exact e
  · obtain ⟨i, hi, e⟩ := h.rig
    refine ⟨b + i, ⟨by omega, by show b + i < p.r + 2 * b; omega⟩, ?_⟩
    rw [lk_gr ⟨⟨by omega, by show b + i < p.r + 2 * b; omega⟩, by omega, by show b + p.c - 1 < p.c + 2 * b; omega⟩, show b + p.c - 1 - b = p.c - 1 by omega, show b + i - b = i by omega, flat_in ⟨hi, by omega, by omega⟩]; exact e
/-- A part that is grown and trimmed again. -/
theorem gr_tm {f : FdL} (h : okF f) (hb : 0 ≤ (tmB f).2.1) {b : Int} (b0 : 0 ≤ b) (hg : groOk (tmG f).r (tmG f).c (tmG f).l b) : tmB (grF (tmG f) b) = (b, b + (tmG f).r - 1, b, b + (tmG f).c - 1) ∧ tmG (grF (tmG f) b) = tmG f := by
  have bx := has_box h hb
  have ok := tmG_ok h hb
  have b1 := box_gr b0 (box_whole h bx)
  have ok2 := grF_ok ok hg
  refine ⟨trm_box ok2 b1, ?_⟩
  obtain ⟨s1, s2⟩ := tmG_box ok2 b1
  refine fd_ext (tmG_ok ok2 (box_nn ok2 b1)) ok (by omega) (by omega) fun i k hin => ?_
  obtain ⟨⟨i0, i1⟩, k0, k1⟩ := hin
  rw [lk_tm ok2 b1 ⟨⟨i0, i1⟩, k0, k1⟩, lk_gr ⟨⟨by omega, by show b + i < (tmG f).r + 2 * b; omega⟩, by omega, by show b + k < (tmG f).c + 2 * b; omega⟩, show b + i - b = i by omega, show b + k - b = k by omega, flat_in ⟨⟨i0, by omega⟩, k0, by omega⟩]
end Go.Proofs.YtijmoehbgkibnaaGreatDoor
/-
-/
namespace Go.Proofs
open Go.Shelf
def Tryz.lays104_ren : Go.Shelf.Ren := ⟨fun | 104 => 27 | 211 => 54 | 207 => 77 | n => n, fun | 9 => 9 | 4 => 4 | 24 => 29 | 3 => 3 | n => n, fun | n => n⟩
theorem Tryz.lays104 : Go.Proofs.Lays.n104 Tryz.prog Tryz.lays104_ren := {
  mixed := by kernel_rfl
  f104 := Tryz.func27.trans (congrArg some (by kernel_rfl))
  f207 := Tryz.func77.trans (congrArg some (by kernel_rfl))
  f211 := Tryz.func54.trans (congrArg some (by kernel_rfl))
  t3 := Tryz.underlying3
  a3 := Tryz.isAgg3
  z3 := Tryz.sizeOf3
  v3 := Tryz.zeroValue3
  t4 := Tryz.underlying4
  a4 := Tryz.isAgg4
  z4 := Tryz.sizeOf4
  v4 := Tryz.zeroValue4
  t9 := Tryz.underlying9
  a9 := Tryz.isAgg9
  z9 := Tryz.sizeOf9
  v9 := Tryz.zeroValue9
  t24 := Tryz.underlying29
  a24 := Tryz.isAgg29
  z24 := Tryz.sizeOf29
  v24 := Tryz.zeroValue29 }
open Go.RowKit in
/-- strings.CutSuffix: "CutSuffix returns s without the provided ending suffix string and reports whether it found the suffix. If s doesn't end with suffix, CutSuffix returns s, false. If suffix is the empty string, CutSuffix returns s, true.": IT RETURNS '(Lib.trimSuffix s p, Lib.hasSuffix s p)'; the world is as it was. (LAID: no walk: one application.) -/
theorem Tryz.strings_CutSuffix (s p : ByteArray) (w : World) (hs : s.size ≤ 9223372036854775807) :
    Calls Tryz.prog 27 #[.string s, .string p] w fun e w' => e = .returned (.tuple #[.string ⟨(Lib.trimSuffix s.data.toList p.data.toList).toArray⟩, .bool (Lib.hasSuffix s.data.toList p.data.toList)]) ∧ w' = w := Any.strings_CutSuffix Tryz.lays104 s p w hs
def Tryz.laysC174_ren : Go.Shelf.Ren := ⟨fun | 174 => 52 | 247 => 75 | 245 => 76 | 287 => 97 | 279 => 98 | 280 => 99 | 281 => 100 | 282 => 101 | 321 => 115 | 322 => 116 | 316 => 117 | 171 => 119 | 205 => 118 | 243 => 126 | 246 => 90 | 283 => 107 | 284 => 108 | 285 => 109 | 286 => 110 | 129 => 122 | 317 => 121 | 318 => 123 | 319 => 124 | 320 => 125 | 337 => 127 | 338 => 128 | n => n, fun | 9 => 9 | 3 => 3 | 2 => 2 | 75 => 85 | 85 => 86 | 4 => 4 | 167 => 121 | 5 => 5 | 53 => 73 | 175 => 122 | 46 => 120 | 168 => 124 | 37 => 22 | 0 => 0 | 210 => 148 | 21 => 21 | 127 => 117 | 145 => 156 | 143 => 154 | 171 => 133 | 173 => 136 | 212 => 151 | 51 => 141 | 20 => 20 | 213 => 152 | 232 => 162 | 233 => 163 | 80 => 50 | n => n, fun | 15 => 1 | 16 => 2 | 17 => 3 | 18 => 6 | 19 => 7 | n => n⟩
theorem Tryz.laysC174 : Go.Proofs.LaysC.n174 Tryz.prog Tryz.laysC174_ren := {
  mixed := by kernel_rfl
  f129 := Tryz.func122.trans (congrArg some (by kernel_rfl))
  f171 := Tryz.func119.trans (congrArg some (by kernel_rfl))
  f174 := Tryz.func52.trans (congrArg some (by kernel_rfl))
  f205 := Tryz.func118.trans (congrArg some (by kernel_rfl))
  f243 := Tryz.func126.trans (congrArg some (by kernel_rfl))
  f245 := Tryz.func76.trans (congrArg some (by kernel_rfl))
  f246 := Tryz.func90.trans (congrArg some (by kernel_rfl))
  f247 := Tryz.func75.trans (congrArg some (by kernel_rfl))
  f279 := Tryz.func98.trans (congrArg some (by kernel_rfl))
  f280 := Tryz.func99.trans (congrArg some (by kernel_rfl))
  f281 := Tryz.func100.trans (congrArg some (by kernel_rfl))
  f282 := Tryz.func101.trans (congrArg some (by kernel_rfl))
  f283 := Tryz.func107.trans (congrArg some (by kernel_rfl))
  f284 := Tryz.func108.trans (congrArg some (by kernel_rfl))
  f285 := Tryz.func109.trans (congrArg some (by kernel_rfl))
  f286 := Tryz.func110.trans (congrArg some (by kernel_rfl))
  f287 := Tryz.func97.trans (congrArg some (by kernel_rfl))
  f316 := Tryz.func117.trans (congrArg some (by kernel_rfl))
  f317 := Tryz.func121.trans (congrArg some (by kernel_rfl))
  f318 := Tryz.func123.trans (congrArg some (by kernel_rfl))
  f319 := Tryz.func124.trans (congrArg some (by kernel_rfl))
  f320 := Tryz.func125.trans (congrArg some (by kernel_rfl))
  f321 := Tryz.func115.trans (congrArg some (by kernel_rfl))
  f322 := Tryz.func116.trans (congrArg some (by kernel_rfl))
  f337 := Tryz.func127.trans (congrArg some (by kernel_rfl))
  f338 := Tryz.func128.trans (congrArg some (by kernel_rfl))
  t0 := Tryz.underlying0
  a0 := Tryz.isAgg0
  z0 := Tryz.sizeOf0
  v0 := Tryz.zeroValue0
  t2 := Tryz.underlying2
  a2 := Tryz.isAgg2
  z2 := Tryz.sizeOf2
  v2 := Tryz.zeroValue2
  t3 := Tryz.underlying3
  a3 := Tryz.isAgg3
  z3 := Tryz.sizeOf3
  v3 := Tryz.zeroValue3
  t4 := Tryz.underlying4
  a4 := Tryz.isAgg4
  z4 := Tryz.sizeOf4
  v4 := Tryz.zeroValue4
  t5 := Tryz.underlying5
  a5 := Tryz.isAgg5
  z5 := Tryz.sizeOf5
  v5 := Tryz.zeroValue5
  t9 := Tryz.underlying9
  a9 := Tryz.isAgg9
  z9 := Tryz.sizeOf9
  v9 := Tryz.zeroValue9
  t20 := Tryz.underlying20
  a20 := Tryz.isAgg20
  z20 := Tryz.sizeOf20
  v20 := Tryz.zeroValue20
  t21 := Tryz.underlying21
  a21 := Tryz.isAgg21
  z21 := Tryz.sizeOf21
  v21 := Tryz.zeroValue21
  t37 := Tryz.underlying22
  a37 := Tryz.isAgg22
  z37 := Tryz.sizeOf22
  v37 := Tryz.zeroValue22
  t46 := Tryz.underlying120
  a46 := Tryz.isAgg120
  z46 := Tryz.sizeOf120
  v46 := Tryz.zeroValue120
  t51 := Tryz.underlying141
  a51 := Tryz.isAgg141
  z51 := Tryz.sizeOf141
  v51 := Tryz.zeroValue141
  t53 := Tryz.underlying73
  a53 := Tryz.isAgg73
  z53 := Tryz.sizeOf73
  v53 := Tryz.zeroValue73
  t75 := Tryz.underlying85
  a75 := Tryz.isAgg85
  z75 := Tryz.sizeOf85
  v75 := Tryz.zeroValue85
  t85 := Tryz.underlying86
  a85 := Tryz.isAgg86
  z85 := Tryz.sizeOf86
  v85 := Tryz.zeroValue86
  t127 := Tryz.underlying117
  a127 := Tryz.isAgg117
  z127 := Tryz.sizeOf117
  v127 := Tryz.zeroValue117
  t143 := Tryz.underlying154
  a143 := Tryz.isAgg154
  z143 := Tryz.sizeOf154
  v143 := Tryz.zeroValue154
  t145 := Tryz.underlying156
  a145 := Tryz.isAgg156
  z145 := Tryz.sizeOf156
  v145 := Tryz.zeroValue156
  t167 := Tryz.underlying121
  a167 := Tryz.isAgg121
  z167 := Tryz.sizeOf121
  v167 := Tryz.zeroValue121
  t168 := Tryz.underlying124
  a168 := Tryz.isAgg124
  z168 := Tryz.sizeOf124
  v168 := Tryz.zeroValue124
  t171 := Tryz.underlying133
  a171 := Tryz.isAgg133
  z171 := Tryz.sizeOf133
  v171 := Tryz.zeroValue133
  t173 := Tryz.underlying136
  a173 := Tryz.isAgg136
  z173 := Tryz.sizeOf136
  v173 := Tryz.zeroValue136
  t175 := Tryz.underlying122
  a175 := Tryz.isAgg122
  z175 := Tryz.sizeOf122
  v175 := Tryz.zeroValue122
  t210 := Tryz.underlying148
  a210 := Tryz.isAgg148
  z210 := Tryz.sizeOf148
  v210 := Tryz.zeroValue148
  t212 := Tryz.underlying151
  a212 := Tryz.isAgg151
  z212 := Tryz.sizeOf151
  v212 := Tryz.zeroValue151
  t213 := Tryz.underlying152
  a213 := Tryz.isAgg152
  z213 := Tryz.sizeOf152
  t232 := Tryz.underlying162
  a232 := Tryz.isAgg162
  z232 := Tryz.sizeOf162
  v232 := Tryz.zeroValue162
  t233 := Tryz.underlying163
  a233 := Tryz.isAgg163
  z233 := Tryz.sizeOf163
  v233 := Tryz.zeroValue163
  g15 := by kernel_rfl
  g16 := by kernel_rfl
  g17 := by kernel_rfl
  g18 := by kernel_rfl
  g19 := by kernel_rfl
  t80 := Tryz.underlying50
  a80 := Tryz.isAgg50
  z80 := Tryz.sizeOf50
  v80 := Tryz.zeroValue50
  i0 := by kernel_rfl
  i2 := by kernel_rfl
  i3 := by kernel_rfl
  i4 := by kernel_rfl
  i5 := by kernel_rfl
  i9 := by kernel_rfl
  i20 := by kernel_rfl
  i21 := by kernel_rfl
  i37 := by kernel_rfl
  i46 := by kernel_rfl
  i51 := by kernel_rfl
  i53 := by kernel_rfl
  i75 := by kernel_rfl
  i80 := by kernel_rfl
  i85 := by kernel_rfl
  i127 := by kernel_rfl
  i143 := by kernel_rfl
  i145 := by kernel_rfl
  i167 := by kernel_rfl
  i168 := by kernel_rfl
  i171 := by kernel_rfl
  i173 := by kernel_rfl
  i175 := by kernel_rfl
  i210 := by kernel_rfl
  i212 := by kernel_rfl
  i232 := by kernel_rfl
  i233 := by kernel_rfl
  m15 := by kernel_rfl
  m16 := by kernel_rfl
  m17 := by kernel_rfl
  m18 := by kernel_rfl
  m19 := by kernel_rfl
  c0 := by kernel_rfl
  c2 := by kernel_rfl
  c3 := by kernel_rfl
  c4 := by kernel_rfl
  c5 := by kernel_rfl
  c9 := by kernel_rfl
  c20 := by kernel_rfl
  c21 := by kernel_rfl
  c37 := by kernel_rfl
  c46 := by kernel_rfl
  c51 := by kernel_rfl
  c53 := by kernel_rfl
  c75 := by kernel_rfl
  c80 := by kernel_rfl
  c85 := by kernel_rfl
  c127 := by kernel_rfl
  c143 := by kernel_rfl
  c145 := by kernel_rfl
  c167 := by kernel_rfl
  c168 := by kernel_rfl
  c171 := by kernel_rfl
  c173 := by kernel_rfl
  c175 := by kernel_rfl
  c210 := by kernel_rfl
  c212 := by kernel_rfl
  c213 := by kernel_rfl
  c232 := by kernel_rfl
  c233 := by kernel_rfl }
open Go.RowKit in
/-- strconv.ParseInt(s, 10, 64), AT EVERY STRING THAT SPELLS AN int64 ('Lib.parseIntB 64 s.data.toList = .ok v'): v, AND NO ERROR. (LAID: no walk: one application.) -/
theorem Tryz.strconv_ParseInt_10_at64_ok (s : ByteArray) (hmax : s.size ≤ 9223372036854775806) (v : Int) (h : Lib.parseIntB 64 s.data.toList = .ok v) (w : World) :
    Calls Tryz.prog 52 #[.string s, .int .i64 10, .int .i64 64] w fun e w' => e = .returned (.tuple #[.int .i64 v, .nilIface]) ∧ (w' = w ∨ ∃ t, w' = Lib.bytesWorld w 5 t) := Any.strconv_ParseInt_10_at64_ok Tryz.laysC174 s hmax v h w
def Tryz.lays145_ren : Go.Shelf.Ren := ⟨fun | 145 => 25 | 220 => 51 | 219 => 74 | 217 => 93 | 225 => 94 | 224 => 95 | 267 => 96 | 266 => 113 | 314 => 114 | n => n, fun | 9 => 9 | 4 => 4 | 59 => 54 | 3 => 3 | 5 => 5 | 46 => 120 | 146 => 142 | 51 => 141 | n => n, fun | 1 => 0 | n => n⟩
theorem Tryz.lays145 : Go.Proofs.Lays.n145 Tryz.prog Tryz.lays145_ren := {
  mixed := by kernel_rfl
  f145 := Tryz.func25.trans (congrArg some (by kernel_rfl))
  f217 := Tryz.func93.trans (congrArg some (by kernel_rfl))
  f219 := Tryz.func74.trans (congrArg some (by kernel_rfl))
  f220 := Tryz.func51.trans (congrArg some (by kernel_rfl))
  f224 := Tryz.func95.trans (congrArg some (by kernel_rfl))
  f225 := Tryz.func94.trans (congrArg some (by kernel_rfl))
  f266 := Tryz.func113.trans (congrArg some (by kernel_rfl))
  f267 := Tryz.func96.trans (congrArg some (by kernel_rfl))
  f314 := Tryz.func114.trans (congrArg some (by kernel_rfl))
  t3 := Tryz.underlying3
  a3 := Tryz.isAgg3
  z3 := Tryz.sizeOf3
  v3 := Tryz.zeroValue3
  t4 := Tryz.underlying4
  a4 := Tryz.isAgg4
  z4 := Tryz.sizeOf4
  v4 := Tryz.zeroValue4
  t5 := Tryz.underlying5
  a5 := Tryz.isAgg5
  z5 := Tryz.sizeOf5
  v5 := Tryz.zeroValue5
  t9 := Tryz.underlying9
  a9 := Tryz.isAgg9
  z9 := Tryz.sizeOf9
  v9 := Tryz.zeroValue9
  t46 := Tryz.underlying120
  a46 := Tryz.isAgg120
  z46 := Tryz.sizeOf120
  v46 := Tryz.zeroValue120
  t51 := Tryz.underlying141
  a51 := Tryz.isAgg141
  z51 := Tryz.sizeOf141
  v51 := Tryz.zeroValue141
  t59 := Tryz.underlying54
  a59 := Tryz.isAgg54
  z59 := Tryz.sizeOf54
  v59 := Tryz.zeroValue54
  t146 := Tryz.underlying142
  a146 := Tryz.isAgg142
  z146 := Tryz.sizeOf142
  v146 := Tryz.zeroValue142
  g1 := by kernel_rfl }
open Go.RowKit Go.Lib in
/-- strings.Cut: "Cut slices s around the first instance of sep, returning the text before and after sep. The found result reports whether sep appears in s. If sep does not appear in s, cut returns s, "", false.": IT RETURNS 'Lib.cut s sep'; the world is as it was but for the count of draws. (LAID: no walk: one application.) -/
theorem Tryz.strings_Cut (s sep : ByteArray) (m : Int) (w : World) (hs : s.size < 4294967281) (hm : w.cell? ⟨0, 0, none⟩ = some (.int .i64 m)) :
    Calls Tryz.prog 25 #[.string s, .string sep] w fun e w' => e = .returned (.tuple #[.string ⟨(Lib.cut s.data.toList sep.data.toList).1.toArray⟩, .string ⟨(Lib.cut s.data.toList sep.data.toList).2.1.toArray⟩, .bool (Lib.cut s.data.toList sep.data.toList).2.2]) ∧ ∃ n, w' = w.drewN n := Any.strings_Cut Tryz.lays145 s sep m w hs hm
def Tryz.laysM145_ren : Go.Shelf.Ren := ⟨fun | 145 => 25 | 220 => 51 | 219 => 74 | 217 => 93 | 225 => 94 | 224 => 95 | 267 => 96 | 266 => 113 | 314 => 114 | n => n, fun | 9 => 9 | 4 => 4 | 59 => 54 | 3 => 3 | 5 => 5 | 46 => 120 | 146 => 142 | 51 => 141 | n => n, fun | 1 => 0 | n => n⟩
theorem Tryz.laysM145 : Go.Proofs.LaysM.n145 Tryz.prog Tryz.laysM145_ren := {
  mixed := by kernel_rfl
  f145 := Tryz.func25.trans (congrArg some (by kernel_rfl))
  f217 := Tryz.func93.trans (congrArg some (by kernel_rfl))
  f219 := Tryz.func74.trans (congrArg some (by kernel_rfl))
  f220 := Tryz.func51.trans (congrArg some (by kernel_rfl))
  f224 := Tryz.func95.trans (congrArg some (by kernel_rfl))
  f225 := Tryz.func94.trans (congrArg some (by kernel_rfl))
  f266 := Tryz.func113.trans (congrArg some (by kernel_rfl))
  f267 := Tryz.func96.trans (congrArg some (by kernel_rfl))
  f314 := Tryz.func114.trans (congrArg some (by kernel_rfl))
  t3 := Tryz.underlying3
  a3 := Tryz.isAgg3
  z3 := Tryz.sizeOf3
  v3 := Tryz.zeroValue3
  t4 := Tryz.underlying4
  a4 := Tryz.isAgg4
  z4 := Tryz.sizeOf4
  v4 := Tryz.zeroValue4
  t5 := Tryz.underlying5
  a5 := Tryz.isAgg5
  z5 := Tryz.sizeOf5
  v5 := Tryz.zeroValue5
  t9 := Tryz.underlying9
  a9 := Tryz.isAgg9
  z9 := Tryz.sizeOf9
  v9 := Tryz.zeroValue9
  t46 := Tryz.underlying120
  a46 := Tryz.isAgg120
  z46 := Tryz.sizeOf120
  v46 := Tryz.zeroValue120
  t51 := Tryz.underlying141
  a51 := Tryz.isAgg141
  z51 := Tryz.sizeOf141
  v51 := Tryz.zeroValue141
  t59 := Tryz.underlying54
  a59 := Tryz.isAgg54
  z59 := Tryz.sizeOf54
  v59 := Tryz.zeroValue54
  t146 := Tryz.underlying142
  a146 := Tryz.isAgg142
  z146 := Tryz.sizeOf142
  v146 := Tryz.zeroValue142
  g1 := by kernel_rfl
  i3 := by kernel_rfl
  i4 := by kernel_rfl
  i5 := by kernel_rfl
  i9 := by kernel_rfl
  i46 := by kernel_rfl
  i51 := by kernel_rfl
  i59 := by kernel_rfl
  i146 := by kernel_rfl
  m1 := by kernel_rfl
  s1_3 := fun w h => Go.Proofs.cell_of_shapedOpen_int (zero := #[.int .i64 0]) (t := 3) h (of_decide_eq_true (by kernel_rfl)) (by kernel_rfl) rfl (by kernel_rfl) (by kernel_rfl) Tryz.underlying3 }
def Tryz.lays146_ren : Go.Shelf.Ren := ⟨fun | 146 => 29 | 221 => 55 | 268 => 78 | 138 => 79 | 143 => 80 | 195 => 102 | 197 => 103 | 218 => 104 | 219 => 74 | 260 => 120 | 217 => 93 | 225 => 94 | 224 => 95 | 267 => 96 | 266 => 113 | 314 => 114 | n => n, fun | 9 => 9 | 31 => 59 | 3 => 3 | 4 => 4 | 0 => 0 | 105 => 128 | 21 => 21 | 5 => 5 | 46 => 120 | 119 => 157 | 139 => 160 | 138 => 159 | 146 => 142 | 51 => 141 | n => n, fun | 1 => 0 | 3 => 4 | 4 => 5 | n => n⟩
theorem Tryz.lays146 : Go.Proofs.Lays.n146 Tryz.prog Tryz.lays146_ren := {
  mixed := by kernel_rfl
  f138 := Tryz.func79.trans (congrArg some (by kernel_rfl))
  f143 := Tryz.func80.trans (congrArg some (by kernel_rfl))
  f146 := Tryz.func29.trans (congrArg some (by kernel_rfl))
  f195 := Tryz.func102.trans (congrArg some (by kernel_rfl))
  f197 := Tryz.func103.trans (congrArg some (by kernel_rfl))
  f217 := Tryz.func93.trans (congrArg some (by kernel_rfl))
  f218 := Tryz.func104.trans (congrArg some (by kernel_rfl))
  f219 := Tryz.func74.trans (congrArg some (by kernel_rfl))
  f221 := Tryz.func55.trans (congrArg some (by kernel_rfl))
  f224 := Tryz.func95.trans (congrArg some (by kernel_rfl))
  f225 := Tryz.func94.trans (congrArg some (by kernel_rfl))
  f260 := Tryz.func120.trans (congrArg some (by kernel_rfl))
  f266 := Tryz.func113.trans (congrArg some (by kernel_rfl))
  f267 := Tryz.func96.trans (congrArg some (by kernel_rfl))
  f268 := Tryz.func78.trans (congrArg some (by kernel_rfl))
  f314 := Tryz.func114.trans (congrArg some (by kernel_rfl))
  t0 := Tryz.underlying0
  a0 := Tryz.isAgg0
  z0 := Tryz.sizeOf0
  v0 := Tryz.zeroValue0
  t3 := Tryz.underlying3
  a3 := Tryz.isAgg3
  z3 := Tryz.sizeOf3
  v3 := Tryz.zeroValue3
  t4 := Tryz.underlying4
  a4 := Tryz.isAgg4
  z4 := Tryz.sizeOf4
  v4 := Tryz.zeroValue4
  t5 := Tryz.underlying5
  a5 := Tryz.isAgg5
  z5 := Tryz.sizeOf5
  v5 := Tryz.zeroValue5
  t9 := Tryz.underlying9
  a9 := Tryz.isAgg9
  z9 := Tryz.sizeOf9
  v9 := Tryz.zeroValue9
  t21 := Tryz.underlying21
  a21 := Tryz.isAgg21
  z21 := Tryz.sizeOf21
  v21 := Tryz.zeroValue21
  t31 := Tryz.underlying59
  a31 := Tryz.isAgg59
  z31 := Tryz.sizeOf59
  v31 := Tryz.zeroValue59
  t46 := Tryz.underlying120
  a46 := Tryz.isAgg120
  z46 := Tryz.sizeOf120
  v46 := Tryz.zeroValue120
  t51 := Tryz.underlying141
  a51 := Tryz.isAgg141
  z51 := Tryz.sizeOf141
  v51 := Tryz.zeroValue141
  t105 := Tryz.underlying128
  a105 := Tryz.isAgg128
  z105 := Tryz.sizeOf128
  v105 := Tryz.zeroValue128
  t119 := Tryz.underlying157
  a119 := Tryz.isAgg157
  z119 := Tryz.sizeOf157
  t138 := Tryz.underlying159
  a138 := Tryz.isAgg159
  z138 := Tryz.sizeOf159
  v138 := Tryz.zeroValue159
  t139 := Tryz.underlying160
  a139 := Tryz.isAgg160
  z139 := Tryz.sizeOf160
  v139 := Tryz.zeroValue160
  t146 := Tryz.underlying142
  a146 := Tryz.isAgg142
  z146 := Tryz.sizeOf142
  v146 := Tryz.zeroValue142
  g1 := by kernel_rfl
  g3 := by kernel_rfl
  g4 := by kernel_rfl }
open Go.RowKit Go.Lib in
/-- strings.Split. (LAID: no walk: one application.) -/
theorem Tryz.strings_Split (s sep : ByteArray) (m : Int) (w : World) (hs : s.size < 4294967281) (hm : w.cell? ⟨0, 0, none⟩ = some (.int .i64 m)) (h1 : 1 ≤ sep.size) :
    Calls Tryz.prog 29 #[.string s, .string sep] w fun e w' =>
      e = .returned (.slice (some ⟨w.heap.size, 0, none⟩) (Lib.countB s sep + 1) (Lib.countB s sep + 1)) ∧ w' = w.alloc (.cells ((Lib.splitB sep 0 (Lib.countB s sep) s).map Value.string).toArray 9) := Any.strings_Split Tryz.lays146 (by kernel_rfl) s sep m w hs hm h1
def Tryz.lays153_ren : Go.Shelf.Ren := ⟨fun | 153 => 56 | 152 => 81 | 226 => 82 | 227 => 83 | 228 => 84 | 137 => 105 | 119 => 106 | 224 => 95 | 225 => 94 | 217 => 93 | 266 => 113 | n => n, fun | 9 => 9 | 3 => 3 | 4 => 4 | 5 => 5 | 21 => 21 | 117 => 112 | 116 => 111 | 0 => 0 | 46 => 120 | 124 => 131 | n => n, fun | n => n⟩
theorem Tryz.lays153 : Go.Proofs.Lays.n153 Tryz.prog Tryz.lays153_ren := {
  mixed := by kernel_rfl
  f119 := Tryz.func106.trans (congrArg some (by kernel_rfl))
  f137 := Tryz.func105.trans (congrArg some (by kernel_rfl))
  f152 := Tryz.func81.trans (congrArg some (by kernel_rfl))
  f153 := Tryz.func56.trans (congrArg some (by kernel_rfl))
  f217 := Tryz.func93.trans (congrArg some (by kernel_rfl))
  f224 := Tryz.func95.trans (congrArg some (by kernel_rfl))
  f225 := Tryz.func94.trans (congrArg some (by kernel_rfl))
  f226 := Tryz.func82.trans (congrArg some (by kernel_rfl))
  f227 := Tryz.func83.trans (congrArg some (by kernel_rfl))
  f228 := Tryz.func84.trans (congrArg some (by kernel_rfl))
  f266 := Tryz.func113.trans (congrArg some (by kernel_rfl))
  t0 := Tryz.underlying0
  a0 := Tryz.isAgg0
  z0 := Tryz.sizeOf0
  v0 := Tryz.zeroValue0
  t3 := Tryz.underlying3
  a3 := Tryz.isAgg3
  z3 := Tryz.sizeOf3
  v3 := Tryz.zeroValue3
  t4 := Tryz.underlying4
  a4 := Tryz.isAgg4
  z4 := Tryz.sizeOf4
  v4 := Tryz.zeroValue4
  t5 := Tryz.underlying5
  a5 := Tryz.isAgg5
  z5 := Tryz.sizeOf5
  v5 := Tryz.zeroValue5
  t9 := Tryz.underlying9
  a9 := Tryz.isAgg9
  z9 := Tryz.sizeOf9
  v9 := Tryz.zeroValue9
  t21 := Tryz.underlying21
  a21 := Tryz.isAgg21
  z21 := Tryz.sizeOf21
  v21 := Tryz.zeroValue21
  t46 := Tryz.underlying120
  a46 := Tryz.isAgg120
  z46 := Tryz.sizeOf120
  v46 := Tryz.zeroValue120
  t116 := Tryz.underlying111
  a116 := Tryz.isAgg111
  z116 := Tryz.sizeOf111
  t117 := Tryz.underlying112
  a117 := Tryz.isAgg112
  z117 := Tryz.sizeOf112
  v117 := Tryz.zeroValue112
  t124 := Tryz.underlying131
  a124 := Tryz.isAgg131
  z124 := Tryz.sizeOf131
  v124 := Tryz.zeroValue131 }
open Go.RowKit Go.Lib in
/-- strings.IndexAny ON ASCII BYTES: the four roads under one statement. (LAID: no walk: one application.) -/
theorem Tryz.strings_IndexAny (hv116 : ∀ w, (zeroValue 111).run Tryz.prog w = .ok (.agg (Array.replicate 256 (.bool false))) w) (s chars : ByteArray) (w : World) (hs : s.size < 4294967281) (hcs : chars.size < 4294967281) (has : ∀ (j : Nat) b, s.data.toList[j]? = some b → b.toNat < 128) (hac : ∀ (j : Nat) b, chars.data.toList[j]? = some b → b.toNat < 128) :
    Calls Tryz.prog 56 #[.string s, .string chars] w fun e w' => e = .returned (.int .i64 (Lib.indexAny s.data.toList chars.data.toList)) ∧ Below w.heap.size w w' := Any.strings_IndexAny Tryz.lays153 hv116 (by kernel_rfl) s chars w hs hcs has hac
open Go.RowKit Go.Lib in
theorem Tryz.strings_IndexAny_laid (s chars : ByteArray) (w : World) (hs : s.size < 4294967281) (hcs : chars.size < 4294967281) (has : ∀ (j : Nat) b, s.data.toList[j]? = some b → b.toNat < 128) (hac : ∀ (j : Nat) b, chars.data.toList[j]? = some b → b.toNat < 128) :
    Calls Tryz.prog 56 #[.string s, .string chars] w fun e w' => e = .returned (.int .i64 (Lib.indexAny s.data.toList chars.data.toList)) ∧ Below w.heap.size w w' := Any.strings_IndexAny_laid Tryz.lays153 (by kernel_rfl) s chars w hs hcs has hac
end Go.Proofs
namespace Go.Proofs.YtijmoehbgkibnaaGreatDoor
open Go.RowKit Go.Sort
/-- The library's variables that texts ask for: their blocks. -/
abbrev gMax : Nat := 0
abbrev gSyn : Nat := 1
abbrev gRan : Nat := 2
abbrev tTxt : TypeId := 9
theorem cut_calls (s sep : ByteArray) (m : Int) (w : World) (hs : s.size < 4294967281) (hm : w.cell? ⟨gMax, 0, none⟩ = some (.int .i64 m)) :
    Calls prg I.strings_Cut #[.string s, .string sep] w fun e w' => e = .returned (.tuple #[.string ⟨(Lib.cut s.data.toList sep.data.toList).1.toArray⟩, .string ⟨(Lib.cut s.data.toList sep.data.toList).2.1.toArray⟩, .bool (Lib.cut s.data.toList sep.data.toList).2.2]) ∧ ∃ n, w' = w.drewN n := Tryz.strings_Cut s sep m w hs hm
theorem suffix_calls (s p : ByteArray) (w : World) (hs : s.size ≤ 9223372036854775807) :
    Calls prg I.strings_CutSuffix #[.string s, .string p] w fun e w' => e = .returned (.tuple #[.string ⟨(Lib.trimSuffix s.data.toList p.data.toList).toArray⟩, .bool (Lib.hasSuffix s.data.toList p.data.toList)]) ∧ w' = w := Tryz.strings_CutSuffix s p w hs
theorem split_calls (s sep : ByteArray) (m : Int) (w : World) (hs : s.size < 4294967281) (hm : w.cell? ⟨gMax, 0, none⟩ = some (.int .i64 m)) (h1 : 1 ≤ sep.size) :
    Calls prg I.strings_Split #[.string s, .string sep] w fun e w' =>
      e = .returned (.slice (some ⟨w.heap.size, 0, none⟩) (Lib.countB s sep + 1) (Lib.countB s sep + 1)) ∧ w' = w.alloc (.cells ((Lib.splitB sep 0 (Lib.countB s sep) s).map Value.string).toArray tTxt) := Tryz.strings_Split s sep m w hs hm h1
theorem indexAny_calls (s chars : ByteArray) (w : World) (hs : s.size < 4294967281) (hcs : chars.size < 4294967281) (has : ∀ (j : Nat) b, s.data.toList[j]? = some b → b.toNat < 128) (hac : ∀ (j : Nat) b, chars.data.toList[j]? = some b → b.toNat < 128) :
    Calls prg I.strings_IndexAny #[.string s, .string chars] w fun e w' => e = .returned (.int .i64 (Lib.indexAny s.data.toList chars.data.toList)) ∧ Below w.heap.size w w' := Tryz.strings_IndexAny_laid s chars w hs hcs has hac
theorem parse_ok_calls (s : ByteArray) (hmax : s.size ≤ 9223372036854775806) (v : Int) (h : Lib.parseIntB 64 s.data.toList = .ok v) (w : World) :
    Calls prg I.strconv_ParseInt #[.string s, .int .i64 10, .int .i64 64] w fun e w' => e = .returned (.tuple #[.int .i64 v, .nilIface]) ∧ (w' = w ∨ ∃ t, w' = Lib.bytesWorld w 5 t) := Tryz.strconv_ParseInt_10_at64_ok s hmax v h w
end Go.Proofs.YtijmoehbgkibnaaGreatDoor
/- Go's library of texts: from the given contracts to what a partial heap knows. -/
namespace Go.Proofs.YtijmoehbgkibnaaGreatDoor
open HL
open Go.RowKit (Below)
set_option maxRecDepth 100000
namespace HL
theorem HT_below {P : Program} {f : FuncId} {args : Array Value} {H : Hp} {K : Value → Hp → Prop} (h : ∀ w, Sub H w → Calls P f args w (fun e w' => ∃ v, e = .returned v ∧ Below w.heap.size w w' ∧ K v H)) : HT P f args H K := by
  intro w hw
  refine (h w hw).mono fun e w' ⟨v, he, hb, hk⟩ => ?_
  have hlt : ∀ b o, H b = some o → b < w.heap.size := fun b o ho => by
    have := hw b o ho
    rcases Nat.lt_or_ge b w.heap.size with h | h
    · exact h
    · rw [Array.getElem?_eq_none h] at this; exact absurd this (by simp)
  exact ⟨v, H, he, fun b o ho => (hb.block b (hlt b o ho)).trans (hw b o ho), ⟨hb.size, fun b h1 h2 => ⟨h2, hb.block b h1⟩, hb.os, hb.tape, hb.output⟩, hk⟩
theorem below_drewT (w : World) (n : Nat) : Below w.heap.size w (w.drewN n) := ⟨rfl, rfl, rfl, Nat.le_refl _, fun _ _ => rfl⟩
theorem below_bytes (w : World) (e : TypeId) (s : ByteArray) : Below w.heap.size w (Go.Lib.bytesWorld w e s) := by
  have h1 : Below w.heap.size w (w.drew.alloc (.cells (Go.Lib.bytesCells w e s) e)) := Below.alloc (B := w.heap.size) (a := w) (w := w.drew) ⟨rfl, rfl, rfl, Nat.le_refl _, fun _ _ => rfl⟩ (Nat.le_refl _) _
  unfold Go.Lib.bytesWorld
  by_cases hn : (Go.Lib.bytesCells w e s).size = 0
  all_goals
    refine ⟨h1.os, h1.tape, h1.output, ?_, fun k hk => ?_⟩
    · unfold World.freeze; split
      · exact h1.size
      · simp only [Array.size_modify]; exact h1.size
    · unfold World.freeze
      split
      · exact h1.block k hk
      · simp only [Array.getElem?_modify]
        rw [if_neg (by omega)]
        exact h1.block k hk
end HL
/-- The library's variables stand. -/
def VR (H : Hp) : Prop := ∀ w : World, Sub H w → (∃ m, w.cell? ⟨gMax, 0, none⟩ = some (.int .i64 m)) ∧ (∃ t p, w.cell? ⟨gSyn, 0, none⟩ = some (.iface t p)) ∧ (∃ t p, w.cell? ⟨gRan, 0, none⟩ = some (.iface t p)) ∧ Go.Lib.TabIs prg w "internal/strconv.uint64pow10" .u64 Go.Lib.pow10Tab
theorem VR.le {H H' : Hp} (h : VR H) (l : Le H H') : VR H' := fun w hw => h w (fun b o hb => hw b o (l b o hb))
section
variable {H : Hp} {K : Value → Hp → Prop} {s : List UInt8} {c : UInt8}
theorem C.strings_Cut (hs : s.length ≤ 1000000000) (hv : VR H) (hk : K (.tuple #[vS (Go.Lib.cut s [c]).1, vS (Go.Lib.cut s [c]).2.1, .bool (Go.Lib.cut s [c]).2.2]) H) : HT prg I.strings_Cut [vS s, vS [c]].toArray H K :=
  HT_below fun w hw => by
    obtain ⟨m, hm⟩ := (hv w hw).1
    refine (cut_calls (tS s) (tS [c]) m w (by rw [tS_size]; omega) hm).mono fun e w' ⟨he, n, hn⟩ => ?_
    exact ⟨_, he, hn ▸ below_drewT w n, hk⟩
theorem C.strings_CutSuffix (hs : s.length ≤ 1000000000) (hk : K (.tuple #[vS (Go.Lib.trimSuffix s [c]), .bool (Go.Lib.hasSuffix s [c])]) H) : HT prg I.strings_CutSuffix [vS s, vS [c]].toArray H K :=
  HT_below fun w hw => (suffix_calls (tS s) (tS [c]) w (by rw [tS_size]; omega)).mono fun e w' ⟨he, hn⟩ => ⟨_, he, hn ▸ Below.refl _ _, hk⟩
theorem C.strings_IndexAny {t : List UInt8} (hs : s.length ≤ 1000000000) (ht : t.length ≤ 1000) (ha : ∀ b ∈ s, b.toNat < 128) (hb : ∀ b ∈ t, b.toNat < 128) (hk : K (.int .i64 (Go.Lib.indexAny s t)) H) : HT prg I.strings_IndexAny [vS s, vS t].toArray H K :=
  HT_below fun w hw => (indexAny_calls (tS s) (tS t) w (by rw [tS_size]; omega) (by rw [tS_size]; omega) (fun j b h => ha b (List.mem_of_getElem? h)) (fun j b h => hb b (List.mem_of_getElem? h))).mono fun e w' ⟨he, hn⟩ => ⟨_, he, hn, hk⟩
/-- The pieces of a text. -/
def spT (s : List UInt8) (c : UInt8) : List (List UInt8) := Go.Lib.split s [c]
theorem C.strings_Split (hs : s.length ≤ 1000000000) (hv : VR H) (hk : ∀ u H', Own vS H' u (spT s c) → Nw H u → Le H H' → K u H') : HT prg I.strings_Split [vS s, vS [c]].toArray H K := by
  intro w hw
  obtain ⟨m, hm⟩ := (hv w hw).1
  refine (split_calls (tS s) (tS [c]) m w (by rw [tS_size]; omega) hm (Nat.le_refl _)).mono fun e w' ⟨he, hn⟩ => ?_
  have hd : (Go.Lib.splitB (tS [c]) 0 (Go.Lib.countB (tS s) (tS [c])) (tS s)).map (·.data.toList) = spT s c := by
    rw [Go.Lib.splitB_data]; rfl
  have hl : (Go.Lib.splitB (tS [c]) 0 (Go.Lib.countB (tS s) (tS [c])) (tS s)).length = Go.Lib.countB (tS s) (tS [c]) + 1 := Go.Lib.splitB_all _ (Nat.le_refl _) 0 _ _ rfl
  have hl2 : (spT s c).length = Go.Lib.countB (tS s) (tS [c]) + 1 := by rw [← hd, List.length_map, hl]
  have hcells : (Go.Lib.splitB (tS [c]) 0 (Go.Lib.countB (tS s) (tS [c])) (tS s)).map Value.string = (spT s c).map vS := by
    rw [← hd, List.map_map]
    refine List.map_congr_left (fun b _ => ?_)
    show Value.string b = Value.string (tS b.data.toList)
    rw [← tS_of]
  have hfree : H w.heap.size = none := by
    cases ho : H w.heap.size with
    | none => rfl
    | some o => have := hw _ _ ho; rw [Array.getElem?_eq_none (Nat.le_refl _)] at this; exact absurd this (by simp)
  have hlt : ∀ b o, H b = some o → b < w.heap.size := fun b o ho => by
    have := hw b o ho
    rcases Nat.lt_or_ge b w.heap.size with h | h
    · exact h
    · rw [Array.getElem?_eq_none h] at this; exact absurd this (by simp)
  have hbl : Below w.heap.size w w' := hn ▸ Below.alloc (Below.refl _ w) (Nat.le_refl _) _
  refine ⟨_, H.put w.heap.size (.cells (((spT s c).map vS).toArray) tTxt (0, 0)), he, fun b o ho => ?_, ⟨hbl.size, fun b h1 h2 => ⟨?_, hbl.block b h1⟩, hbl.os, hbl.tape, hbl.output⟩, hk _ _ ⟨_, _, by rw [hl2], by omega, fun _ => ⟨w.heap.size, 0, _, _, rfl, Hp.put_same _ _ _, by simp [hl2], fun i hi => by simp [hi]⟩⟩ ?_ (Le.put _ hfree)⟩
  · by_cases hb : b = w.heap.size
    · subst hb
      rw [Hp.put_same] at ho
      rw [hn, ← ho, hcells]
      unfold World.alloc
      simp
    · rw [Hp.put_ne _ _ hb] at ho
      exact (hbl.block b (hlt b o ho)).trans (hw b o ho)
  · rw [Hp.put_ne _ _ (by omega)]; exact h2
  · intro b hb
    simp only [bk] at hb
    split at hb
    · simp at hb
    · simp only [Option.some.injEq] at hb; subst hb; exact hfree
end
end Go.Proofs.YtijmoehbgkibnaaGreatDoor
/- What was written is read back: plain law; appends of zeros. -/
namespace Go.Proofs.YtijmoehbgkibnaaGreatDoor
open HL
set_option maxRecDepth 100000
namespace HL
theorem zeroCells_one (z : Value) (m : Nat) : (if m * 1 = 0 then #[] else Builtin.zeroCells #[z] m) = (List.replicate m z).toArray := by
  by_cases h : m = 0
  · subst h; rfl
  · rw [if_neg (by omega)]
    apply Array.ext
    · simp [Builtin.zeroCells]
    · intro i h1 h2
      simp [Builtin.zeroCells, Nat.mod_one]
theorem apm_any {α : Type} {enc : α → Value} {x0 : α} {b : Nat} {e : TypeId} {u : Value} {l : List α} {n : Int} {ik : IntKind} {H : Hp} {K : Value → Hp → Prop} (h : Own enc H u l) (ho : oneCell (enc x0) = true) (hb : b ≤ 64) (h0 : 0 ≤ n) (hl : (l.length : Int) + n ≤ 68719476736)
    (hk : ∀ u' H', Own enc H' u' (l ++ List.replicate n.toNat x0) → Off u H H' → (∀ b, bk u' = some b → bk u = some b ∨ H b = none) → K u' H') : apm 1 b #[enc x0] e u (.int ik n) H K := by
  have hlf := h.sl.firstC
  obtain ⟨a, c, rfl, hlc, hr⟩ := h
  have hbn : n * b ≤ 281474976710656 := by
    have : n * b ≤ 68719476736 * 64 := Int.mul_le_mul (by omega) (by omega) (by omega) (by omega)
    omega
  have hml : (List.replicate n.toNat x0).length = n.toNat := List.length_replicate
  have hzs : (if n.toNat * 1 = 0 then #[] else Builtin.zeroCells #[enc x0] n.toNat) = ((List.replicate n.toNat x0).map enc).toArray := by rw [zeroCells_one, List.map_replicate]
  generalize List.replicate n.toNat x0 = m at hml hzs hk
  have hone : ∀ x ∈ m.map enc, oneCell x = true := fun x hx => by
    have : m.map enc = List.replicate n.toNat (enc x0) := by
      have := congrArg Array.toList hzs
      rw [zeroCells_one] at this
      simpa using this.symm
    rw [this] at hx
    rw [(List.mem_replicate.mp hx).2]; exact ho
  simp only [HL.apm]
  rw [hzs]
  refine ⟨h0, by omega, hbn, ?_⟩
  rw [← hml]
  by_cases hcap : l.length + m.length ≤ c
  · rw [if_pos hcap]
    by_cases hc0 : c = 0
    · have hl : l = [] := List.length_eq_zero_iff.mp (by omega)
      have hm' : m = [] := List.length_eq_zero_iff.mp (by omega)
      subst hl hm' hc0
      have : K (.slice a (([] : List α).length + ([] : List α).length) 0) H := hk _ H ⟨a, 0, rfl, by simp, fun h0 => absurd h0 (by simp)⟩ (fun b o hb _ => hb) (fun b hb => by cases a <;> simp [bk] at hb)
      cases a with
      | none => exact this
      | some ad => exact this
    · obtain ⟨b, off, cs, e', rfl, hbb, hs, hcs⟩ := hr (by omega)
      simp only [add_none, Nat.mul_one]
      refine stC_run (b := b) (e := e') (m.map enc) _ 0 cs H rfl rfl hbb (by simp; omega) (fun x hx => hone x hx) ?_
      intro H' cs' h1 h2 h3 h4 h5
      simp only [Nat.add_zero] at h3 h4
      refine hk _ H' ⟨some ⟨b, off, none⟩, c, by simp, by simpa using hcap, fun _ => ⟨b, off, cs', e', rfl, h1, by omega, ?_⟩⟩ ?_ ?_
      · intro i hi
        by_cases hil : i < l.length
        · rw [h3 _ (by omega), hcs i hil, List.getElem_append_left hil]
        · have := h4 (i - l.length) (by simp at hi ⊢; omega)
          rw [show off + l.length + (i - l.length) = off + i by omega] at this
          rw [this, List.getElem_append_right (by omega)]; simp
      · intro x o hx hne
        simp only [bk, if_neg hc0] at hne
        rw [h5 x (by rintro rfl; exact hne rfl)]; exact hx
      · intro x hx
        left; exact hx
  · rw [if_neg hcap]
    refine ⟨by omega, ?_, ?_⟩
    · have := nsc_le (n := l.length + m.length) (c := c) (by omega)
      exact Nat.le_trans (Nat.mul_le_mul this hb) (by omega)
    simp only [hlf]
    intro c' hc1 hc2 r hr'
    refine hk _ _ ⟨some ⟨r, 0, none⟩, c', by simp, by simpa using hc1, fun _ => ⟨r, 0, _, e, rfl, Hp.put_same _ _ _, ?_, ?_⟩⟩ ?_ ?_
    · have : (Builtin.zeroCells #[enc x0] (c' - (l.length + m.length))).size = c' - (l.length + m.length) := by simp [Builtin.zeroCells]
      simp [this]; omega
    · intro i hi
      rw [Nat.zero_add, Array.getElem?_append_left (by simpa using hi)]
      rw [← Array.getElem?_toList]
      simp only [Array.toList_append, ← List.map_append, List.getElem?_map]
      rw [List.getElem?_eq_getElem hi]; rfl
    · intro x o hx _
      rw [Hp.put_ne _ _ (by rintro rfl; rw [hr'] at hx; exact absurd hx (by simp))]; exact hx
    · intro x hx
      right
      simp only [bk] at hx
      split at hx
      · simp at hx
      · simp only [Option.some.injEq] at hx; subst hx; exact hr'
end HL
/-- Bytes of decimal numbers. -/
theorem decT_dig {k : Nat} (hk : k < 100) : ∀ b ∈ decT k, 48 ≤ b.toNat ∧ b.toNat ≤ 57 := by
  intro b hb
  unfold decT at hb
  have e : ∀ x, x < 10 → (UInt8.ofNat (48 + x)).toNat = 48 + x := fun x hx => by rw [UInt8.toNat_ofNat']; omega
  split at hb
  · simp only [List.mem_singleton] at hb; subst hb; rw [e _ (by omega)]; omega
  · simp only [List.mem_cons, List.not_mem_nil, or_false] at hb
    rcases hb with rfl | rfl <;> (rw [e _ (by omega)]; omega)
theorem parse_dec : ∀ k : Nat, k < 100 → Go.Lib.parseIntB 64 (decT k) = .ok (k : Int) := by decide +kernel
theorem chT_bo (x : Int) : chT x = 98 ∨ chT x = 111 := by unfold chT; split <;> simp
theorem idx_pre {pre rest : List UInt8} {x : UInt8} (hp : ∀ b ∈ pre, 48 ≤ b.toNat ∧ b.toNat ≤ 57) (hx : x = 98 ∨ x = 111) : Go.Lib.indexAny (pre ++ [x] ++ rest) [98, 111] = (pre.length : Int) := by
  refine Go.Lib.indexAny_hit (x := x) (fun j b hj hb => ?_) (by simp) (by rcases hx with rfl | rfl <;> decide)
  have : pre[j]? = some b := by
    rw [List.append_assoc, List.getElem?_append_left hj] at hb; exact hb
  have h1 := hp b (List.mem_of_getElem? this)
  cases hc : ([98, 111] : List UInt8).contains b with
  | false => rfl
  | true =>
    simp only [List.contains_cons, List.contains_nil, Bool.or_false, Bool.or_eq_true, beq_iff_eq] at hc
    rcases hc with rfl | rfl
    · exact absurd h1.2 (by decide)
    · exact absurd h1.2 (by decide)
/-- Bytes of a row's text. -/
theorem rtx_asc : ∀ (n : Nat) (l : List Int), l.length ≤ n → n < 100 → ∀ b ∈ rtx l, (48 ≤ b.toNat ∧ b.toNat ≤ 57) ∨ b = 98 ∨ b = 111
  | 0, l, h, _, b, hb => by
    have : l = [] := List.length_eq_zero_iff.mp (by omega)
    subst this; rw [rtx_nil] at hb; exact absurd hb (by simp)
  | n + 1, l, h, hn, b, hb => by
    cases l with
    | nil => rw [rtx_nil] at hb; exact absurd hb (by simp)
    | cons x l =>
      rw [rtx_of (by simp)] at hb
      split at hb
      · exact absurd hb (by simp)
      · have h1 : 1 ≤ rN (at_ 0 (x :: l) 0) (x :: l) := rN_step (t := 0) (by omega) (by simp) rfl
        have h2 := rN_le (at_ 0 (x :: l) 0) (x :: l)
        simp only [List.mem_append, List.mem_singleton] at hb
        rcases hb with (hb | hb) | hb
        · split at hb
          · exact absurd hb (by simp)
          · exact .inl (decT_dig (by omega) b hb)
        · right; rw [hb]; exact chT_bo _
        · exact rtx_asc n _ (by simp only [List.length_drop, List.length_cons] at h ⊢; omega) (by omega) b hb
/-- One round of reading a row. -/
theorem rtx_round {row : List Int} {a : Nat} (hr : row.length < 100) (hne : rtx (row.drop a) ≠ []) : a < row.length ∧ ∃ k p : Nat, a + k ≤ row.length ∧ 1 ≤ k ∧ (k = 1 ∧ p = 0 ∨ 2 ≤ k ∧ 1 ≤ p ∧ (rtx (row.drop a)).take p = decT k) ∧ Go.Lib.indexAny (rtx (row.drop a)) [98, 111] = (p : Int) ∧
    p < (rtx (row.drop a)).length ∧ at_ 0 (rtx (row.drop a)) (p : Int) = chT (at_ 0 row (a : Int)) ∧ (rtx (row.drop a)).drop (p + 1) = rtx (row.drop (a + k)) ∧ ∀ j, j < k → at_ 0 row ((a + j : Nat) : Int) = at_ 0 row (a : Int) := by
  have ha : a < row.length := by
    rcases Nat.lt_or_ge a row.length with h | h
    · exact h
    · rw [List.drop_eq_nil_of_le h, rtx_nil] at hne; exact absurd rfl hne
  refine ⟨ha, ?_⟩
  obtain ⟨k1, k2⟩ := run_pos ha
  have hat : ∀ j, j < rN (at_ 0 row (a : Int)) (row.drop a) → at_ 0 row ((a + j : Nat) : Int) = at_ 0 row (a : Int) := fun j hj => by
    rw [← at_drop]; exact rN_at hj
  have hrun := rtx_run (row := row) ha rfl (fun h => hne (rtx_stop ha rfl h))
  generalize rN (at_ 0 row (a : Int)) (row.drop a) = k at k1 k2 hat hrun
  have hpre : ∀ b ∈ (if k = 1 then [] else decT k), 48 ≤ b.toNat ∧ b.toNat ≤ 57 := fun b hb => by
    split at hb
    · exact absurd hb (by simp)
    · exact decT_dig (by omega) b hb
  refine ⟨k, (if k = 1 then [] else decT k).length, k2, k1, ?_, ?_, ?_, ?_, ?_, hat⟩
  · by_cases h : k = 1
    · left; rw [if_pos h]; exact ⟨h, rfl⟩
    · right
      rw [if_neg h] at hrun ⊢
      refine ⟨by omega, (decT_len k).1, ?_⟩
      rw [hrun, List.append_assoc, List.take_left]
  · rw [hrun]; exact idx_pre hpre (chT_bo _)
  · rw [hrun]; simp only [List.length_append, List.length_singleton]; omega
  · rw [hrun]
    unfold at_
    simp [List.getD_eq_getElem?_getD, List.getElem?_append]
  · rw [hrun]; simp [List.drop_append]
theorem rtx_end {row : List Int} {a : Nat} (hr : row.length < 100) (h : rtx (row.drop a) = []) (ha : a ≤ row.length) : row.take a ++ List.replicate (row.length - a) 0 = row := by
  have hz : ∀ (n : Nat) (l : List Int), l.length ≤ n → rtx l = [] → l = List.replicate l.length 0 := by
    intro n
    induction n with
    | zero => intro l h1 _; have : l = [] := List.length_eq_zero_iff.mp (by omega); subst this; rfl
    | succ n ih =>
      intro l h1 h2
      cases l with
      | nil => rfl
      | cons x l =>
        rw [rtx_of (by simp)] at h2
        split at h2
        · rename_i h3
          refine List.ext_getElem (by simp) (fun j j1 j2 => ?_)
          rw [List.getElem_replicate]
          have := rN_at (x := at_ 0 (x :: l) 0) (l := x :: l) (t := j) (by omega)
          rw [at_eq 0 _ j1, h3.1] at this; exact this
        · have := congrArg List.length h2
          simp only [List.length_append, List.length_singleton, List.length_nil] at this; omega
  have := hz _ (row.drop a) (Nat.le_refl _) h
  rw [List.length_drop] at this
  conv => rhs; rw [← List.take_append_drop a row, this]
theorem idx_one {a b : List UInt8} {c : UInt8} (h : c ∉ a) : Go.Lib.index (a ++ [c] ++ b) [c] = (a.length : Int) := by
  refine Go.Lib.index_first (by simp only [List.length_append]; omega) ?_ (fun j hj => ?_)
  · unfold Go.Lib.occAt
    rw [List.append_assoc, List.drop_left]
    simp [List.isPrefixOf]
  · unfold Go.Lib.occAt
    have hj2 : j < (a ++ [c] ++ b).length := by simp only [List.length_append]; omega
    rw [List.drop_eq_getElem_cons hj2]
    have e : (a ++ [c] ++ b)[j] = a[j] := by rw [List.getElem_append_left (by simp only [List.length_append]; omega), List.getElem_append_left hj]
    rw [e]
    have : c ≠ a[j] := fun x => h (x ▸ List.getElem_mem hj)
    simp [List.isPrefixOf, this]
theorem cut_one {a b : List UInt8} {c : UInt8} (h : c ∉ a) : Go.Lib.cut (a ++ [c] ++ b) [c] = (a, b, true) := by
  unfold Go.Lib.cut
  rw [idx_one h, if_pos (by omega), Int.toNat_natCast, List.append_assoc, List.take_left]
  simp [List.drop_append]
theorem suffix_one (a : List UInt8) (c : UInt8) : Go.Lib.trimSuffix (a ++ [c]) [c] = a ∧ Go.Lib.hasSuffix (a ++ [c]) [c] = true := by
  have h : Go.Lib.hasSuffix (a ++ [c]) [c] = true := by
    unfold Go.Lib.hasSuffix
    rw [List.isSuffixOf_iff_suffix]
    exact List.suffix_append a [c]
  refine ⟨?_, h⟩
  unfold Go.Lib.trimSuffix
  rw [if_pos h]
  simp
theorem joinT_cons (sep a b : List UInt8) (r : List (List UInt8)) : joinT sep (a :: b :: r) = a ++ sep ++ joinT sep (b :: r) := by simp [joinT]
theorem split_join {c : UInt8} : ∀ (ls : List (List UInt8)) (a : List UInt8), (∀ x ∈ a :: ls, c ∉ x) → spT (joinT [c] (a :: ls)) c = a :: ls
  | [], a, h => by
    have ha := h a (by simp)
    unfold spT Go.Lib.split
    rw [Go.Lib.count_one]
    have e : joinT [c] [a] = a := by simp [joinT]
    rw [e, List.count_eq_zero.mpr ha]; rfl
  | b :: r, a, h => by
    have ha := h a (by simp)
    have ih := split_join r b (fun x hx => h x (List.mem_cons_of_mem _ hx))
    unfold spT Go.Lib.split at ih ⊢
    rw [Go.Lib.count_one] at ih ⊢
    rw [joinT_cons]
    have hc : (a ++ [c] ++ joinT [c] (b :: r)).count c = (joinT [c] (b :: r)).count c + 1 := by
      simp only [List.count_append, List.count_eq_zero.mpr ha, List.count_singleton_self]; omega
    rw [hc]
    unfold Go.Lib.splitK
    rw [idx_one ha, if_neg (by simp), Int.toNat_natCast, Nat.add_zero, List.append_assoc, List.take_left]
    congr 1
    rw [← List.append_assoc, show (a ++ [c] ++ joinT [c] (b :: r)).drop (a.length + [c].length) = joinT [c] (b :: r) by simp [List.drop_append]]
    exact ih
theorem dec_no {k : Nat} (hk : k < 100) {c : UInt8} (hc : c.toNat < 48 ∨ 57 < c.toNat) : c ∉ decT k := fun h => by have := decT_dig hk c h; omega
theorem field_cut {r c : Int} {l : List Int} (h0 : 0 ≤ c) (hc : c < 100) (h1 : 0 ≤ r) (hr : r < 100) : Go.Lib.cut (fieldT r c l) [58] = (decT c.toNat ++ [44] ++ decT r.toNat, joinR c.toNat l r.toNat ++ [33], true) := by
  have e : fieldT r c l = (decT c.toNat ++ [44] ++ decT r.toNat) ++ [58] ++ (joinR c.toNat l r.toNat ++ [33]) := by simp [fieldT, headT]
  rw [e]
  refine cut_one (fun h => ?_)
  simp only [List.mem_append, List.mem_singleton] at h
  rcases h with (h | h) | h
  · exact dec_no (by omega) (by decide) h
  · exact absurd h (by decide)
  · exact dec_no (by omega) (by decide) h
theorem head_cut {r c : Int} (h0 : 0 ≤ c) (hc : c < 100) : Go.Lib.cut (decT c.toNat ++ [44] ++ decT r.toNat) [44] = (decT c.toNat, decT r.toNat, true) := cut_one (dec_no (by omega) (by decide))
theorem row_no {c : Nat} {l : List Int} {i : Nat} (hc : c < 100) {x : UInt8} (hx : (x.toNat < 48 ∨ 57 < x.toNat) ∧ x ≠ 98 ∧ x ≠ 111) : x ∉ rtx (rowL c l i) := fun h => by
  have := rtx_asc c (rowL c l i) (by unfold rowL; simp; omega) hc x h
  rcases this with h | h | h
  · omega
  · exact hx.2.1 h
  · exact hx.2.2 h
theorem rows_split {c r : Nat} {l : List Int} (hc : c < 100) (hr : 1 ≤ r) : spT (joinR c l r) 36 = rowsT c l r := by
  unfold joinR
  have hn : rowsT c l r ≠ [] := fun h => by have := congrArg List.length h; rw [rowsT_len] at this; simp at this; omega
  obtain ⟨a, ls, e⟩ := List.exists_cons_of_ne_nil hn
  have hm : ∀ x ∈ rowsT c l r, (36 : UInt8) ∉ x := fun x hx => by
    unfold rowsT at hx
    obtain ⟨i, _, rfl⟩ := List.mem_map.mp hx
    exact row_no hc (by decide)
  rw [e] at hm ⊢
  exact split_join ls a hm
end Go.Proofs.YtijmoehbgkibnaaGreatDoor
/- Builders of texts: what each of their operations does; strings.Join. -/
namespace Go.Proofs.YtijmoehbgkibnaaGreatDoor
open HL
set_option maxRecDepth 100000
namespace HL
/-- A byte as a value. -/
abbrev eC (b : UInt8) : Value := .int .u8 (b.toNat : Int)
section
variable {P : Program} {H : Hp}
theorem val_eqP0 (d : Nat) {t e : TypeId} (b : Option Addr) (ht : P.underlying t = some (.pointer e)) : val P (Op.equalIn (d + 1) t (.pointer none) (.pointer b)) H = some b.isNone := by
  simp only [Op.equalIn, val_bind', val_underlying, ht, Option.bind_some]; cases b <;> rfl
theorem val_eqP1 (d : Nat) {t e : TypeId} (a : Addr) (ht : P.underlying t = some (.pointer e)) : val P (Op.equalIn (d + 1) t (.pointer (some a)) (.pointer none)) H = some false := by
  simp only [Op.equalIn, val_bind', val_underlying, ht, Option.bind_some]; rfl
theorem val_eqP2 (d : Nat) {t e : TypeId} (a : Addr) {k : Nat} (ht : P.underlying t = some (.pointer e)) (he : szO P e = some (k + 1)) : val P (Op.equalIn (d + 1) t (.pointer (some a)) (.pointer (some a))) H = some true := by
  simp only [Op.equalIn, val_bind', val_underlying, ht, Option.bind_some, val_sizeOf, he]
  rw [if_pos (by omega)]
  simp only [sameAddr, beq_self_eq_true, if_true]
  rfl
theorem val_ptr_nil {t e : TypeId} {x y : Operand} (ht : P.underlying t = some (.pointer e)) : val P (do eqGuard .eql t x y (.pointer none) (.pointer none); binOp .eql t (.pointer none) (.pointer none)) H = some (.bool true) := by
  have e1 : val P (Op.equal t (.pointer none) (.pointer none)) H = some true := val_eqP0 9999 none ht
  rw [val_bind', val_eqGuard_other P .eql t x y _ _ H (by simp) (by simp)]
  simp only [Option.bind_some, binOp, val_bind', e1, val_pure]
theorem val_ptr_some {t e : TypeId} {x y : Operand} {a : Addr} (ht : P.underlying t = some (.pointer e)) : val P (do eqGuard .eql t x y (.pointer (some a)) (.pointer none); binOp .eql t (.pointer (some a)) (.pointer none)) H = some (.bool false) := by
  have e1 : val P (Op.equal t (.pointer (some a)) (.pointer none)) H = some false := val_eqP1 9999 a ht
  rw [val_bind', val_eqGuard_other P .eql t x y _ _ H (by simp) (by simp)]
  simp only [Option.bind_some, binOp, val_bind', e1, val_pure]
theorem val_ptr_same {t e : TypeId} {x y : Operand} {a : Addr} {k : Nat} (ht : P.underlying t = some (.pointer e)) (he : szO P e = some (k + 1)) : val P (do eqGuard .neq t x y (.pointer (some a)) (.pointer (some a)); binOp .neq t (.pointer (some a)) (.pointer (some a))) H = some (.bool false) := by
  have e1 : val P (Op.equal t (.pointer (some a)) (.pointer (some a))) H = some true := val_eqP2 9999 a ht he
  rw [val_bind', val_eqGuard_other P .neq t x y _ _ H (by simp) (by simp)]
  simp only [Option.bind_some, binOp, val_bind', e1, val_pure, Bool.not_true]
theorem val_viewAt {r : Nat} {c : Array Value} {e : TypeId} {f : Nat × Nat} (h : H r = some (.cells c e f)) : val P (viewAt r) H = some none := by
  simp only [viewAt, shape, val_bind', val, h, Option.bind_some]
  rfl
theorem val_seenAt {a : Addr} {c : Array Value} {e : TypeId} {f : Nat × Nat} (h : H a.block = some (.cells c e f)) : val P (Conv.seenAt a) H = some a := by
  simp only [Conv.seenAt, val_bind', val_viewAt h, Option.bind_some]
  rfl
theorem val_cellsIn {r : Nat} {c : Array Value} {e : TypeId} {f : Nat × Nat} (h : H r = some (.cells c e f)) : val P (cellsIn r) H = some (some c.size) := by
  simp only [cellsIn, shape, val_bind', val, h, Option.bind_some]
  rfl
theorem val_variablesAt {a : Addr} {c : Array Value} {e u : TypeId} {f : Nat × Nat} {n : Nat} (h : H a.block = some (.cells c e f)) (hl : liesAt P P.depth e (c.size / P.cellsOf e) a.off u n = true) : val P (variablesAt a u n) H = some true := by
  simp only [variablesAt, shape, program, val_bind', val, h, Option.bind_some]
  rw [hl]
  rfl
theorem val_up {s d t : TypeId} {k : Nat} {a : Addr} {c : Array Value} {e : TypeId} {f : Nat × Nat} (hs : P.underlying s = some (.pointer t)) (hd : P.underlying d = some .unsafePointer) (ht : szO P t = some (k + 1)) (h : H a.block = some (.cells c e f)) (ha : a.off < c.size) :
    val P (convert s d (.pointer (some a))) H = some (.pointer (some a)) := by
  simp only [convert, val_bind', val_underlying, hs, hd, Option.bind_some, Conv.unsafePointer, val_seenAt h, val_cellsIn h, val_sizeOf, ht]
  rw [if_neg]
  · rfl
  · simp; omega
theorem val_down {s d u : TypeId} {a : Addr} {c : Array Value} {e : TypeId} {f : Nat × Nat} {k : Nat} (hs : P.underlying s = some .unsafePointer) (hd : P.underlying d = some (.pointer u)) (hu : szO P u = some (k + 1)) (h : H a.block = some (.cells c e f)) (hl : liesAt P P.depth e (c.size / P.cellsOf e) a.off u 1 = true) :
    val P (convert s d (.pointer (some a))) H = some (.pointer (some a)) := by
  simp only [convert, val_bind', val_underlying, hs, hd, Option.bind_some, Conv.unsafePointer, val_seenAt h, val_sizeOf, hu, val_variablesAt h hl]
  rw [if_pos (by simp)]
  rfl
theorem rowAt_plain {d e u count off n : Nat} (hs : P.cellsOf e = 1) (hf : sameLayout P P.depth e u = true) (h : off + n ≤ count) : liesAt P (d + 1) e count off u n = true := by
  have hd : ∃ d', P.depth = d' + 1 := by
    cases hd : P.depth with
    | zero => rw [hd] at hf; simp [sameLayout] at hf
    | succ d' => exact ⟨d', rfl⟩
  obtain ⟨d', hd⟩ := hd
  unfold liesAt
  rw [hd]
  unfold rowAt
  simp only [hs, Nat.div_one, Nat.mod_one]
  rw [hd] at hf
  simp [hf, h]
theorem lies_plain {e u count off n : Nat} (hs : P.cellsOf e = 1) (hf : sameLayout P P.depth e u = true) (h : off + n ≤ count) : liesAt P P.depth e count off u n = true := by
  obtain ⟨d', hd⟩ : ∃ d', P.depth = d' + 1 := by
    cases hd : P.depth with
    | zero => rw [hd] at hf; simp [sameLayout] at hf
    | succ d' => exact ⟨d', rfl⟩
  have := rowAt_plain (d := d') hs hf h
  rw [← hd] at this
  exact this
theorem val_loadBytes : ∀ (l : List UInt8) (a : Addr) (acc : ByteArray), (∀ i (h : i < l.length), H.cell? (a.add i) = some (eC l[i])) → val P (loadBytes a acc l.length) H = some ⟨acc.data ++ l.toArray⟩
  | [], a, acc, _ => by simp [loadBytes, val_pure]
  | x :: l, a, acc, h => by
    have h0 := h 0 (by simp)
    rw [show a.add 0 = a from rfl] at h0
    have ih := val_loadBytes l (a.add 1) (acc.push x) (fun i hi => by
      have := h (i + 1) (by simpa using hi)
      rw [show (a.add 1).add i = a.add (i + 1) by
        unfold Addr.add
        by_cases hi : i = 0
        · subst hi; rfl
        · simp [hi, Nat.add_comm, Nat.add_left_comm]]
      simpa using this)
    simp only [List.length_cons, loadBytes, load, val_bind', val, h0, Option.bind_some, List.getElem_cons_zero]
    rw [show (Int.toNat ((x.toNat : Nat) : Int)).toUInt8 = x by simp, ih]
    congr 2
    show acc.data.push x ++ l.toArray = acc.data ++ (x :: l).toArray
    simp
theorem digits_size : ∀ (n t : Nat) (acc : Array Value), (Extern.BytealgMakeNoZero.digits n t acc).size = acc.size + n
  | 0, _, _ => rfl
  | n + 1, t, acc => by
    unfold Extern.BytealgMakeNoZero.digits
    rw [digits_size]; simp; omega
theorem hp_makeNoZero {params results : Array TypeId} {t e : TypeId} {n : Int} {Q : Value → Hp → Prop} (hr : results[0]? = some t) (ht : P.underlying t = some (.slice e)) (h0 : 0 ≤ n) (h1 : n ≤ 1099511627776)
    (hk : ∀ c r (cs : Array Value), n.toNat ≤ c → c < 9223372036854775808 → H r = none → cs.size = c → Q (.slice (some ⟨r, 0, none⟩) n.toNat c) (H.put r (.cells cs e (0, 0)))) : hp P (Extern.BytealgMakeNoZero.makeNoZero params results #[.int .i64 n]) H Q := by
  delta Extern.BytealgMakeNoZero.makeNoZero
  have e0 : ∀ (f : Int → Sem Value) (g : Array Value → Sem Value), Extern.BytealgMakeNoZero.makeNoZero.match_3 (fun _ => Sem Value) #[.int .i64 n] f g = f n := fun _ _ => rfl
  rw [e0]
  simp only [hr]
  refine hp_val_bind P _ _ H Q _ (by rw [val_underlying, ht]) ?_
  simp only
  rw [if_neg (by simp; omega)]
  simp only [choose, hp_bind', hp, Question.forced, Bool.false_eq_true, if_false]
  intro tt
  refine hp_askRoom P _ H _ ?_
  intro t2
  refine hp_newRow P _ _ _ _ ?_
  intro r hr'
  have hcut : (Question.appendCap n.toNat 0 e).cut tt = n.toNat + tt % (2 ^ 63 - n.toNat) := rfl
  refine hk _ r _ ?_ ?_ hr' (by rw [digits_size]; simp)
  · rw [hcut]; omega
  · rw [hcut]
    have : tt % (2 ^ 63 - n.toNat) < 2 ^ 63 - n.toNat := Nat.mod_lt _ (by omega)
    omega
end
end HL
/-- A Builder's header and its room. -/
structure Bd (e eb : TypeId) (H : Hp) (r b c : Nat) (l : List UInt8) : Prop where
  ne : r ≠ b
  hdr : H r = some (.cells #[.pointer (some ⟨r, 0, none⟩), .slice (some ⟨b, 0, none⟩) l.length c] e (0, 0))
  buf : ∃ cs : Array Value, H b = some (.cells cs eb (0, 0)) ∧ cs.size = c ∧ l.length ≤ c ∧ ∀ i (h : i < l.length), cs[i]? = some (eC l[i])
noncomputable def nzR : Array TypeId := ((prg.funcs[I.internal_bytealg_MakeNoZero]?).map (·.resultTypes)).getD #[]
noncomputable def nzT : TypeId := (nzR[0]?).getD 0
noncomputable def nzE : TypeId := match prg.underlying nzT with | some (.slice e) => e | _ => 0
section
variable {H : Hp} {K : Value → Hp → Prop} {r b c : Nat} {e eb : TypeId} {l s : List UInt8}
theorem vLoad_cell {H : Hp} {r k : Nat} {c : Array Value} {e : TypeId} {f : Nat × Nat} {v : Value} (h : H r = some (.cells c e f)) (hv : c[k]? = some v) : vLoad (.pointer (some ⟨r, k, none⟩)) H = some v := by
  simp only [vLoad, Hp.cell?, h]
  simpa using hv
theorem st_cell {H : Hp} {r k : Nat} {c : Array Value} {e : TypeId} {x : Value} {K : Hp → Prop} (h : H r = some (.cells c e (0, 0))) (hk : k < c.size) (ho : oneCell x = true) (hz : x.cells = #[x]) (hK : K (H.put r (.cells (c.setIfInBounds k x) e (0, 0)))) : st 1 (.pointer (some ⟨r, k, none⟩)) x H K := by
  simp only [HL.st, hz, List.toList_toArray, List.size_toArray, List.length_singleton, true_and, stC, add_none, Nat.add_zero]
  refine ⟨ho, ?_, ?_, ?_⟩
  · simp only [Hp.cell?, h]; simp [hk]
  · simp only [Hp.frozen?, h]; simp
  · simp only [Hp.setCell, h]; exact hK
end
noncomputable def bdP : TypeId := ((prg.funcs[I.pstrings_Builder_copyCheck]?).bind (·.params[0]?)).getD 0
noncomputable def bdE : TypeId := match prg.underlying bdP with | some (.pointer e) => e | _ => 0
section
variable {H : Hp} {K : Value → Hp → Prop} {r b c : Nat} {eb : TypeId} {l s : List UInt8}
theorem C.Builder_copyCheck_new {u : Value} (h : H r = some (.cells #[.pointer none, u] bdE (0, 0))) (hk : K (.tuple #[]) (H.put r (.cells #[.pointer (some ⟨r, 0, none⟩), u] bdE (0, 0)))) :
    HT prg I.pstrings_Builder_copyCheck [.pointer (some ⟨r, 0, none⟩)].toArray H K := by
 refine R.pstrings_Builder_copyCheck ?_
 unfold F.pstrings_Builder_copyCheck
 refine ob_i (a := .pointer (some ⟨r, 0, none⟩)) rfl ?_
 refine ob_i (a := .pointer (some ⟨r, 0, none⟩)) rfl ?_
 refine ob_i (vLoad_cell h rfl) ?_
 refine ob_i (val_ptr_nil (e := bdE) (by kernel_rfl)) ?_
 refine cnd_t1 ?_
 refine hp_of_val prg _ _ _ _ (val_up (t := bdE) (k := 1) (by kernel_rfl) (by kernel_rfl) (by kernel_rfl) h (by simp)) ?_
 have e0 : ∀ Q, hp prg (callFunc I.internal_abi_NoEscape [Value.pointer (some ⟨r, 0, none⟩)].toArray) H Q = Q (.value (.pointer (some ⟨r, 0, none⟩))) H := fun Q => by kernel_rfl
 rw [e0]
 refine hp_of_val prg _ _ _ _ (val_down (u := bdE) (k := 1) (by kernel_rfl) (by kernel_rfl) (by kernel_rfl) h (by kernel_rfl)) ?_
 refine ob_i (a := .pointer (some ⟨r, 0, none⟩)) rfl ?_
 refine ob_i (a := .pointer (some ⟨r, 0, none⟩)) rfl ?_
 exact st_cell h (by simp) rfl rfl hk
theorem C.Builder_copyCheck_old {u : Value} (h : H r = some (.cells #[.pointer (some ⟨r, 0, none⟩), u] bdE (0, 0))) (hk : K (.tuple #[]) H) :
    HT prg I.pstrings_Builder_copyCheck [.pointer (some ⟨r, 0, none⟩)].toArray H K := by
 refine R.pstrings_Builder_copyCheck ?_
 unfold F.pstrings_Builder_copyCheck
 refine ob_i (a := .pointer (some ⟨r, 0, none⟩)) rfl ?_
 refine ob_i (a := .pointer (some ⟨r, 0, none⟩)) rfl ?_
 refine ob_i (vLoad_cell h rfl) ?_
 refine ob_i (val_ptr_some (e := bdE) (by kernel_rfl)) ?_
 refine cnd_f1 ?_
 refine ob_i (a := .pointer (some ⟨r, 0, none⟩)) rfl ?_
 refine ob_i (a := .pointer (some ⟨r, 0, none⟩)) rfl ?_
 refine ob_i (vLoad_cell h rfl) ?_
 refine ob_i (val_ptr_same (e := bdE) (k := 1) (by kernel_rfl) (by kernel_rfl)) ?_
 refine cnd_f1 ?_
 exact hk
theorem C.Builder_Grow {n : Int} (h : H r = some (.cells #[.pointer none, .slice none 0 0] bdE (0, 0))) (n0 : 1 ≤ n) (n1 : n ≤ 1099511627776)
    (hk : ∀ b c H', n.toNat ≤ c → c < 9223372036854775808 → H b = none → Bd bdE nzE H' r b c [] → (∀ x o, H x = some o → x ≠ r → H' x = some o) → K (.tuple #[]) H') :
    HT prg I.pstrings_Builder_Grow [.pointer (some ⟨r, 0, none⟩), .int .i64 n].toArray H K := by
 refine R.pstrings_Builder_Grow ?_
 unfold F.pstrings_Builder_Grow
 refine C.Builder_copyCheck_new h ?_
 have h1 : (H.put r (.cells #[.pointer (some ⟨r, 0, none⟩), .slice none 0 0] bdE (0, 0))) r = some (.cells #[.pointer (some ⟨r, 0, none⟩), .slice none 0 0] bdE (0, 0)) := Hp.put_same _ _ _
 refine jn_i (fun σ H' => σ 0 = .pointer (some ⟨r, 0, none⟩) ∧ σ 1 = .int .i64 n ∧ H' = H.put r (.cells #[.pointer (some ⟨r, 0, none⟩), .slice none 0 0] bdE (0, 0))) (fun σ H2 hP => ?_) (fun J hJ => ?_)
 ·obtain ⟨g0, g1, rfl⟩ := hP
  simp only [g0, g1]
  refine ob_i (a := .pointer (some ⟨r, 0, none⟩)) rfl ?_
  refine ob_i (a := .pointer (some ⟨r, 1, none⟩)) rfl ?_
  refine ob_i (vLoad_cell h1 rfl) ?_
  refine ob_i (a := .int .i64 0) rfl ?_
  refine ob_i (a := .pointer (some ⟨r, 0, none⟩)) rfl ?_
  refine ob_i (a := .pointer (some ⟨r, 1, none⟩)) rfl ?_
  refine ob_i (vLoad_cell h1 rfl) ?_
  refine ob_i (a := .int .i64 0) rfl ?_
  refine ob_i (vInt_sub (by omega) (by omega)) ?_
  refine ob_i (vInt_lss _ _ _) ?_
  rw [decide_eq_true (show (0 : Int) - 0 < n by omega)]
  refine cnd_t1 ?_
  refine R.pstrings_Builder_grow ?_
  unfold F.pstrings_Builder_grow
  refine ob_i (a := .pointer (some ⟨r, 0, none⟩)) rfl ?_
  refine ob_i (a := .pointer (some ⟨r, 1, none⟩)) rfl ?_
  refine ob_i (vLoad_cell h1 rfl) ?_
  refine ob_i (a := .int .i64 0) rfl ?_
  refine ob_i (vInt_mul (by omega) (by omega)) ?_
  refine ob_i (vInt_add (by omega) (by omega)) ?_
  refine ob_i (a := .pointer (some ⟨r, 0, none⟩)) rfl ?_
  refine ob_i (a := .pointer (some ⟨r, 1, none⟩)) rfl ?_
  refine ob_i (vLoad_cell h1 rfl) ?_
  refine ob_i (a := .int .i64 0) rfl ?_
  rw [show (2 : Int) * 0 + n = n by omega]
  have e0 : ∀ H Q, hp prg (callFunc I.internal_bytealg_MakeNoZero [Value.int .i64 n].toArray) H Q = hp prg (do pure (Next.value (← Extern.BytealgMakeNoZero.makeNoZero nzR nzR #[.int .i64 n]))) H Q := fun H Q => by kernel_rfl
  rw [e0]
  refine hp_v ?_
  refine hp_makeNoZero (t := nzT) (e := nzE) (by kernel_rfl) (by kernel_rfl) (by omega) n1 (fun c b cs hc1 hc2 hb hcs => ?_)
  have hrb : r ≠ b := by rintro rfl; rw [h1] at hb; exact absurd hb (by simp)
  have hbH : H b = none := by rw [Hp.put_ne _ _ (Ne.symm hrb)] at hb; exact hb
  refine ⟨Le.put _ hb, ?_⟩
  have e1 : vSl3 1 (.slice (some ⟨b, 0, none⟩) n.toNat c) none (some (.int .i64 0)) none = some (.slice (some ⟨b, 0, none⟩) 0 c) := by
   simp only [vSl3, vSl, bnd]
   rw [if_pos ⟨by omega, by omega⟩]
   simp only [Option.map_some, Nat.zero_mul, Nat.sub_zero]
   congr 1
   split <;> rfl
  refine ob_i e1 ?_
  have h2 : ((H.put r (.cells #[.pointer (some ⟨r, 0, none⟩), .slice none 0 0] bdE (0, 0))).put b (.cells cs nzE (0, 0))) r = some (.cells #[.pointer (some ⟨r, 0, none⟩), .slice none 0 0] bdE (0, 0)) := by
   rw [Hp.put_ne _ _ hrb]; exact h1
  refine ob_i (a := .pointer (some ⟨r, 0, none⟩)) rfl ?_
  refine ob_i (a := .pointer (some ⟨r, 1, none⟩)) rfl ?_
  refine ob_i (vLoad_cell h2 rfl) ?_
  refine hp_v ?_
  refine hp_of_val prg _ _ _ (.int .i64 0) (by kernel_rfl) ?_
  refine ob_i (a := .pointer (some ⟨r, 0, none⟩)) rfl ?_
  refine ob_i (a := .pointer (some ⟨r, 1, none⟩)) rfl ?_
  refine st_cell h2 (by simp) rfl rfl ?_
  refine hk b c _ hc1 hc2 hbH ⟨hrb, Hp.put_same _ _ _, cs, by rw [Hp.put_ne _ _ (Ne.symm hrb), Hp.put_same], hcs, by simp, fun i hi => absurd hi (by simp)⟩ (fun x o hx hxr => ?_)
  have hxb : x ≠ b := by rintro rfl; rw [hbH] at hx; exact absurd hx (by simp)
  rw [Hp.put_ne _ _ hxr, Hp.put_ne _ _ hxb, Hp.put_ne _ _ hxr]
  exact hx
 ·refine ob_i (vInt_lss _ _ _) ?_
  rw [decide_eq_false (show ¬ n < 0 by omega)]
  refine cnd_f1 ?_
  exact hJ _ _ ⟨rfl, rfl, rfl⟩
theorem firstC_str {H : Hp} : firstC H 1 s.length (vS s) = some (s.map eC) := by
  simp only [firstC]
  congr 1
  have : (tS s).extract 0 s.length = tS s := by rw [tS_extract]; simp
  rw [this, tS_data]
theorem C.Builder_WriteString (h : Bd bdE eb H r b c l) (hc : l.length + s.length ≤ c)
    (hk : ∀ H', Bd bdE eb H' r b c (l ++ s) → (∀ x o, H x = some o → x ≠ r → x ≠ b → H' x = some o) → K (.tuple #[.int .i64 s.length, .nilIface]) H') :
    HT prg I.pstrings_Builder_WriteString [.pointer (some ⟨r, 0, none⟩), vS s].toArray H K := by
 refine R.pstrings_Builder_WriteString ?_
 unfold F.pstrings_Builder_WriteString
 refine C.Builder_copyCheck_old h.hdr ?_
 refine ob_i (a := .pointer (some ⟨r, 0, none⟩)) rfl ?_
 refine ob_i (a := .pointer (some ⟨r, 1, none⟩)) rfl ?_
 refine ob_i (a := .slice (some ⟨b, 0, none⟩) l.length c) (vLoad_cell h.hdr rfl) ?_
 obtain ⟨cs, hb, hcs, hlc, hel⟩ := h.buf
 have hlen : lenO (vS s) = some s.length := rfl
 simp only [HL.apd, hlen]
 rw [if_pos hc]
 simp only [firstC_str]
 refine stC_run (b := b) (e := eb) (s.map eC) _ 0 cs H (by rw [Nat.mul_one]; unfold Addr.add; split <;> rfl) (by rw [Nat.mul_one]; unfold Addr.add; split <;> rfl) hb (by rw [Nat.mul_one, add_none]; simp; omega) (by simp; intro x _; rfl) ?_
 intro H' cs' h1 h2 h3 h4 h5
 rw [Nat.mul_one, add_none] at h3 h4
 simp only [Nat.add_zero, Nat.zero_add] at h3 h4
 have hr' : H' r = some (.cells #[.pointer (some ⟨r, 0, none⟩), .slice (some ⟨b, 0, none⟩) l.length c] bdE (0, 0)) := by rw [h5 r h.ne]; exact h.hdr
 refine ob_i (a := .pointer (some ⟨r, 0, none⟩)) rfl ?_
 refine ob_i (a := .pointer (some ⟨r, 1, none⟩)) rfl ?_
 refine st_cell hr' (by simp) rfl rfl ?_
 refine ob_i (vLenS_t s) ?_
 refine hk _ ⟨h.ne, by rw [Hp.put_same]; simp, cs', by rw [Hp.put_ne _ _ (Ne.symm h.ne)]; exact h1, by rw [h2, hcs], by simpa using hc, fun i hi => ?_⟩ (fun x o hx hxr hxb => ?_)
 ·by_cases hil : i < l.length
  ·rw [h3 i hil, hel i hil, List.getElem_append_left hil]
  ·have := h4 (i - l.length) (by simp at hi ⊢; omega)
   rw [show l.length + (i - l.length) = i by omega] at this
   rw [this, List.getElem_append_right (by omega)]; simp
 ·rw [Hp.put_ne _ _ hxr, h5 x hxb]; exact hx
theorem C.Builder_String (h : Bd bdE nzE H r b c l) (hl : 0 < l.length) (hl2 : l.length ≤ 9223372036854775807) (hk : ∀ H', (∀ x o, H x = some o → x ≠ r → x ≠ b → H' x = some o) → K (vS l) H') :
    HT prg I.pstrings_Builder_String [.pointer (some ⟨r, 0, none⟩)].toArray H K := by
 obtain ⟨cs, hb, hcs, hlc, hel⟩ := h.buf
 have e1 : ∀ ts ty H, val prg (Builtin.unsafeSliceData_ ts ty #[.slice (some ⟨b, 0, none⟩) l.length c]) H = some (.pointer (some ⟨b, 0, none⟩)) := fun ts ty H => by
  obtain ⟨c', hc'⟩ : ∃ c', c = c' + 1 := ⟨c - 1, by omega⟩
  rw [hc']
  kernel_rfl
 have hld : val prg (loadBytes ⟨b, 0, none⟩ .empty l.length) H = some ⟨ByteArray.empty.data ++ l.toArray⟩ := val_loadBytes l _ _ (fun i hi => by
  rw [add_none]
  simp only [Hp.cell?, hb, Nat.zero_add, hel i hi]; rfl)
 have e2 : ∀ (ts : Array TypeId) ty pt (Q : Value → Hp → Prop), ts[0]? = some pt → prg.underlying pt = some (.pointer nzE) → (∀ H', (∀ x o, H x = some o → x ≠ r → x ≠ b → H' x = some o) → Q (vS l) H') → hp prg (Builtin.unsafeString_ ts ty #[.pointer (some ⟨b, 0, none⟩), .int .i64 l.length]) H Q := fun ts ty pt Q ht hpt hQ => by
  delta Builtin.unsafeString_
  have e0 : ∀ (f : Option Addr → Value → Sem Value) (g : Array Value → Sem Value), Builtin.unsafeString_.match_3 (fun _ => Sem Value) #[.pointer (some ⟨b, 0, none⟩), .int .i64 l.length] f g = f (some ⟨b, 0, none⟩) (.int .i64 l.length) := fun _ _ => rfl
  rw [e0]
  refine hp_val_bind prg _ _ H Q (l.length : Int) (by kernel_rfl) ?_
  simp only [ht]
  have em : IntKind.i64.max = 9223372036854775807 := by decide
  rw [if_neg (by omega), if_neg (by rw [em]; omega)]
  have hn0 : ¬ ((l.length : Int) = 0) := by omega
  simp only [hn0, if_false]
  refine hp_val_bind prg _ _ H Q nzE (by simp only [elemOf, val_bind', val_underlying, hpt, Option.bind_some]; rfl) ?_
  have hs1 : prg.cellsOf nzE = 1 := by kernel_rfl
  refine hp_val_bind prg _ _ H Q true (val_variablesAt hb (by rw [hs1, Nat.div_one]; exact lies_plain hs1 (by kernel_rfl) (by simp; omega))) ?_
  simp only [if_true]
  rw [Int.toNat_natCast]
  refine hp_val_bind prg _ _ H Q _ hld ?_
  simp only [freeze, hp_bind', hp, hb]
  rw [if_neg (by omega)]
  have et : (⟨ByteArray.empty.data ++ l.toArray⟩ : ByteArray) = tS l := by
   show (⟨#[] ++ l.toArray⟩ : ByteArray) = _
   rw [Array.empty_append]; rfl
  rw [et]
  exact hQ _ (fun x o hx hxr hxb => by rw [Hp.put_ne _ _ hxb]; exact hx)
 refine R.pstrings_Builder_String ?_
 unfold F.pstrings_Builder_String
 refine ⟨?_, ?_⟩
 ·refine ob_i (a := .pointer (some ⟨r, 0, none⟩)) rfl ?_
  refine ob_i (a := .pointer (some ⟨r, 1, none⟩)) rfl ?_
  refine ob_i (a := .slice (some ⟨b, 0, none⟩) l.length c) (vLoad_cell h.hdr rfl) ?_
  refine ob_i (a := .pointer (some ⟨r, 0, none⟩)) rfl ?_
  refine ob_i (a := .pointer (some ⟨r, 1, none⟩)) rfl ?_
  refine ob_i (a := .slice (some ⟨b, 0, none⟩) l.length c) (vLoad_cell h.hdr rfl) ?_
  refine ob_i (a := .int .i64 l.length) rfl ?_
  refine hp_v (hp_of_val prg _ _ _ _ (e1 _ _ _) ?_)
  refine hp_v (e2 _ _ _ _ rfl (by kernel_rfl) (fun H' hH' => hk H' hH'))
 ·refine ob_i (a := .pointer (some ⟨r, 0, none⟩)) rfl ?_
  refine ob_i (a := .pointer (some ⟨r, 1, none⟩)) rfl ?_
  refine ob_i (a := .slice (some ⟨b, 0, none⟩) l.length c) (vLoad_cell h.hdr rfl) ?_
  refine ob_i (a := .pointer (some ⟨r, 0, none⟩)) rfl ?_
  refine ob_i (a := .pointer (some ⟨r, 1, none⟩)) rfl ?_
  refine hp_v (hp_of_val prg _ _ _ _ (e1 _ _ _) ?_)
  refine ob_i (a := .slice (some ⟨b, 0, none⟩) l.length c) (vLoad_cell h.hdr rfl) ?_
  refine ob_i (a := .int .i64 l.length) rfl ?_
  refine hp_v (e2 _ _ _ _ rfl (by kernel_rfl) (fun H' hH' => hk H' hH'))
end
end Go.Proofs.YtijmoehbgkibnaaGreatDoor
