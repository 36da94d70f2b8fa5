/- A logic of partial heaps over the machine: what a computation of the model does where only some blocks are known. -/
import Derived.OrdersIn
import Derived.RangeFuncLeaves
import Derived.RangeFuncRecord
import Derived.KernelRfl
namespace Go.Proofs.YtijmoehbgkibnaaGreatDoor.HL

/-- A partial heap: the blocks that are known. -/
abbrev Hp := Nat → Option Obj

/-- The world has what the partial heap says. -/
def Sub (H : Hp) (w : World) : Prop := ∀ b o, H b = some o → w.heap[b]? = some o

def Hp.cell? (H : Hp) (a : Addr) : Option Value :=
  match H a.block with
  | some (.cells c _ _) => if a.spot.isSome then none else c[a.off]?
  | _ => none
def Hp.frozen? (H : Hp) (a : Addr) : Bool :=
  match H a.block with
  | some (.cells _ _ (lo, hi)) => lo ≤ a.off && a.off < hi
  | _ => false
def Hp.put (H : Hp) (b : Nat) (o : Obj) : Hp := fun x => if x = b then some o else H x
def Hp.setCell (H : Hp) (a : Addr) (v : Value) : Hp :=
  match H a.block with
  | some (.cells c e f) => H.put a.block (.cells (if a.spot.isSome then c else c.setIfInBounds a.off v) e f)
  | _ => H

theorem Hp.put_same (H : Hp) (b : Nat) (o : Obj) : H.put b o b = some o := by simp [Hp.put]
theorem Hp.put_ne (H : Hp) {b x : Nat} (o : Obj) (h : x ≠ b) : H.put b o x = H x := by simp [Hp.put, h]

/-- A value that lies in one cell. -/
def oneCell : Value → Bool
  | .agg _ | .tuple _ => false
  | _ => true

/-- What holds behind a computation, whatever the unknown blocks, the new blocks' numbers and the tape are. -/
def hp (P : Program) {α : Type} : Sem α → Hp → (α → Hp → Prop) → Prop
  | .pure a, H, Q => Q a H
  | .load _ a k, H, Q =>
    match H.cell? a with
    | some v => hp P (k v) H Q
    | none => False
  | .store _ a v k, H, Q => oneCell v = true ∧ (H.cell? a).isSome = true ∧ H.frozen? a = false ∧ hp P k (H.setCell a v) Q
  | .new o k, H, Q => ∀ r, H r = none → hp P (k r) (H.put r o) Q
  | .shape r k, H, Q =>
    match H r with
    | some (.cells c e _) => hp P (k (some (e, c.size))) H Q
    | _ => False
  | .freeze a n k, H, Q =>
    match H a.block with
    | some (.cells c e (lo, hi)) =>
      hp P k (if n = 0 then H else H.put a.block (.cells c e (if lo == hi then (a.off, a.off + n) else (min lo a.off, max hi (a.off + n))))) Q
    | _ => False
  | .frozen a k, H, Q =>
    match H a.block with
    | some (.cells _ _ _) => hp P (k (H.frozen? a)) H Q
    | _ => False
  | .getObj r k, H, Q =>
    match H r with
    | some (.cells ..) => False
    | some o => hp P (k o) H Q
    | none => False
  | .setObj r o k, H, Q =>
    match H r with
    | some (.cells ..) => False
    | some _ => hp P k (H.put r o) Q
    | none => False
  | .choose q k, H, Q => if q.forced then hp P (k 0) H Q else ∀ t, hp P (k (q.cut t)) H Q
  | .sys _ _, _, _ => False
  | .program k, H, Q => hp P (k P) H Q
  | .mark _ k, H, Q => hp P k H Q
  | .halt _, _, _ => False

theorem Sub.cell {H : Hp} {w : World} (h : Sub H w) {a : Addr} {v : Value} (hc : H.cell? a = some v) : w.cell? a = some v := by
  unfold Hp.cell? at hc
  unfold World.cell?
  cases ho : H a.block with
  | none => simp [ho] at hc
  | some o => rw [h _ _ ho]; rw [ho] at hc; exact hc

theorem Sub.frozen {H : Hp} {w : World} (h : Sub H w) {a : Addr} {c : Array Value} {e : TypeId} {f : Nat × Nat} (hc : H a.block = some (.cells c e f)) :
    w.frozen? a = H.frozen? a := by
  unfold World.frozen? Hp.frozen?
  rw [h _ _ hc, hc]

theorem Sub.put_new {H : Hp} {w : World} (h : Sub H w) (o : Obj) : Sub (H.put w.heap.size o) { w with heap := w.heap.push o } := by
  intro b o' hb
  unfold Hp.put at hb
  by_cases e : b = w.heap.size
  · subst e; simp at hb; subst hb; simp
  · rw [if_neg e] at hb
    have := h b o' hb
    have hlt : b < w.heap.size := by
      rcases Nat.lt_or_ge b w.heap.size with h1 | h1
      · exact h1
      · rw [Array.getElem?_eq_none h1] at this; exact absurd this (by simp)
    rw [Array.getElem?_push]; simp [e]; simpa using this

theorem Sub.none_at {H : Hp} {w : World} (h : Sub H w) : H w.heap.size = none := by
  cases ho : H w.heap.size with
  | none => rfl
  | some o => have := h _ _ ho; simp at this

theorem Sub.lt {H : Hp} {w : World} (h : Sub H w) {b : Nat} {o : Obj} (hb : H b = some o) : b < w.heap.size := by
  have := h _ _ hb
  rcases Nat.lt_or_ge b w.heap.size with h1 | h1
  · exact h1
  · rw [Array.getElem?_eq_none h1] at this; exact absurd this (by simp)

theorem Sub.set {H : Hp} {w w' : World} (h : Sub H w) {b : Nat} {o o' : Obj} (hb : H b = some o') (hw : w'.heap = w.heap.setIfInBounds b o) : Sub (H.put b o) w' := by
  intro x ox hx
  have hlt := h.lt hb
  rw [hw]
  unfold Hp.put at hx
  by_cases e : x = b
  · subst e; simp at hx; subst hx; simp [hlt]
  · rw [if_neg e] at hx
    rw [Array.getElem?_setIfInBounds_ne (Ne.symm e)]
    exact h _ _ hx

theorem setCell_heap (w : World) (a : Addr) (v : Value) {c : Array Value} {e : TypeId} {f : Nat × Nat} (h : w.heap[a.block]? = some (.cells c e f)) :
    (w.setCell a v).heap = w.heap.setIfInBounds a.block (.cells (if a.spot.isSome then c else c.setIfInBounds a.off v) e f) := by
  unfold World.setCell
  apply Array.ext_getElem?
  intro i
  simp only [Array.getElem?_modify, Array.getElem?_setIfInBounds]
  by_cases e1 : a.block = i
  · subst e1
    have hlt : a.block < w.heap.size := by
      rcases Nat.lt_or_ge a.block w.heap.size with h1 | h1
      · exact h1
      · rw [Array.getElem?_eq_none h1] at h; exact absurd h (by simp)
    rw [Array.getElem?_eq_getElem hlt, Option.some.injEq] at h
    simp [hlt, h]
  · simp [e1]

theorem freeze_heap (w : World) (a : Addr) (n : Nat) (hn : n ≠ 0) {c : Array Value} {e : TypeId} {lo hi : Nat} (h : w.heap[a.block]? = some (.cells c e (lo, hi))) :
    (w.freeze a n).heap = w.heap.setIfInBounds a.block (.cells c e (if lo == hi then (a.off, a.off + n) else (min lo a.off, max hi (a.off + n)))) := by
  unfold World.freeze
  rw [if_neg hn]
  apply Array.ext_getElem?
  intro i
  simp only [Array.getElem?_modify, Array.getElem?_setIfInBounds]
  by_cases e1 : a.block = i
  · subst e1
    have hlt : a.block < w.heap.size := by
      rcases Nat.lt_or_ge a.block w.heap.size with h1 | h1
      · exact h1
      · rw [Array.getElem?_eq_none h1] at h; exact absurd h (by simp)
    rw [Array.getElem?_eq_getElem hlt, Option.some.injEq] at h
    simp [hlt, h]
  · simp [e1]

/-- What isn't known stays as it is, and isn't known later. -/
structure Fr (H H' : Hp) (w w' : World) : Prop where
  size : w.heap.size ≤ w'.heap.size
  keep : ∀ b, b < w.heap.size → H b = none → H' b = none ∧ w'.heap[b]? = w.heap[b]?
  os : w'.os = w.os
  tape : w'.tape = w.tape
  output : w'.output = w.output
theorem Fr.refl (H : Hp) (w : World) : Fr H H w w := ⟨Nat.le_refl _, fun _ _ h => ⟨h, rfl⟩, rfl, rfl, rfl⟩
theorem Fr.trans {A B C : Hp} {u v w : World} (h : Fr A B u v) (h' : Fr B C v w) : Fr A C u w :=
  ⟨Nat.le_trans h.1 h'.1, fun b hb hn => by
    obtain ⟨h1, h2⟩ := h.2 b hb hn
    obtain ⟨h3, h4⟩ := h'.2 b (Nat.lt_of_lt_of_le hb h.1) h1
    exact ⟨h3, h4.trans h2⟩, h'.os.trans h.os, h'.tape.trans h.tape, h'.output.trans h.output⟩
theorem Fr.set {H : Hp} {w w' : World} {b : Nat} {o o' : Obj} (hb : H b = some o') (hw : w'.heap = w.heap.setIfInBounds b o) (h1 : w'.os = w.os) (h2 : w'.tape = w.tape) (h3 : w'.output = w.output) : Fr H (H.put b o) w w' := by
  refine ⟨by rw [hw]; simp, fun x hx hn => ?_, h1, h2, h3⟩
  have hne : x ≠ b := by rintro rfl; rw [hn] at hb; exact absurd hb (by simp)
  refine ⟨by rw [Hp.put_ne _ _ hne]; exact hn, ?_⟩
  rw [hw, Array.getElem?_setIfInBounds_ne (Ne.symm hne)]
theorem Fr.put_new (H : Hp) (w : World) (o : Obj) : Fr H (H.put w.heap.size o) w { w with heap := w.heap.push o } := by
  refine ⟨by simp, fun x hx hn => ?_, rfl, rfl, rfl⟩
  have hne : x ≠ w.heap.size := by omega
  refine ⟨by rw [Hp.put_ne _ _ hne]; exact hn, ?_⟩
  simp only [Array.getElem?_push, if_neg hne]

theorem hp_sound (P : Program) {α : Type} (m : Sem α) : ∀ (H : Hp) (Q : α → Hp → Prop) (w : World), hp P m H Q → Sub H w →
    ∃ v w' H', m.run P w = .ok v w' ∧ Sub H' w' ∧ Fr H H' w w' ∧ Q v H' := by
  induction m with
  | pure a => intro H Q w h hs; exact ⟨a, w, H, rfl, hs, Fr.refl H w, h⟩
  | load md a k ih =>
    intro H Q w h hs
    simp only [hp] at h
    cases hc : H.cell? a with
    | none => simp [hc] at h
    | some v =>
      simp only [hc] at h
      simp only [Sem.run, hs.cell hc]
      exact ih v H Q w h hs
  | store md a v k ih =>
    intro H Q w h hs
    simp only [hp] at h
    obtain ⟨h1, h2, h3, h4⟩ := h
    obtain ⟨x, hx⟩ := Option.isSome_iff_exists.mp h2
    have hcells : ∃ c e f, H a.block = some (.cells c e f) := by
      unfold Hp.cell? at hx
      split at hx
      · rename_i c e f ho; exact ⟨_, _, _, ho⟩
      · simp at hx
    obtain ⟨c, e, f, ho⟩ := hcells
    have hw : w.cell? a = some x := hs.cell hx
    have hf : w.frozen? a = false := by rw [hs.frozen ho]; exact h3
    have hsub : Sub (H.setCell a v) (w.setCell a v) := by
      unfold Hp.setCell
      rw [ho]
      exact hs.set ho (setCell_heap w a v (hs _ _ ho))
    have hfr : Fr H (H.setCell a v) w (w.setCell a v) := by
      unfold Hp.setCell
      rw [ho]
      exact Fr.set ho (setCell_heap w a v (hs _ _ ho)) rfl rfl rfl
    obtain ⟨r1, r2, r3, r4, r5, r6, r7⟩ := ih _ Q _ h4 hsub
    have hr : ∃ v' w' H', k.run P (w.setCell a v) = .ok v' w' ∧ Sub H' w' ∧ Fr H H' w w' ∧ Q v' H' := ⟨r1, r2, r3, r4, r5, hfr.trans r6, r7⟩
    cases v <;> simp only [oneCell, Bool.false_eq_true] at h1 <;> simpa only [Sem.run, hw, hf, if_false, Bool.false_eq_true] using hr
  | new o k ih =>
    intro H Q w h hs
    simp only [hp] at h
    simp only [Sem.run]
    obtain ⟨r1, r2, r3, r4, r5, r6, r7⟩ := ih _ _ Q _ (h _ hs.none_at) (hs.put_new o)
    exact ⟨r1, r2, r3, r4, r5, (Fr.put_new H w o).trans r6, r7⟩
  | shape r k ih =>
    intro H Q w h hs
    simp only [hp] at h
    split at h
    · rename_i c e f ho
      simp only [Sem.run, World.shape?, hs _ _ ho]
      exact ih _ H Q w h hs
    · exact h.elim
  | freeze a n k ih =>
    intro H Q w h hs
    simp only [hp] at h
    split at h
    · rename_i c e lo hi ho
      simp only [Sem.run]
      by_cases hn : n = 0
      · simp only [hn, if_true] at h
        obtain ⟨r1, r2, r3, r4, r5, r6, r7⟩ := ih _ Q _ h hs
        subst hn
        exact ⟨r1, r2, r3, by simpa only [World.freeze, if_true] using r4, r5, r6, r7⟩
      · rw [if_neg hn] at h
        obtain ⟨r1, r2, r3, r4, r5, r6, r7⟩ := ih _ Q _ h (hs.set ho (freeze_heap w a n hn (hs _ _ ho)))
        exact ⟨r1, r2, r3, r4, r5, (Fr.set ho (freeze_heap w a n hn (hs _ _ ho)) (by unfold World.freeze; rw [if_neg hn]) (by unfold World.freeze; rw [if_neg hn]) (by unfold World.freeze; rw [if_neg hn])).trans r6, r7⟩
    · exact h.elim
  | frozen a k ih =>
    intro H Q w h hs
    simp only [hp] at h
    split at h
    · rename_i c e f ho
      simp only [Sem.run, hs.frozen ho]
      exact ih _ H Q w h hs
    · exact h.elim
  | getObj r k ih =>
    intro H Q w h hs
    simp only [hp] at h
    split at h
    · exact h.elim
    · rename_i o hne ho
      have hw := hs _ _ ho
      simp only [Sem.run, hw]
      cases o with
      | cells c e f => exact (hne c e f rfl).elim
      | _ => exact ih _ H Q w h hs
    · exact h.elim
  | setObj r o k ih =>
    intro H Q w h hs
    simp only [hp] at h
    split at h
    · exact h.elim
    · rename_i o' hne ho
      have hw := hs _ _ ho
      simp only [Sem.run, hw]
      cases o' with
      | cells c e f => exact (hne c e f rfl).elim
      | _ =>
        obtain ⟨r1, r2, r3, r4, r5, r6, r7⟩ := ih (H.put r o) Q { w with heap := w.heap.setIfInBounds r o } h (hs.set ho rfl)
        exact ⟨r1, r2, r3, r4, r5, (Fr.set (w' := { w with heap := w.heap.setIfInBounds r o }) ho rfl rfl rfl rfl).trans r6, r7⟩
    · exact h.elim
  | choose q k ih =>
    intro H Q w h hs
    simp only [hp] at h
    simp only [Sem.run]
    split
    · rename_i hf
      rw [if_pos hf] at h
      exact ih _ H Q w h hs
    · rename_i hf
      rw [if_neg hf] at h
      obtain ⟨r1, r2, r3, r4, r5, r6, r7⟩ := ih _ H Q { w with drawn := w.drawn + 1 } (h (w.tape w.drawn q)) hs
      exact ⟨r1, r2, r3, r4, r5, ⟨r6.size, r6.keep, r6.os, r6.tape, r6.output⟩, r7⟩
  | sys c k ih => intro H Q w h hs; exact absurd h (by simp [hp])
  | program k ih => intro H Q w h hs; exact ih _ H Q w h hs
  | mark m k ih => intro H Q w h hs; exact ih H Q w h hs
  | halt h => intro H Q w h hs; exact absurd h (by simp [hp])

theorem hp_mono (P : Program) {α : Type} (m : Sem α) : ∀ (H : Hp) (Q Q' : α → Hp → Prop), (∀ v H, Q v H → Q' v H) → hp P m H Q → hp P m H Q' := by
  induction m with
  | pure a => intro H Q Q' hq h; exact hq _ _ h
  | load md a k ih => intro H Q Q' hq h; simp only [hp] at h ⊢; split at h <;> first | exact ih _ _ _ _ hq h | exact h
  | store md a v k ih => intro H Q Q' hq h; simp only [hp] at h ⊢; exact ⟨h.1, h.2.1, h.2.2.1, ih _ _ _ hq h.2.2.2⟩
  | new o k ih => intro H Q Q' hq h; simp only [hp] at h ⊢; exact fun r hr => ih _ _ _ _ hq (h r hr)
  | shape r k ih => intro H Q Q' hq h; simp only [hp] at h ⊢; split at h <;> first | exact ih _ _ _ _ hq h | exact h
  | freeze a n k ih => intro H Q Q' hq h; simp only [hp] at h ⊢; split at h <;> first | exact ih _ _ _ hq h | exact h
  | frozen a k ih => intro H Q Q' hq h; simp only [hp] at h ⊢; split at h <;> first | exact ih _ _ _ _ hq h | exact h
  | getObj r k ih => intro H Q Q' hq h; simp only [hp] at h ⊢; split at h <;> first | exact h | exact ih _ _ _ _ hq h
  | setObj r o k ih => intro H Q Q' hq h; simp only [hp] at h ⊢; split at h <;> first | exact h | exact ih _ _ _ hq h
  | choose q k ih =>
    intro H Q Q' hq h; simp only [hp] at h ⊢
    by_cases hf : q.forced = true
    · rw [if_pos hf] at h ⊢; exact ih _ _ _ _ hq h
    · rw [if_neg hf] at h ⊢; exact fun t => ih _ _ _ _ hq (h t)
  | sys c k ih => intro H Q Q' hq h; exact h
  | program k ih => intro H Q Q' hq h; exact ih _ _ _ _ hq h
  | mark m k ih => intro H Q Q' hq h; exact ih _ _ _ hq h
  | halt h => intro H Q Q' hq h; exact h

theorem hp_bind (P : Program) {α β : Type} (m : Sem α) (f : α → Sem β) : ∀ (H : Hp) (Q : β → Hp → Prop),
    hp P (m.bind f) H Q = hp P m H (fun v H' => hp P (f v) H' Q) := by
  induction m with
  | pure a => intro H Q; rfl
  | load md a k ih => intro H Q; simp only [Sem.bind, hp]; split <;> simp_all
  | store md a v k ih => intro H Q; simp only [Sem.bind, hp, ih]
  | new o k ih => intro H Q; simp only [Sem.bind, hp, ih]
  | shape r k ih => intro H Q; simp only [Sem.bind, hp]; split <;> simp_all
  | freeze a n k ih => intro H Q; simp only [Sem.bind, hp]; split <;> simp_all
  | frozen a k ih => intro H Q; simp only [Sem.bind, hp]; split <;> simp [ih]
  | getObj r k ih => intro H Q; simp only [Sem.bind, hp]; split <;> simp_all
  | setObj r o k ih => intro H Q; simp only [Sem.bind, hp]; split <;> simp_all
  | choose q k ih => intro H Q; simp only [Sem.bind, hp]; split <;> simp_all
  | sys c k ih => intro H Q; simp only [Sem.bind, hp]
  | program k ih => intro H Q; simp only [Sem.bind, hp, ih]
  | mark m k ih => intro H Q; simp only [Sem.bind, hp, ih]
  | halt h => intro H Q; simp only [Sem.bind, hp]
theorem hp_bind' (P : Program) {α β : Type} (m : Sem α) (f : α → Sem β) (H : Hp) (Q : β → Hp → Prop) :
    hp P (m >>= f) H Q = hp P m H (fun v H' => hp P (f v) H' Q) := hp_bind P m f H Q
theorem hp_pure (P : Program) {α : Type} (a : α) (H : Hp) (Q : α → Hp → Prop) : hp P (pure a) H Q = Q a H := rfl

/-- A computation that only reads, and leaves nothing open: its value. -/
def val (P : Program) {α : Type} : Sem α → Hp → Option α
  | .pure a, _ => some a
  | .load _ a k, H =>
    match H.cell? a with
    | some v => val P (k v) H
    | none => none
  | .shape r k, H =>
    match H r with
    | some (.cells c e _) => val P (k (some (e, c.size))) H
    | _ => none
  | .frozen a k, H =>
    match H a.block with
    | some (.cells _ _ _) => val P (k (H.frozen? a)) H
    | _ => none
  | .getObj r k, H =>
    match H r with
    | some (.cells ..) => none
    | some o => val P (k o) H
    | none => none
  | .choose q k, H => if q.forced then val P (k 0) H else none
  | .program k, H => val P (k P) H
  | .mark _ k, H => val P k H
  | .store .., _ | .new .., _ | .freeze .., _ | .setObj .., _ | .sys .., _ | .halt _, _ => none

theorem hp_of_val (P : Program) {α : Type} (m : Sem α) : ∀ (H : Hp) (Q : α → Hp → Prop) (v : α), val P m H = some v → Q v H → hp P m H Q := by
  induction m with
  | pure a => intro H Q v h hq; simp only [val, Option.some.injEq] at h; subst h; exact hq
  | load md a k ih => intro H Q v h hq; simp only [val] at h; simp only [hp]; split at h <;> first | exact ih _ _ _ _ h hq | (simp at h; done)
  | shape r k ih => intro H Q v h hq; simp only [val] at h; simp only [hp]; split at h <;> first | exact ih _ _ _ _ h hq | (simp at h; done)
  | frozen a k ih => intro H Q v h hq; simp only [val] at h; simp only [hp]; split at h <;> first | exact ih _ _ _ _ h hq | (simp at h; done)
  | getObj r k ih => intro H Q v h hq; simp only [val] at h; simp only [hp]; split at h <;> first | exact ih _ _ _ _ h hq | (simp at h; done)
  | choose q k ih =>
    intro H Q v h hq; simp only [val] at h; simp only [hp]
    by_cases hf : q.forced = true
    · rw [if_pos hf] at h ⊢; exact ih _ _ _ _ h hq
    · rw [if_neg hf] at h; simp at h
  | program k ih => intro H Q v h hq; exact ih _ _ _ _ h hq
  | mark m k ih => intro H Q v h hq; exact ih _ _ _ h hq
  | store md a v k ih => intro H Q v h hq; simp [val] at h
  | new o k ih => intro H Q v h hq; simp [val] at h
  | freeze a n k ih => intro H Q v h hq; simp [val] at h
  | setObj r o k ih => intro H Q v h hq; simp [val] at h
  | sys c k ih => intro H Q v h hq; simp [val] at h
  | halt h => intro H Q v h hq; simp [val] at h

theorem val_run (P : Program) {α : Type} (m : Sem α) (H : Hp) (v : α) (w : World) (h : val P m H = some v) (hs : Sub H w) : m.run P w = .ok v w := by
  induction m with
  | pure a => simp only [val, Option.some.injEq] at h; subst h; rfl
  | load md a k ih =>
    simp only [val] at h
    cases hc : H.cell? a with
    | none => simp [hc] at h
    | some x => simp only [hc] at h; simp only [Sem.run, hs.cell hc]; exact ih _ h
  | shape r k ih =>
    simp only [val] at h
    split at h
    · rename_i c e f ho; simp only [Sem.run, World.shape?, hs _ _ ho]; exact ih _ h
    · simp at h
  | frozen a k ih =>
    simp only [val] at h
    split at h
    · rename_i c e f ho; simp only [Sem.run, hs.frozen ho]; exact ih _ h
    · simp at h
  | getObj r k ih =>
    simp only [val] at h
    split at h
    · simp at h
    · rename_i o hne ho
      have hw := hs _ _ ho
      simp only [Sem.run, hw]
      cases o with
      | cells c e f => exact (hne c e f rfl).elim
      | _ => exact ih _ h
    · simp at h
  | choose q k ih =>
    simp only [val] at h; simp only [Sem.run]
    by_cases hf : q.forced = true
    · rw [if_pos hf] at h ⊢; exact ih _ h
    · rw [if_neg hf] at h; simp at h
  | program k ih => exact ih _ h
  | mark m k ih => exact ih h
  | store md a v k ih => simp [val] at h
  | new o k ih => simp [val] at h
  | freeze a n k ih => simp [val] at h
  | setObj r o k ih => simp [val] at h
  | sys c k ih => simp [val] at h
  | halt h' => simp [val] at h

/-- More is known. -/
def Le (H H' : Hp) : Prop := ∀ b o, H b = some o → H' b = some o
theorem Le.refl (H : Hp) : Le H H := fun _ _ h => h
theorem Le.trans {A B C : Hp} (h : Le A B) (h' : Le B C) : Le A C := fun b o hb => h' b o (h b o hb)
theorem Le.put {H : Hp} {b : Nat} (o : Obj) (h : H b = none) : Le H (H.put b o) := by
  intro x ox hx
  unfold Hp.put
  rw [if_neg (by rintro rfl; rw [h] at hx; exact absurd hx (by simp))]
  exact hx
theorem Le.cell {H H' : Hp} (h : Le H H') {a : Addr} {v : Value} (hc : H.cell? a = some v) : H'.cell? a = some v := by
  unfold Hp.cell? at hc ⊢
  cases ho : H a.block with
  | none => simp [ho] at hc
  | some o => rw [h _ _ ho]; rw [ho] at hc; exact hc
theorem Le.frozen {H H' : Hp} (h : Le H H') {a : Addr} {c : Array Value} {e : TypeId} {f : Nat × Nat} (hc : H a.block = some (.cells c e f)) :
    H'.frozen? a = H.frozen? a := by
  unfold Hp.frozen?
  rw [h _ _ hc, hc]
theorem Le.sub {H H' : Hp} {w : World} (h : Le H H') (hs : Sub H' w) : Sub H w := fun b o hb => hs b o (h b o hb)

theorem val_le (P : Program) {α : Type} (m : Sem α) (H H' : Hp) (v : α) (h : val P m H = some v) (hl : Le H H') : val P m H' = some v := by
  induction m with
  | pure a => exact h
  | load md a k ih =>
    simp only [val] at h ⊢
    cases hc : H.cell? a with
    | none => simp [hc] at h
    | some x => simp only [hc] at h; simp only [hl.cell hc]; exact ih _ h
  | shape r k ih =>
    simp only [val] at h ⊢
    split at h
    · rename_i c e f ho; simp only [hl _ _ ho]; exact ih _ h
    · simp at h
  | frozen a k ih =>
    simp only [val] at h ⊢
    split at h
    · rename_i c e f ho; simp only [hl _ _ ho, hl.frozen ho]; exact ih _ h
    · simp at h
  | getObj r k ih =>
    simp only [val] at h ⊢
    split at h
    · simp at h
    · rename_i o hne ho
      have hw := hl _ _ ho
      simp only [hw]
      cases o with
      | cells c e f => exact (hne c e f rfl).elim
      | _ => exact ih _ h
    · simp at h
  | choose q k ih =>
    simp only [val] at h ⊢
    by_cases hf : q.forced = true
    · rw [if_pos hf] at h ⊢; exact ih _ h
    · rw [if_neg hf] at h; simp at h
  | program k ih => exact ih _ h
  | mark m k ih => exact ih h
  | store md a v k ih => simp [val] at h
  | new o k ih => simp [val] at h
  | freeze a n k ih => simp [val] at h
  | setObj r o k ih => simp [val] at h
  | sys c k ih => simp [val] at h
  | halt h' => simp [val] at h

theorem val_bind (P : Program) {α β : Type} (m : Sem α) (f : α → Sem β) (H : Hp) : val P (m.bind f) H = (val P m H).bind fun v => val P (f v) H := by
  induction m with
  | pure a => rfl
  | load md a k ih => simp only [Sem.bind, val]; split <;> simp_all
  | shape r k ih => simp only [Sem.bind, val]; split <;> simp_all
  | frozen a k ih => simp only [Sem.bind, val]; split <;> simp [ih]
  | getObj r k ih => simp only [Sem.bind, val]; split <;> simp_all
  | choose q k ih => simp only [Sem.bind, val]; split <;> simp_all
  | program k ih => simp only [Sem.bind, val, ih]
  | mark m k ih => simp only [Sem.bind, val, ih]
  | store md a v k ih => simp [Sem.bind, val]
  | new o k ih => simp [Sem.bind, val]
  | freeze a n k ih => simp [Sem.bind, val]
  | setObj r o k ih => simp [Sem.bind, val]
  | sys c k ih => simp [Sem.bind, val]
  | halt h => simp [Sem.bind, val]
theorem val_bind' (P : Program) {α β : Type} (m : Sem α) (f : α → Sem β) (H : Hp) : val P (m >>= f) H = (val P m H).bind fun v => val P (f v) H := val_bind P m f H
theorem val_pure (P : Program) {α : Type} (a : α) (H : Hp) : val P (pure a) H = some a := rfl

/-- What a call does: it returns, and this holds of its value and of what is known then; what isn't known stays. -/
def HT (P : Program) (f : FuncId) (args : Array Value) (H : Hp) (K : Value → Hp → Prop) : Prop :=
  ∀ w, Sub H w → Calls P f args w (fun e w' => ∃ v H', e = .returned v ∧ Sub H' w' ∧ Fr H H' w w' ∧ K v H')
theorem HT.mono {P : Program} {f : FuncId} {args : Array Value} {H : Hp} {K K' : Value → Hp → Prop} (h : HT P f args H K) (hk : ∀ v H, K v H → K' v H) : HT P f args H K' :=
  fun w hs => (h w hs).mono fun _ _ ⟨v, H', he, hs', fr, k⟩ => ⟨v, H', he, hs', fr, hk _ _ k⟩

/-! ### what is known besides stays -/
theorem Hp.put_comm (H : Hp) {a b : Nat} (x y : Obj) (h : a ≠ b) : (H.put a x).put b y = (H.put b y).put a x := by
  funext z
  unfold Hp.put
  by_cases h1 : z = b
  · subst h1; simp [Ne.symm h]
  · simp [h1]
theorem Hp.put_put (H : Hp) (a : Nat) (x y : Obj) : (H.put a x).put a y = H.put a y := by
  funext z
  unfold Hp.put
  by_cases h1 : z = a <;> simp [h1]
theorem Hp.setCell_put {H : Hp} {r : Nat} (o : Obj) (a : Addr) (v : Value) (h : a.block ≠ r) : (H.put r o).setCell a v = (H.setCell a v).put r o := by
  unfold Hp.setCell
  rw [Hp.put_ne _ _ h]
  cases H a.block with
  | none => rfl
  | some x => cases x <;> first | rfl | exact Hp.put_comm _ _ _ (Ne.symm h)
theorem Hp.cell_block {H : Hp} {a : Addr} {v : Value} (h : H.cell? a = some v) : ∃ c e f, H a.block = some (.cells c e f) := by
  unfold Hp.cell? at h
  split at h
  · rename_i c e f ho; exact ⟨_, _, _, ho⟩
  · simp at h

theorem hp_frame (P : Program) {α : Type} (m : Sem α) : ∀ (H : Hp) (Q : α → Hp → Prop) (r : Nat) (o : Obj), hp P m H Q → H r = none →
    hp P m (H.put r o) (fun v H'' => ∃ H', Q v H' ∧ H' r = none ∧ H'' = H'.put r o) := by
  induction m with
  | pure a => intro H Q r o h hn; exact ⟨H, h, hn, rfl⟩
  | load md a k ih =>
    intro H Q r o h hn
    simp only [hp] at h ⊢
    cases hc : H.cell? a with
    | none => simp [hc] at h
    | some v => simp only [hc] at h; simp only [(Le.put o hn).cell hc]; exact ih _ _ _ _ _ h hn
  | store md a v k ih =>
    intro H Q r o h hn
    simp only [hp] at h ⊢
    obtain ⟨h1, h2, h3, h4⟩ := h
    obtain ⟨x, hx⟩ := Option.isSome_iff_exists.mp h2
    obtain ⟨c, e, f, ho⟩ := Hp.cell_block hx
    have hne : a.block ≠ r := by rintro rfl; rw [hn] at ho; exact absurd ho (by simp)
    refine ⟨h1, by rw [(Le.put o hn).cell hx]; rfl, by rw [(Le.put o hn).frozen ho]; exact h3, ?_⟩
    rw [Hp.setCell_put o a v hne]
    refine ih _ _ _ _ h4 ?_
    unfold Hp.setCell
    rw [ho]
    simp only
    rw [Hp.put_ne _ _ (Ne.symm hne)]
    exact hn
  | new o' k ih =>
    intro H Q r o h hn
    simp only [hp] at h ⊢
    intro r' hr'
    have hne : r' ≠ r := by rintro rfl; rw [Hp.put_same] at hr'; exact absurd hr' (by simp)
    rw [Hp.put_ne _ _ hne] at hr'
    rw [Hp.put_comm _ _ _ (Ne.symm hne)]
    exact ih _ _ _ _ _ (h r' hr') (by rw [Hp.put_ne _ _ (Ne.symm hne)]; exact hn)
  | shape r' k ih =>
    intro H Q r o h hn
    simp only [hp] at h ⊢
    split at h
    · rename_i c e f ho; simp only [Le.put o hn _ _ ho]; exact ih _ _ _ _ _ h hn
    · exact h.elim
  | freeze a n k ih =>
    intro H Q r o h hn
    simp only [hp] at h ⊢
    split at h
    · rename_i c e lo hi ho
      simp only [Le.put o hn _ _ ho]
      have hne : a.block ≠ r := by rintro rfl; rw [hn] at ho; exact absurd ho (by simp)
      by_cases h0 : n = 0
      · simp only [h0, if_true] at h ⊢; exact ih _ _ _ _ h hn
      · rw [if_neg h0] at h ⊢
        rw [Hp.put_comm _ _ _ (Ne.symm hne)]
        exact ih _ _ _ _ h (by rw [Hp.put_ne _ _ (Ne.symm hne)]; exact hn)
    · exact h.elim
  | frozen a k ih =>
    intro H Q r o h hn
    simp only [hp] at h ⊢
    split at h
    · rename_i c e f ho; simp only [Le.put o hn _ _ ho, (Le.put o hn).frozen ho]; exact ih _ _ _ _ _ h hn
    · exact h.elim
  | getObj r' k ih =>
    intro H Q r o h hn
    simp only [hp] at h ⊢
    split at h
    · exact h.elim
    · rename_i o' hne ho
      rw [Le.put o hn _ _ ho]
      cases o' with
      | cells c e f => exact (hne c e f rfl).elim
      | _ => exact ih _ _ _ _ _ h hn
    · exact h.elim
  | setObj r' o1 k ih =>
    intro H Q r o h hn
    simp only [hp] at h ⊢
    split at h
    · exact h.elim
    · rename_i o' hne ho
      rw [Le.put o hn _ _ ho]
      have hrr : r' ≠ r := by rintro rfl; rw [hn] at ho; exact absurd ho (by simp)
      cases o' with
      | cells c e f => exact (hne c e f rfl).elim
      | _ =>
        simp only
        rw [Hp.put_comm _ _ _ (Ne.symm hrr)]
        exact ih _ _ _ _ h (by rw [Hp.put_ne _ _ (Ne.symm hrr)]; exact hn)
    · exact h.elim
  | choose q k ih =>
    intro H Q r o h hn
    simp only [hp] at h ⊢
    by_cases hf : q.forced = true
    · rw [if_pos hf] at h ⊢; exact ih _ _ _ _ _ h hn
    · rw [if_neg hf] at h ⊢; exact fun t => ih _ _ _ _ _ (h t) hn
  | sys c k ih => intro H Q r o h hn; exact h
  | program k ih => intro H Q r o h hn; exact ih _ _ _ _ _ h hn
  | mark m k ih => intro H Q r o h hn; exact ih _ _ _ _ h hn
  | halt h => intro H Q r o h hn; exact h

theorem HT.frame {P : Program} {f : FuncId} {args : Array Value} {H : Hp} {K : Value → Hp → Prop} {r : Nat} (o : Obj) (h : HT P f args H K) (hn : H r = none) :
    HT P f args (H.put r o) (fun v H'' => ∃ H', K v H' ∧ H' r = none ∧ H'' = H'.put r o) := by
  intro w hs
  have hsub : Sub H w := (Le.put o hn).sub hs
  have hr := hs r o (Hp.put_same _ _ _)
  have hlt : r < w.heap.size := hs.lt (Hp.put_same H r o)
  refine (h w hsub).mono ?_
  rintro e w' ⟨v, H', he, hs', fr, k⟩
  obtain ⟨h1, h2⟩ := fr.2 r hlt hn
  refine ⟨v, H'.put r o, he, ?_, ⟨fr.1, ?_, fr.os, fr.tape, fr.output⟩, H', k, h1, rfl⟩
  · intro b x hb
    by_cases e1 : b = r
    · subst e1; rw [Hp.put_same] at hb; rw [h2, hr]; exact hb
    · rw [Hp.put_ne _ _ e1] at hb; exact hs' b x hb
  · intro b hb hbn
    have hne : b ≠ r := by rintro rfl; rw [Hp.put_same] at hbn; exact absurd hbn (by simp)
    rw [Hp.put_ne _ _ hne] at hbn ⊢
    exact fr.2 b hb hbn
end Go.Proofs.YtijmoehbgkibnaaGreatDoor.HL
