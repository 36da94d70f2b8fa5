/- A region whose order is open, over a partial heap: one order serves for all, where what is open can't be told apart. -/
import Derived.Test.YtijmoehbgkibnaaGreatDoorHE
namespace Go.Proofs.YtijmoehbgkibnaaGreatDoor.HL

/-- Only finitely many blocks are known. -/
def Fn (H : Hp) : Prop := ∃ n, ∀ b, n ≤ b → H b = none
theorem Sub.fn {H : Hp} {w : World} (h : Sub H w) : Fn H :=
  ⟨w.heap.size, fun b hb => by
    cases ho : H b with
    | none => rfl
    | some o => have := h.lt ho; omega⟩
theorem Fn.put {H : Hp} (h : Fn H) (b : Nat) (o : Obj) : Fn (H.put b o) := by
  obtain ⟨n, hn⟩ := h
  refine ⟨max n (b + 1), fun x hx => ?_⟩
  rw [Hp.put_ne _ _ (by omega)]
  exact hn x (by omega)
theorem Fn.setCell {H : Hp} (h : Fn H) (a : Addr) (v : Value) : Fn (H.setCell a v) := by
  unfold Hp.setCell
  split
  · exact h.put _ _
  · exact h
theorem Fn.world {H : Hp} (h : Fn H) : ∃ w, Sub H w := by
  obtain ⟨n, hn⟩ := h
  refine ⟨{ (default : World) with heap := ((List.range n).map fun i => (H i).getD default).toArray }, fun b o hb => ?_⟩
  have hlt : b < n := by
    rcases Nat.lt_or_ge b n with h1 | h1
    · exact h1
    · rw [hn b h1] at hb; exact absurd hb (by simp)
  simp [hlt, hb]

theorem hp_fn (P : Program) {α : Type} (m : Sem α) : ∀ (H : Hp) (Q : α → Hp → Prop), Fn H → hp P m H Q → hp P m H (fun v H' => Fn H' ∧ Q v H') := by
  induction m with
  | pure a => intro H Q hf h; exact ⟨hf, h⟩
  | load md a k ih => intro H Q hf h; simp only [hp] at h ⊢; split at h <;> first | exact ih _ _ _ hf h | exact h
  | store md a v k ih => intro H Q hf h; simp only [hp] at h ⊢; exact ⟨h.1, h.2.1, h.2.2.1, ih _ _ (hf.setCell a v) h.2.2.2⟩
  | new o k ih => intro H Q hf h; simp only [hp] at h ⊢; exact fun r hr => ih _ _ _ (hf.put r o) (h r hr)
  | shape r k ih => intro H Q hf h; simp only [hp] at h ⊢; split at h <;> first | exact ih _ _ _ hf h | exact h
  | freeze a n k ih =>
    intro H Q hf h; simp only [hp] at h ⊢
    split at h
    · refine ih _ _ ?_ h
      split
      · exact hf
      · exact hf.put _ _
    · exact h
  | frozen a k ih => intro H Q hf h; simp only [hp] at h ⊢; split at h <;> first | exact ih _ _ _ hf h | exact h
  | getObj r k ih => intro H Q hf h; simp only [hp] at h ⊢; split at h <;> first | exact h | exact ih _ _ _ hf h
  | setObj r o k ih => intro H Q hf h; simp only [hp] at h ⊢; split at h <;> first | exact h | exact ih _ _ (hf.put r o) h
  | choose q k ih =>
    intro H Q hf h; simp only [hp] at h ⊢
    by_cases hq : q.forced = true
    · rw [if_pos hq] at h ⊢; exact ih _ _ _ hf h
    · rw [if_neg hq] at h ⊢; exact fun t => ih _ _ _ hf (h t)
  | sys c k ih => intro H Q hf h; exact h
  | program k ih => intro H Q hf h; exact ih _ _ _ hf h
  | mark m k ih => intro H Q hf h; exact ih _ _ hf h
  | halt h => intro H Q hf h; exact h

theorem hp_ex (P : Program) {α : Type} (m : Sem α) : ∀ (H : Hp) (Q : α → Hp → Prop), Fn H → hp P m H Q → ∃ v H', Q v H' := by
  induction m with
  | pure a => intro H Q hf h; exact ⟨a, H, h⟩
  | load md a k ih => intro H Q hf h; simp only [hp] at h; split at h <;> first | exact ih _ _ _ hf h | exact h.elim
  | store md a v k ih => intro H Q hf h; simp only [hp] at h; exact ih _ _ (hf.setCell a v) h.2.2.2
  | new o k ih => intro H Q hf h; simp only [hp] at h; obtain ⟨n, hn⟩ := hf; exact ih _ _ _ (Fn.put ⟨n, hn⟩ n o) (h n (hn n (Nat.le_refl _)))
  | shape r k ih => intro H Q hf h; simp only [hp] at h; split at h <;> first | exact ih _ _ _ hf h | exact h.elim
  | freeze a n k ih =>
    intro H Q hf h; simp only [hp] at h
    split at h
    · refine ih _ _ ?_ h
      split
      · exact hf
      · exact hf.put _ _
    · exact h.elim
  | frozen a k ih => intro H Q hf h; simp only [hp] at h; split at h <;> first | exact ih _ _ _ hf h | exact h.elim
  | getObj r k ih => intro H Q hf h; simp only [hp] at h; split at h <;> first | exact h.elim | exact ih _ _ _ hf h
  | setObj r o k ih => intro H Q hf h; simp only [hp] at h; split at h <;> first | exact h.elim | exact ih _ _ (hf.put r o) h
  | choose q k ih =>
    intro H Q hf h; simp only [hp] at h
    by_cases hq : q.forced = true
    · rw [if_pos hq] at h; exact ih _ _ _ hf h
    · rw [if_neg hq] at h; exact ih _ _ _ hf (h 0)
  | sys c k ih => intro H Q hf h; exact h.elim
  | program k ih => intro H Q hf h; exact ih _ _ _ hf h
  | mark m k ih => intro H Q hf h; exact ih _ _ hf h
  | halt h => intro H Q hf h; exact h.elim

theorem HT.fn {P : Program} {f : FuncId} {args : Array Value} {H : Hp} {K : Value → Hp → Prop} (h : HT P f args H K) : HT P f args H (fun v H' => Fn H' ∧ K v H') :=
  fun w hs => (h w hs).mono fun _ _ ⟨v, H', he, hs', fr, k⟩ => ⟨v, H', he, hs', fr, hs'.fn, k⟩
theorem HT.ex {P : Program} {f : FuncId} {args : Array Value} {H : Hp} {K : Value → Hp → Prop} (hf : Fn H) (h : HT P f args H K) : ∃ v H', K v H' := by
  obtain ⟨w, hs⟩ := hf.world
  obtain ⟨e, w', fr, ⟨v, H', _, _, _, hk⟩, _⟩ := h w hs []
  exact ⟨v, H', hk⟩

theorem RT.fn {P : Program} {l : Nat} {f : FuncId} {tmps : Array Value} {as b : Code} {H : Hp} {K : Value → Hp → Prop} (h : RT P l f tmps as b H K) : RT P l f tmps as b H (fun v H' => Fn H' ∧ K v H') :=
  fun w hs => (h w hs).mono fun _ _ ⟨v, H', he, hs', fr, k⟩ => ⟨v, H', he, hs', fr, hs'.fn, k⟩
theorem RT.ex {P : Program} {l : Nat} {f : FuncId} {tmps : Array Value} {as b : Code} {H : Hp} {K : Value → Hp → Prop} (hf : Fn H) (h : RT P l f tmps as b H K) : ∃ v H', K v H' := by
  obtain ⟨w, hs⟩ := hf.world
  obtain ⟨e, w', ⟨v, H', _, _, _, hk⟩, _⟩ := (h w hs).2 default [] (room_wide _)
  exact ⟨v, H', hk⟩
/-- One operation, told by the model's own text. -/
def mEv (P : Program) (o : Oper) (σ : S) (H : Hp) (K : Value → Hp → Prop) : Prop := hp P (execOp (evs σ) o) H (nextH P K)
theorem mEv_mono {P : Program} {o : Oper} {σ : S} {H : Hp} {K K' : Value → Hp → Prop} (hk : ∀ v H, K v H → K' v H) (h : mEv P o σ H K) : mEv P o σ H K' :=
  hp_mono P _ _ _ _ (fun _ _ hx => nextH_mono hk _ _ hx) h
theorem mEv_fn {P : Program} {o : Oper} {σ : S} {H : Hp} {K : Value → Hp → Prop} (hf : Fn H) (h : mEv P o σ H K) : mEv P o σ H (fun v H' => Fn H' ∧ K v H') := by
  refine hp_mono P _ _ _ _ ?_ (hp_fn P _ H _ hf h)
  rintro nx H' ⟨hf', hx⟩
  cases nx <;> simp only [nextH] at hx ⊢ <;> first | exact ⟨hf', hx⟩ | exact HT.fn hx | exact RT.fn hx | exact hx
theorem mEv_ex {P : Program} {o : Oper} {σ : S} {H : Hp} {K : Value → Hp → Prop} (hf : Fn H) (h : mEv P o σ H K) : ∃ v H', K v H' := by
  obtain ⟨nx, H', hf', hx⟩ := hp_ex P _ H _ hf (hp_fn P _ H _ hf h)
  cases nx <;> simp only [nextH] at hx <;> first | exact ⟨_, _, hx⟩ | exact HT.ex hf' hx | exact RT.ex hf' hx | exact hx.elim

/-! ### the kinds of operations in a region that draws -/
inductive Cl where
  | d | n | a | e | s
  deriving DecidableEq
/-- An operation's kind; 'le' says that appends in its region write nowhere. -/
def clsOf (le : Nat) (P : Program) (o : Oper) : Cl :=
  match isD P o with
  | true => .d
  | false =>
    match o.op with
    | .binOp .. => .n
    | .convert s d _ => (match P.underlying s, P.underlying d with | some (.float _), some (.float _) => .n | _, _ => .s)
    | .alloc _ | .box .. | .buildSlice .. | .makeSlice .. | .makeMap _ none => .a
    | .call { callee := .value _, .. } => (match Nat.beq le 2 with | true => .s | false => .e)
    | .call { callee := .builtin .append, .. } => (match Nat.beq le 1 with | true => .e | false => .s)
    | _ => .s
/-- Does an operation not look at memory? -/
def pureD (P : Program) (o : Oper) : Bool :=
  match o.op with
  | .move _ | .assign _ | .pick .. | .unOp .. | .fieldAddr .. | .field .. | .indexAddr .. | .index .. | .slice .. | .extract .. | .nilCheck _ | .makeFunc .. => true
  | .build t _ => (match P.underlying t with | some (.struct _) => true | _ => false)
  | .binOp _ t _ _ _ => (match P.underlying t with | some (.int _) | some .string | some .bool | some (.float _) | some (.slice _) => true | _ => false)
  | .convert s d _ => (match P.underlying s, P.underlying d with | some (.int _), some (.int _) | some (.int _), some (.float _) => true | _, _ => false)
  | .call { callee := .builtin .len, argTypes, .. } => (match argTypes[0]? with | some t => (match P.underlying t with | some (.slice _) | some .string => true | _ => false) | none => false)
  | .call { callee := .builtin .cap, .. } | .call { callee := .builtin .max, .. } | .call { callee := .builtin .min, .. } => true
  | _ => false
theorem pureD_val {P : Program} {o : Oper} {σ : S} (h : pureD P o = true) (H H' : Hp) : dval P o σ H = dval P o σ H' := by
  obtain ⟨dst, op, type, pos, after, guard⟩ := o
  unfold pureD at h
  unfold dval
  cases op <;> simp only at h ⊢ <;> try (simp at h; done)
  case binOp op t x y yt =>
    cases hu : P.underlying t with
    | none => simp [hu] at h
    | some d => cases d <;> first | rfl | (simp [hu] at h; done)
  case convert s d x =>
    cases hs : P.underlying s with
    | none => simp [hs] at h
    | some a =>
      cases hd : P.underlying d with
      | none => simp [hs, hd] at h
      | some b => cases a <;> cases b <;> first | rfl | (simp [hs, hd] at h; done)
  case call c =>
    obtain ⟨callee, args, argTypes⟩ := c
    cases callee <;> (try simp only at h ⊢) <;> try (simp at h; done)
    rename_i b
    cases b <;> (try simp only at h ⊢) <;> try (first | rfl | (simp at h; done))
    split at h
    · rename_i t ht
      simp only [ht]
      cases args[0]? with
      | none => rfl
      | some x =>
        simp only
        cases hu : P.underlying t with
        | none => simp [hu] at h
        | some d => cases d <;> first | rfl | (simp [hu] at h; done)
    · simp at h

theorem rdCells_le {H H' : Hp} (hl : Le H H') (a : Addr) : ∀ (n i : Nat) (l : List Value), rdCells H a i n = some l → rdCells H' a i n = some l
  | 0, _, _, h => h
  | n + 1, i, l, h => by
    simp only [rdCells] at h ⊢
    cases hc : H.cell? (a.add i) with
    | none => simp [hc] at h
    | some v =>
      cases hr : rdCells H a (i + 1) n with
      | none => simp [hc, hr] at h
      | some l' =>
        rw [hl.cell hc, rdCells_le hl a n (i + 1) l' hr]
        simpa only [hc, hr] using h

theorem dval_le {P : Program} {o : Oper} {σ : S} {H H' : Hp} {u : Value} (hl : Le H H') (h : dval P o σ H = some u) : dval P o σ H' = some u := by
  by_cases hp : pureD P o = true
  · rw [← h]; exact pureD_val hp _ _
  · obtain ⟨dst, op, type, pos, after, guard⟩ := o
    unfold pureD at hp
    unfold dval at h ⊢
    cases op <;> simp only at hp h ⊢ <;> try (first | exact h | (simp at hp; done))
    case load t a =>
      cases ht : aggB P t with
      | none => simp [ht] at h
      | some b =>
        cases b with
        | true =>
          simp only [ht] at h ⊢
          cases hn : szO P t with
          | none => simp [hn] at h
          | some n =>
            simp only [hn] at h ⊢
            unfold vLoadN at h ⊢
            cases hv : evs σ a <;> simp only [hv] at h ⊢ <;> try (simp at h; done)
            rename_i ao
            cases ao with
            | none => simp at h
            | some ad =>
              simp only at h ⊢
              cases hr : rdCells H ad 0 n with
              | none => simp [hr] at h
              | some l => rw [rdCells_le hl ad n 0 l hr]; simpa only [hr] using h
        | false =>
          simp only [ht] at h ⊢
          unfold vLoad at h ⊢
          cases hv : evs σ a <;> simp only [hv] at h ⊢ <;> try (simp at h; done)
          rename_i ao
          cases ao with
          | none => simp at h
          | some ad => exact hl.cell h
    case makeInterface t x => exact val_le P _ H H' u h hl
    case binOp op t x y yt =>
      cases hu : P.underlying t with
      | none => simp only [hu] at h ⊢; exact val_le P _ H H' u h hl
      | some d => cases d <;> simp only [hu] at h ⊢ <;> first | exact h | exact val_le P _ H H' u h hl
    case convert s d x =>
      cases hs : P.underlying s with
      | none => simp only [hs] at h ⊢; exact val_le P _ H H' u h hl
      | some a =>
        cases hd : P.underlying d with
        | none => simp only [hs, hd] at h ⊢; cases a <;> exact val_le P _ H H' u h hl
        | some b => simp only [hs, hd] at h ⊢; cases a <;> cases b <;> first | exact h | exact val_le P _ H H' u h hl
    case call c =>
      obtain ⟨callee, args, argTypes⟩ := c
      cases callee <;> (try simp only at h ⊢) <;> try (simp at h; done)
      rename_i b
      cases b <;> (try simp only at h ⊢) <;> try (first | exact h | (simp at h; done))
      cases ht : argTypes[0]? with
      | none => simp [ht] at h
      | some t =>
        cases hx : args[0]? with
        | none => simp [ht, hx] at h
        | some x =>
          simp only [ht, hx] at h ⊢
          cases hu : P.underlying t with
          | none => simp only [hu] at h ⊢; exact val_le P _ H H' u h hl
          | some d => cases d <;> simp only [hu] at h ⊢ <;> first | exact h | exact val_le P _ H H' u h hl

def nOut (P : Program) (o : Oper) (σ : S) : Option (Value → Prop) :=
  match o.op with
  | .binOp op _ x y _ =>
    (match evs σ x, evs σ y with
    | .float k a, .float k' b =>
      if k = k' then
        (match fRes op k a b with
        | some (some r) => some fun u => u = .float k r
        | some none => some fun u => ∃ t, u = .float k ((Question.nanBits k a b).cut t)
        | none => none)
      else none
    | _, _ => none)
  | .convert s d x =>
    (match P.underlying s, P.underlying d with
    | some (.float _), some (.float k) =>
      (match evs σ x with
      | .float s b =>
        if s = k then some fun u => u = .float k b else
        (match s.decode b with
        | .nan _ _ => some fun u => ∃ t, u = .float k ((Question.nanConv k b).cut t)
        | .infinity g => some fun u => u = .float k (k.encode (.infinity g))
        | .number g m e =>
          if (k.decode (k.encode (.number g m e))).isInfinity then some fun u => ∃ t, u = .float k ((Question.floatToFloat b).cut t)
          else some fun u => u = .float k (k.encode (.number g m e)))
      | _ => none)
    | _, _ => none)
  | _ => none
theorem nOut_ne {P : Program} {o : Oper} {σ : S} {O : Value → Prop} (h : nOut P o σ = some O) : ∃ u, O u := by
  unfold nOut at h
  split at h
  · split at h
    · split at h
      · split at h
        · simp only [Option.some.injEq] at h; subst h; exact ⟨_, rfl⟩
        · simp only [Option.some.injEq] at h; subst h; exact ⟨_, 0, rfl⟩
        · simp at h
      · simp at h
    · simp at h
  · split at h
    · split at h
      · split at h
        · simp only [Option.some.injEq] at h; subst h; exact ⟨_, rfl⟩
        · split at h
          · simp only [Option.some.injEq] at h; subst h; exact ⟨_, 0, rfl⟩
          · simp only [Option.some.injEq] at h; subst h; exact ⟨_, rfl⟩
          · split at h
            · simp only [Option.some.injEq] at h; subst h; exact ⟨_, 0, rfl⟩
            · simp only [Option.some.injEq] at h; subst h; exact ⟨_, rfl⟩
      · simp at h
    · simp at h
  · simp at h

def nEv (O : Option (Value → Prop)) (K : Value → Prop) : Prop :=
  match O with
  | some O => ∀ u, O u → K u
  | none => False

theorem nEv_of {le : Nat} {P : Program} {o : Oper} {σ : S} {H : Hp} {K : Value → Hp → Prop} (hc : clsOf le P o = .n) (h : opEv P o σ H K) : nEv (nOut P o σ) (fun u => K u H) := by
  unfold clsOf at hc
  cases hd : isD P o with
  | true => simp [hd] at hc
  | false =>
    unfold opEv at h
    simp only [hd] at hc h
    obtain ⟨dst, op, type, pos, after, guard⟩ := o
    unfold nOut
    cases op <;> simp only at hc h ⊢ <;> try (simp at hc; done)
    case binOp op t x y yt =>
      unfold fA at h
      split at h
      · rename_i k a k' b hx hy
        obtain ⟨rfl, h⟩ := h
        simp only [hx, hy, if_true]
        split at h
        · rename_i r hr; simp only [hr, nEv]; rintro u rfl; exact h
        · rename_i hr; simp only [hr, nEv]; rintro u ⟨t, rfl⟩; exact h t
        · exact h.elim
      · exact h.elim
    case convert s d x =>
      split at hc
      · rename_i j k hs hd'
        simp only [hs, hd'] at h ⊢
        unfold fC at h
        split at h
        · rename_i sk b hv
          simp only [hv]
          by_cases e : sk = k
          · rw [if_pos e] at h ⊢; simp only [nEv]; rintro u rfl; exact h
          · rw [if_neg e] at h ⊢
            split at h
            · rename_i hdc; simp only [hdc, nEv]; rintro u ⟨t, rfl⟩; exact h t
            · rename_i hdc; simp only [hdc, nEv]; rintro u rfl; exact h
            · rename_i hdc
              simp only [hdc]
              split at h
              · rename_i hi; rw [if_pos hi]; simp only [nEv]; rintro u ⟨t, rfl⟩; exact h t
              · rename_i hi; rw [if_neg hi]; simp only [nEv]; rintro u rfl; exact h
        · exact h.elim
      · simp at hc
    case call c =>
      obtain ⟨callee, args, argTypes⟩ := c
      cases callee <;> (try (simp at hc; done)) <;> (try (cases h2 : Nat.beq le 2 <;> simp [h2] at hc; done))
      rename_i b
      cases b <;> (try (simp at hc; done))
      cases h1 : Nat.beq le 1 <;> simp [h1] at hc
    case makeMap t r => cases r <;> simp at hc
theorem nEv_to {le : Nat} {P : Program} {o : Oper} {σ : S} {H : Hp} {K : Value → Hp → Prop} (hc : clsOf le P o = .n) (h : nEv (nOut P o σ) (fun u => K u H)) : opEv P o σ H K := by
  unfold clsOf at hc
  cases hd : isD P o with
  | true => simp [hd] at hc
  | false =>
    unfold opEv
    simp only [hd] at hc ⊢
    obtain ⟨dst, op, type, pos, after, guard⟩ := o
    unfold nOut at h
    cases op <;> simp only at hc h ⊢ <;> try (simp at hc; done)
    case binOp op t x y yt =>
      unfold fA
      split at h
      · rename_i k a k' b hx hy
        split at h
        · rename_i hk
          subst hk
          simp only [hx, hy, true_and]
          split at h
          · rename_i r hr; simp only [hr]; exact h _ rfl
          · rename_i hr; simp only [hr]; exact fun t => h _ ⟨t, rfl⟩
          · exact h.elim
        · exact h.elim
      · exact h.elim
    case convert s d x =>
      split at hc
      · rename_i j k hs hd'
        simp only [hs, hd'] at h ⊢
        unfold fC
        split at h
        · rename_i sk b hv
          simp only [hv]
          by_cases e : sk = k
          · rw [if_pos e] at h ⊢; exact h _ rfl
          · rw [if_neg e] at h ⊢
            split at h
            · rename_i hdc; simp only [hdc]; exact fun t => h _ ⟨t, rfl⟩
            · rename_i hdc; simp only [hdc]; exact h _ rfl
            · rename_i hdc
              simp only [hdc]
              split at h
              · rename_i hi; rw [if_pos hi]; exact fun t => h _ ⟨t, rfl⟩
              · rename_i hi; rw [if_neg hi]; exact h _ rfl
        · exact h.elim
      · simp at hc
    case call c =>
      obtain ⟨callee, args, argTypes⟩ := c
      cases callee <;> (try (simp at hc; done)) <;> (try (cases h2 : Nat.beq le 2 <;> simp [h2] at hc; done))
      rename_i b
      cases b <;> (try (simp at hc; done))
      cases h1 : Nat.beq le 1 <;> simp [h1] at hc
    case makeMap t r => cases r <;> simp at hc
theorem mEv_frame {P : Program} {o : Oper} {σ : S} {H : Hp} {K : Value → Hp → Prop} {r : Nat} (x : Obj) (h : mEv P o σ H K) (hn : H r = none) :
    mEv P o σ (H.put r x) (fun v H'' => ∃ H', K v H' ∧ H' r = none ∧ H'' = H'.put r x) := by
  refine hp_mono P _ _ _ _ ?_ (hp_frame P _ _ _ r x h hn)
  rintro nx H'' ⟨H', hk, hr, rfl⟩
  cases nx <;> simp only [nextH] at hk ⊢
  case value v => exact ⟨H', hk, hr, rfl⟩
  case skip => exact ⟨H', hk, hr, rfl⟩
  case enter f args => exact HT.frame x hk hr
  case round l f tmps as b => exact RT.frame x hk hr

/-- What an operation that only makes a block hands back, and the block. -/
def aOut (P : Program) (o : Oper) (σ : S) : Option ((Nat → Value) × Obj) :=
  match o.op with
  | .alloc e => (match zeroO P e with | some z => some (fun r => .pointer (some ⟨r, 0, none⟩), .cells z.cells e) | none => none)
  | .box e x => some (fun r => .pointer (some ⟨r, 0, none⟩), .cells (evs σ x).cells e)
  | .buildSlice t len parts =>
    (match P.underlying t with
    | some (.slice e) => (match szO P e, zeroO P e with
      | some n, some z =>
        if len * n ≤ 2 ^ 24 then
          (match Instr.fill (fun i => some (i * n, n)) (if len * n = 0 then #[] else zrow z.cells (len * n)) (parts.toList.map fun p => (p.1, evs σ p.2)) with
          | some cells => some (fun r => .slice (some ⟨r, 0, none⟩) len len, .cells cells e)
          | none => none)
        else none
      | _, _ => none)
    | _ => none)
  | .makeSlice t l c =>
    (match P.underlying t with
    | some (.slice e) => (match szO P e, bytesO P e, zeroO P e with
      | some n, some b, some z =>
        (match evs σ l, evs σ c with
        | .int _ l, .int _ c =>
          if 0 ≤ l ∧ l ≤ c ∧ c ≤ 281474976710656 ∧ b * c ≤ 281474976710656 then
            some (fun r => .slice (some ⟨r, 0, none⟩) l.toNat c.toNat, .cells (if c.toNat * n = 0 then #[] else zrow z.cells (c.toNat * n)) e)
          else none
        | _, _ => none)
      | _, _, _ => none)
    | _ => none)
  | .makeMap _ none => some (fun r => .map (some r), .map #[] 0)
  | _ => none
def aEv (x : Option ((Nat → Value) × Obj)) (H : Hp) (K : Value → Hp → Prop) : Prop :=
  match x with
  | some (mk, o) => ∀ r, H r = none → K (mk r) (H.put r o)
  | none => False
theorem aEv_iff {le : Nat} {P : Program} {o : Oper} {σ : S} {H : Hp} {K : Value → Hp → Prop} (hc : clsOf le P o = .a) : opEv P o σ H K ↔ aEv (aOut P o σ) H K := by
  unfold clsOf at hc
  cases hd : isD P o with
  | true => simp [hd] at hc
  | false =>
    unfold opEv aOut
    simp only [hd] at hc ⊢
    obtain ⟨dst, op, type, pos, after, guard⟩ := o
    cases op <;> simp only at hc ⊢ <;> try (simp at hc; done)
    case alloc e => cases zeroO P e <;> simp [aEv, nw]
    case box e x => simp [aEv, nw]
    case buildSlice t len parts =>
      cases hu : P.underlying t with
      | none => simp [aEv]
      | some d =>
        cases d <;> simp only [aEv]
        rename_i e
        cases szO P e with
        | none => simp
        | some n =>
          cases zeroO P e with
          | none => simp
          | some z =>
            simp only [bS]
            by_cases h1 : len * n ≤ 2 ^ 24
            · rw [if_pos h1]
              simp only [h1, true_and]
              cases Instr.fill (fun i => some (i * n, n)) (if len * n = 0 then #[] else zrow z.cells (len * n)) (parts.toList.map fun p => (p.1, evs σ p.2)) <;> simp
            · rw [if_neg h1]; simp [h1]
    case makeSlice t l c =>
      cases hu : P.underlying t with
      | none => simp [aEv]
      | some d =>
        cases d <;> simp only [aEv]
        rename_i e
        cases szO P e with
        | none => simp
        | some n =>
          cases bytesO P e with
          | none => simp
          | some b =>
            cases zeroO P e with
            | none => simp
            | some z =>
              simp only [mkS]
              cases evs σ l <;> try (simp; done)
              cases evs σ c <;> try (simp; done)
              rename_i k1 l k2 c
              simp only
              by_cases h1 : 0 ≤ l ∧ l ≤ c ∧ c ≤ 281474976710656 ∧ b * c ≤ 281474976710656
              · rw [if_pos h1]
                constructor
                · intro h; exact h.2.2.2.2
                · intro h; exact ⟨h1.1, h1.2.1, h1.2.2.1, h1.2.2.2, h⟩
              · rw [if_neg h1]
                constructor
                · intro h; exact h1 ⟨h.1, h.2.1, h.2.2.1, h.2.2.2.1⟩
                · intro h; exact h.elim
    case makeMap t r =>
      cases r with
      | none => simp [aEv, opEv.nwM]
      | some x => simp at hc
    case convert s d x => split at hc <;> simp at hc
    case call c =>
      obtain ⟨callee, args, argTypes⟩ := c
      cases callee <;> (try (simp at hc; done)) <;> (try (cases h2 : Nat.beq le 2 <;> simp [h2] at hc; done))
      rename_i b
      cases b <;> (try (simp at hc; done))
      cases h1 : Nat.beq le 1 <;> simp [h1] at hc
theorem aEv_mono {x : Option ((Nat → Value) × Obj)} {H : Hp} {K K' : Value → Hp → Prop} (hk : ∀ v H', K v H' → K' v H') (h : aEv x H K) : aEv x H K' := by
  cases x with
  | none => exact h
  | some x => obtain ⟨mk, o⟩ := x; exact fun r hr => hk _ _ (h r hr)
theorem aEv_fn {x : Option ((Nat → Value) × Obj)} {H : Hp} {K : Value → Hp → Prop} (hf : Fn H) (h : aEv x H K) : aEv x H (fun v H' => Fn H' ∧ K v H') := by
  cases x with
  | none => exact h
  | some x => obtain ⟨mk, o⟩ := x; exact fun r hr => ⟨hf.put r o, h r hr⟩
theorem Fn.free {H : Hp} (h : Fn H) (b : Nat) : ∃ r, H r = none ∧ r ≠ b := by
  obtain ⟨n, hn⟩ := h
  exact ⟨max n (b + 1), hn _ (by omega), by omega⟩

/-- What is loaded doesn't hang on a new block. -/
theorem vLoad_anti {H : Hp} {v : Value} {o : Obj} (hf : Fn H) (h : ∀ r, H r = none → ∃ u, vLoad v (H.put r o) = some u) : ∃ u, vLoad v H = some u := by
  cases v with
  | pointer a =>
    cases a with
    | none => obtain ⟨r, hr, _⟩ := hf.free 0; obtain ⟨u, hu⟩ := h r hr; simp [vLoad] at hu
    | some a =>
      obtain ⟨r, hr, hne⟩ := hf.free a.block
      obtain ⟨u, hu⟩ := h r hr
      refine ⟨u, ?_⟩
      simp only [vLoad, Hp.cell?, Hp.put_ne H o (Ne.symm hne)] at hu ⊢
      exact hu
  | _ => obtain ⟨r, hr, _⟩ := hf.free 0; obtain ⟨u, hu⟩ := h r hr; simp [vLoad] at hu
theorem rdCells_put {H : Hp} {r : Nat} {o : Obj} {a : Addr} (hne : a.block ≠ r) : ∀ (n i : Nat), rdCells (H.put r o) a i n = rdCells H a i n
  | 0, _ => rfl
  | n + 1, i => by
    simp only [rdCells]
    rw [rdCells_put hne n (i + 1)]
    have : (H.put r o).cell? (a.add i) = H.cell? (a.add i) := by
      have hb : (a.add i).block = a.block := by unfold Addr.add; split <;> rfl
      simp only [Hp.cell?, hb, Hp.put_ne H o hne]
    rw [this]
theorem vLoadN_anti {n : Nat} {H : Hp} {v : Value} {o : Obj} (hf : Fn H) (h : ∀ r, H r = none → ∃ u, vLoadN n v (H.put r o) = some u) : ∃ u, vLoadN n v H = some u := by
  cases v with
  | pointer a =>
    cases a with
    | none => obtain ⟨r, hr, _⟩ := hf.free 0; obtain ⟨u, hu⟩ := h r hr; simp [vLoadN] at hu
    | some a =>
      obtain ⟨r, hr, hne⟩ := hf.free a.block
      obtain ⟨u, hu⟩ := h r hr
      refine ⟨u, ?_⟩
      simp only [vLoadN, rdCells_put (Ne.symm hne)] at hu ⊢
      exact hu
  | _ => obtain ⟨r, hr, _⟩ := hf.free 0; obtain ⟨u, hu⟩ := h r hr; simp [vLoadN] at hu
/-- A value whose reading no new block can spoil. -/
def looksD (P : Program) (o : Oper) : Bool := pureD P o || (match o.op with | .load .. => true | _ => false)
theorem looksD_anti {P : Program} {y : Oper} {σ : S} {H : Hp} {o : Obj} (hl : looksD P y = true) (hf : Fn H) (h : ∀ r, H r = none → ∃ u, dval P y σ (H.put r o) = some u) : ∃ u, dval P y σ H = some u := by
  unfold looksD at hl
  rw [Bool.or_eq_true] at hl
  rcases hl with hl | hl
  · obtain ⟨r, hr, _⟩ := hf.free 0
    obtain ⟨u, hu⟩ := h r hr
    exact ⟨u, by rw [pureD_val hl H (H.put r o)]; exact hu⟩
  · obtain ⟨dst, op, type, pos, after, guard⟩ := y
    cases op <;> simp only at hl <;> try (simp at hl; done)
    rename_i t a
    unfold dval at h ⊢
    simp only at h ⊢
    cases ht : aggB P t with
    | none => obtain ⟨r, hr, _⟩ := hf.free 0; obtain ⟨u, hu⟩ := h r hr; simp [ht] at hu
    | some b =>
      cases b with
      | true =>
        simp only [ht] at h ⊢
        cases hn : szO P t with
        | none => obtain ⟨r, hr, _⟩ := hf.free 0; obtain ⟨u, hu⟩ := h r hr; simp [hn] at hu
        | some n => simp only [hn] at h ⊢; exact vLoadN_anti hf h
      | false => simp only [ht] at h ⊢; exact vLoad_anti hf h
end Go.Proofs.YtijmoehbgkibnaaGreatDoor.HL
