/- What single operations that act come to over a partial heap, and the model's own text. -/
import Derived.Test.YtijmoehbgkibnaaGreatDoorHC
namespace Go.Proofs.YtijmoehbgkibnaaGreatDoor.HL

/-- A new block, and a pointer to it. -/
def nw (cells : Array Value) (e : TypeId) (H : Hp) (K : Value → Hp → Prop) : Prop :=
  ∀ r, H r = none → K (.pointer (some ⟨r, 0, none⟩)) (H.put r (.cells cells e))
/-- n cells of a type, all zero -/
def zrow (zs : Array Value) (n : Nat) : Array Value := (Array.range n).map (zs[· % zs.size]!)
def bS (sz len : Nat) (zs : Array Value) (e : TypeId) (parts : List (Nat × Value)) (H : Hp) (K : Value → Hp → Prop) : Prop :=
  len * sz ≤ 2 ^ 24 ∧
  match Instr.fill (fun i => some (i * sz, sz)) (if len * sz = 0 then #[] else zrow zs (len * sz)) parts with
  | some cells => ∀ r, H r = none → K (.slice (some ⟨r, 0, none⟩) len len) (H.put r (.cells cells e))
  | none => False
def mkS (sz bytes : Nat) (zs : Array Value) (e : TypeId) (l c : Value) (H : Hp) (K : Value → Hp → Prop) : Prop :=
  match l, c with
  | .int _ l, .int _ c => 0 ≤ l ∧ l ≤ c ∧ c ≤ 281474976710656 ∧ bytes * c ≤ 281474976710656 ∧
    ∀ r, H r = none → K (.slice (some ⟨r, 0, none⟩) l.toNat c.toNat) (H.put r (.cells (if c.toNat * sz = 0 then #[] else zrow zs (c.toNat * sz)) e))
  | _, _ => False
def stC (a : Addr) (K : Hp → Prop) : List Value → Nat → Hp → Prop
  | [], _, H => K H
  | v :: r, i, H => oneCell v = true ∧ (H.cell? (a.add i)).isSome = true ∧ H.frozen? (a.add i) = false ∧ stC a K r (i + 1) (H.setCell (a.add i) v)
def st (n : Nat) (v x : Value) (H : Hp) (K : Hp → Prop) : Prop :=
  match v with
  | .pointer (some a) => x.cells.size = n ∧ stC a K x.cells.toList 0 H
  | _ => False
def fRes (op : BinOp) (k : FloatKind) (x y : Nat) : Option (Option Nat) :=
  match op with
  | .add => some (k.format.add x y)
  | .sub => some (k.format.sub x y)
  | .mul => some (k.format.mul x y)
  | .quo => some (k.format.div x y)
  | _ => none
def fA (op : BinOp) (v w : Value) (H : Hp) (K : Value → Hp → Prop) : Prop :=
  match v, w with
  | .float k x, .float k' y => k = k' ∧
    (match fRes op k x y with
    | some (some r) => K (.float k r) H
    | some none => ∀ t, K (.float k ((Question.nanBits k x y).cut t)) H
    | none => False)
  | _, _ => False
/-- a float of one size to the other -/
def fC (k : FloatKind) (v : Value) (H : Hp) (K : Value → Hp → Prop) : Prop :=
  match v with
  | .float s b =>
    if s = k then K (.float k b) H else
    match s.decode b with
    | .nan _ _ => ∀ t, K (.float k ((Question.nanConv k b).cut t)) H
    | .infinity g => K (.float k (k.encode (.infinity g))) H
    | .number g m e =>
      if (k.decode (k.encode (.number g m e))).isInfinity then ∀ t, K (.float k ((Question.floatToFloat b).cut t)) H
      else K (.float k (k.encode (.number g m e))) H
  | _ => False
def lenO : Value → Option Nat
  | .slice _ n _ => some n
  | .string s => some s.size
  | _ => none
def firstC (H : Hp) (sz n : Nat) : Value → Option (List Value)
  | .slice (some a) _ _ => rdCells H a 0 (n * sz)
  | .slice none _ _ => some []
  | .string s => some ((s.extract 0 n).data.toList.map fun b => .int .u8 b.toNat)
  | _ => none
def apd (sz bytes : Nat) (zs : Array Value) (e : TypeId) (s x : Value) (H : Hp) (K : Value → Hp → Prop) : Prop :=
  match s, lenO x with
  | .slice base n c, some m =>
    if n + m ≤ c then
      match firstC H sz m x with
      | some new => (match base with
        | some a => stC (a.add (n * sz)) (fun H' => K (.slice base (n + m) c) H') new 0 H
        | none => K (.slice base (n + m) c) H)
      | none => False
    else
      n + m < 9223372036854775808 ∧ Builtin.nextslicecap (n + m) c * bytes ≤ 281474976710656 ∧
      match firstC H sz n s, firstC H sz m x with
      | some old, some new => ∀ c', n + m ≤ c' → c' < 9223372036854775808 → ∀ r, H r = none →
        K (.slice (some ⟨r, 0, none⟩) (n + m) c') (H.put r (.cells (old.toArray ++ new.toArray ++ Builtin.zeroCells zs (c' - (n + m))) e))
      | _, _ => False
  | _, _ => False
/-- append of a slice and of a number of zero cells -/
def apm (sz bytes : Nat) (zs : Array Value) (e : TypeId) (s x : Value) (H : Hp) (K : Value → Hp → Prop) : Prop :=
  match s, x with
  | .slice base n c, .int _ l =>
    0 ≤ l ∧ l ≤ 281474976710656 ∧ l * bytes ≤ 281474976710656 ∧
    if n + l.toNat ≤ c then
      match base with
      | some a => stC (a.add (n * sz)) (fun H' => K (.slice base (n + l.toNat) c) H') (if l.toNat * sz = 0 then #[] else Builtin.zeroCells zs l.toNat).toList 0 H
      | none => K (.slice base (n + l.toNat) c) H
    else
      n + l.toNat < 9223372036854775808 ∧ Builtin.nextslicecap (n + l.toNat) c * bytes ≤ 281474976710656 ∧
      match firstC H sz n s with
      | some old => ∀ c', n + l.toNat ≤ c' → c' < 9223372036854775808 → ∀ r, H r = none →
        K (.slice (some ⟨r, 0, none⟩) (n + l.toNat) c') (H.put r (.cells (old.toArray ++ (if l.toNat * sz = 0 then #[] else Builtin.zeroCells zs l.toNat) ++ Builtin.zeroCells zs (c' - (n + l.toNat))) e))
      | none => False
  | _, _ => False

/-- What a round of a range over a function does: it hands back a value, and this holds then; what isn't known stays. -/
def RT (P : Program) (l : Nat) (f : FuncId) (tmps : Array Value) (as b : Code) (H : Hp) (K : Value → Hp → Prop) : Prop :=
  ∀ w, Sub H w → RoundIn Fence.wide 0 P l f tmps as b w (fun e w' => ∃ v H', e = .returned v ∧ Sub H' w' ∧ Fr H H' w w' ∧ K v H')
theorem RT.mono {P : Program} {l : Nat} {f : FuncId} {tmps : Array Value} {as b : Code} {H : Hp} {K K' : Value → Hp → Prop} (h : RT P l f tmps as b H K) (hk : ∀ v H, K v H → K' v H) : RT P l f tmps as b H K' :=
  fun w hs => (h w hs).mono fun _ _ ⟨v, H', he, hs', fr, k⟩ => ⟨v, H', he, hs', fr, hk _ _ k⟩
theorem RT.frame {P : Program} {l : Nat} {f : FuncId} {tmps : Array Value} {as b : Code} {H : Hp} {K : Value → Hp → Prop} {r : Nat} (o : Obj) (h : RT P l f tmps as b H K) (hn : H r = none) :
    RT P l f tmps as b (H.put r o) (fun v H'' => ∃ H', K v H' ∧ H' r = none ∧ H'' = H'.put r o) := by
  intro w hs
  have hsub : Sub H w := (Le.put o hn).sub hs
  have hr := hs r o (Hp.put_same _ _ _)
  have hlt : r < w.heap.size := hs.lt (Hp.put_same H r o)
  refine (h w hsub).mono ?_
  rintro e w' ⟨v, H', he, hs', fr, k⟩
  obtain ⟨h1, h2⟩ := fr.2 r hlt hn
  refine ⟨v, H'.put r o, he, ?_, ⟨fr.1, ?_, fr.os, fr.tape, fr.output⟩, H', k, h1, rfl⟩
  · intro b x hb
    by_cases e1 : b = r
    · subst e1; rw [Hp.put_same] at hb; rw [h2, hr]; exact hb
    · rw [Hp.put_ne _ _ e1] at hb; exact hs' b x hb
  · intro b hb hbn
    have hne : b ≠ r := by rintro rfl; rw [Hp.put_same] at hbn; exact absurd hbn (by simp)
    rw [Hp.put_ne _ _ hne] at hbn ⊢
    exact fr.2 b hb hbn
/-- What is known behind a step of a call. -/
def nextH (P : Program) (K : Value → Hp → Prop) : Next → Hp → Prop
  | .value v, H => K v H
  | .skip, H => K undef H
  | .enter f args, H => HT P f args H K
  | .round l f tmps as b, H => RT P l f tmps as b H K
  | _, _ => False
theorem nextH_mono {P : Program} {K K' : Value → Hp → Prop} (h : ∀ v H, K v H → K' v H) (x : Next) (H : Hp) (hx : nextH P K x H) : nextH P K' x H := by
  cases x <;> simp only [nextH] at * <;> first | exact h _ _ hx | exact HT.mono hx h | exact RT.mono hx h

def callOk (P : Program) (f : FuncId) : Bool :=
  match P.funcs[f]? with
  | some fn => !(fn.name == "runtime.NumGoroutine") && fn.body.isSome
  | none => false
def callV (P : Program) (v : Value) (args : List Value) (H : Hp) (K : Value → Hp → Prop) : Prop :=
  match v with
  | .func (.func f) first caps => callOk P f = true ∧ HT P f (first.toList ++ args ++ caps.toList).toArray H K
  | .func (.yield l) first _ => hp P (Instr.yield l (first.toList ++ args).toArray) H (nextH P K)
  | _ => False

/-- A value that needs no look at all. -/
def sval (o : Oper) (σ : S) : Option Value :=
  match o.op with
  | .move x | .assign x => some (evs σ x)
  | .makeFunc fn first captured => some (.func fn (first.toList.map (evs σ)).toArray (captured.toList.map (evs σ)).toArray)
  | _ => none
def opD (P : Program) (o : Oper) (σ : S) (H : Hp) (K : Value → Hp → Prop) : Prop :=
  match sval o σ with
  | some u => K u H
  | none => ob (dval P o σ H) (fun u => K u H)
theorem opD_ex {P : Program} {o : Oper} {σ : S} {H : Hp} {K : Value → Hp → Prop} (h : opD P o σ H K) : ∃ u, dval P o σ H = some u ∧ K u H := by
  unfold opD at h
  cases hs : sval o σ with
  | none => simp only [hs] at h; exact ob_ex h
  | some u =>
    simp only [hs] at h
    refine ⟨u, ?_, h⟩
    unfold sval at hs
    unfold dval
    split at hs <;> simp_all
def opEv (P : Program) (o : Oper) (σ : S) (H : Hp) (K : Value → Hp → Prop) : Prop :=
  match isD P o with
  | true => opD P o σ H K
  | false =>
    match o.op with
    | .alloc e => (match zeroO P e with | some z => nw z.cells e H K | none => False)
    | .box e x => nw (evs σ x).cells e H K
    | .buildSlice t len parts =>
      (match P.underlying t with
      | some (.slice e) => (match szO P e, zeroO P e with
        | some n, some z => bS n len z.cells e (parts.toList.map fun p => (p.1, evs σ p.2)) H K
        | _, _ => False)
      | _ => False)
    | .store t a x => (match szO P t with | some n => st n (evs σ a) (evs σ x) H (K undef) | none => False)
    | .binOp op _ x y _ => fA op (evs σ x) (evs σ y) H K
    | .convert s d x =>
      (match P.underlying s, P.underlying d with
      | some (.float _), some (.float k) => fC k (evs σ x) H K
      | _, _ => hp P (convert s d (evs σ x)) H K)
    | .makeSlice t l c =>
      (match P.underlying t with
      | some (.slice e) => (match szO P e, bytesO P e, zeroO P e with
        | some n, some b, some z => mkS n b z.cells e (evs σ l) (evs σ c) H K
        | _, _, _ => False)
      | _ => False)
    | .makeMap t r => (match r with | none => nwM H K | some _ => hp P (Instr.makeMap t (r.map (evs σ))) H K)
    | .lookup t m k ok => hp P (Instr.lookup t (evs σ m) (evs σ k) ok) H K
    | .mapUpdate t m k x => hp P (Instr.mapUpdate t (evs σ m) (evs σ k) (evs σ x)) H (fun _ => K undef)
    | .mapEntry t m k => hp P (Instr.mapEntry t (evs σ m) (evs σ k)) H K
    | .entryStore t m s x => hp P (Instr.entryStore t (evs σ m) (evs σ s) (evs σ x)) H (fun _ => K undef)
    | .range t x => hp P (Instr.range t (evs σ x)) H K
    | .next it s => hp P (Instr.next (evs σ it) s o.type) H K
    | .entry it => hp P (Instr.entry (evs σ it)) H K
    | .build t ps => hp P (Instr.build t (ps.toList.map fun p => (p.1, evs σ p.2)).toArray) H K
    | .call c =>
      (match c.callee with
      | .value (.func f) =>
        (match callOk P f with
        | true => HT P f (c.args.toList.map (evs σ)).toArray H K
        | false => hp P (callFunc f (c.args.toList.map (evs σ)).toArray) H (nextH P K))
      | .value x => callV P (evs σ x) (c.args.toList.map (evs σ)) H K
      | .builtin .append =>
        (match c.argTypes[0]?, c.argTypes[1]?, c.args[0]?, c.args[1]? with
        | some t, some t', some s, some x =>
          (match P.underlying t, P.underlying t' with
          | some (.slice e), some (.slice _) | some (.slice e), some .string =>
            (match szO P e, bytesO P e, zeroO P e with
            | some n, some b, some z => apd n b z.cells e (evs σ s) (evs σ x) H K
            | _, _, _ => False)
          | some (.slice e), some (.int _) =>
            (match szO P e, bytesO P e, zeroO P e with
            | some n, some b, some z => apm n b z.cells e (evs σ s) (evs σ x) H K
            | _, _, _ => False)
          | _, _ => False)
        | _, _, _, _ => False)
      | .builtin b => hp P (builtin b c.argTypes o.type (c.args.map fun | .const _ => true | _ => false) (c.args.toList.map (evs σ)).toArray) H (nextH P K)
      | .invoke .. => hp P (execOp (evs σ) o) H (nextH P K))
    | _ => hp P (execOp (evs σ) o) H (nextH P K)
where
  nwM (H : Hp) (K : Value → Hp → Prop) : Prop := ∀ r, H r = none → K (.map (some r)) (H.put r (.map #[] 0))

theorem hp_val_bind (P : Program) {α β : Type} (m : Sem α) (f : α → Sem β) (H : Hp) (Q : β → Hp → Prop) (v : α) (h : val P m H = some v) (hq : hp P (f v) H Q) :
    hp P (m >>= f) H Q := by
  rw [hp_bind']
  exact hp_of_val P m H _ v h hq

theorem hp_v {P : Program} {m : Sem Value} {H : Hp} {K : Value → Hp → Prop} (h : hp P m H K) : hp P (do pure (Next.value (← m))) H (nextH P K) := by
  rw [hp_bind']
  exact hp_mono P m _ _ _ (fun _ _ hk => hk) h
theorem hp_u {P : Program} {m : Sem Unit} {H : Hp} {K : Value → Hp → Prop} (h : hp P m H (fun _ => K undef)) : hp P (do m; pure Next.skip) H (nextH P K) := by
  rw [hp_bind']
  exact hp_mono P m _ _ _ (fun _ _ hk => hk) h

theorem hp_newRow (P : Program) (e : TypeId) (cells : Array Value) (H : Hp) (Q : Addr → Hp → Prop) (h : ∀ r, H r = none → Q ⟨r, 0, none⟩ (H.put r (.cells cells e))) :
    hp P (newRow e cells) H Q := by
  simp only [newRow, newObj, hp_bind', hp]
  exact h

theorem hp_storeCells (P : Program) (a : Addr) (K : Hp → Prop) : ∀ (vs : List Value) (i : Nat) (H : Hp), stC a K vs i H → hp P (storeCells a vs i) H (fun _ H' => K H')
  | [], _, _, h => h
  | v :: r, i, H, h => by
    simp only [storeCells, store, hp_bind', hp]
    simp only [stC] at h
    exact ⟨h.1, h.2.1, h.2.2.1, hp_storeCells P a K r (i + 1) _ h.2.2.2⟩

theorem hp_st (P : Program) (t : TypeId) (n : Nat) (v x : Value) (H : Hp) (K : Hp → Prop) (hn : szO P t = some n) (h : st n v x H K) : hp P (Instr.storeAt t v x) H (fun _ H' => K H') := by
  unfold st at h
  split at h
  · rename_i a
    simp only [Instr.storeAt, Instr.sureAddr, hp_bind', hp_pure, storeVar]
    refine hp_of_val P _ H _ n (by rw [val_sizeOf, hn]) ?_
    rw [if_neg (by simp [h.1])]
    exact hp_storeCells P a K _ _ _ h.2
  · exact h.elim

theorem hp_fA (P : Program) (op : BinOp) (t : TypeId) (v w : Value) (H : Hp) (K : Value → Hp → Prop) (h : fA op v w H K) : hp P (binOp op t v w) H K := by
  unfold fA at h
  split at h
  · rename_i k x k' y
    obtain ⟨rfl, h⟩ := h
    cases op <;> simp only [fRes] at h <;> (try exact h.elim)
    all_goals
      simp only [binOp, ne_eq, not_true_eq_false, if_false, Op.floatArith, hp_bind', hp_pure]
      split at h
      · rename_i r hr
        simp only [Option.some.injEq] at hr
        simp only [hr]
        exact h
      · rename_i hr
        simp only [Option.some.injEq] at hr
        simp only [hr, choose, hp_bind', hp, Question.forced, Bool.false_eq_true, if_false]
        exact h
      · exact h.elim
  · exact h.elim

theorem hp_fC (P : Program) (s d : TypeId) (j k : FloatKind) (v : Value) (H : Hp) (K : Value → Hp → Prop) (hs : P.underlying s = some (.float j)) (hd : P.underlying d = some (.float k)) (h : fC k v H K) :
    hp P (convert s d v) H K := by
  unfold fC at h
  split at h
  · rename_i sk b
    refine hp_val_bind P _ _ H K _ (by rw [val_underlying, hs]) ?_
    refine hp_val_bind P _ _ H K _ (by rw [val_underlying, hd]) ?_
    simp only [Conv.floatToFloat]
    by_cases e : sk = k
    · rw [if_pos e] at h ⊢; exact h
    · rw [if_neg e] at h ⊢
      cases hdc : sk.decode b with
      | nan a c =>
        simp only [hdc] at h ⊢
        simp only [choose, hp_bind', hp, Question.forced, Bool.false_eq_true, if_false]
        exact h
      | infinity g => simp only [hdc] at h ⊢; exact h
      | number g m e' =>
        simp only [hdc] at h ⊢
        split
        · rename_i hi
          rw [if_pos hi] at h
          simp only [choose, hp_bind', hp, Question.forced, Bool.false_eq_true, if_false]
          exact h
        · rename_i hi
          rw [if_neg hi] at h
          exact h
  · exact h.elim

theorem val_firstCells (P : Program) (H : Hp) (sz n : Nat) (x : Value) (l : List Value) (h : firstC H sz n x = some l) : val P (Builtin.firstCells sz n x) H = some l.toArray := by
  unfold firstC at h
  unfold Builtin.firstCells
  split at h
  · exact val_loadCells P H _ _ _ h
  · simp only [Option.some.injEq] at h; subst h; rfl
  · rename_i s
    simp only [Option.some.injEq] at h
    subst h
    simp only [val_pure, Option.some.injEq]
    rw [arr_map]
  · simp at h

theorem val_lenOf (P : Program) (H : Hp) (x : Value) (m : Nat) (h : lenO x = some m) : val P (Builtin.lenOf x) H = some m := by
  unfold lenO at h
  unfold Builtin.lenOf
  split at h <;> first | exact h | (simp at h; done)

theorem hp_askRoom (P : Program) (b : Nat) (H : Hp) (Q : Unit → Hp → Prop) (h : Q () H) : hp P (askRoom b) H Q := by
  unfold askRoom
  split
  · exact h
  · exact h

theorem hp_apd (P : Program) (t t' e : TypeId) (n b : Nat) (z : Value) (s x : Value) (args : Array Value) (argTypes : Array TypeId) (ty : TypeId) (H : Hp) (K : Value → Hp → Prop)
    (h0 : argTypes[0]? = some t) (h1 : argTypes[1]? = some t') (ha0 : args[0]? = some s) (ha1 : args[1]? = some x)
    (ht : P.underlying t = some (.slice e)) (ht' : ∃ d, P.underlying t' = some d ∧ ∀ k, d ≠ .int k) (hn : szO P e = some n) (hb : bytesO P e = some b) (hz : zeroO P e = some z)
    (h : apd n b z.cells e s x H K) : hp P (Builtin.append_ argTypes ty args) H K := by
  unfold apd at h
  split at h
  · rename_i base sl c m hm
    unfold Builtin.append_
    simp only [h0, ha0, ha1]
    refine hp_val_bind P _ _ H K _ (by rw [val_underlying, ht]) ?_
    simp only
    refine hp_val_bind P _ _ H K _ (by rw [val_sizeOf, hn]) ?_
    simp only [h1]
    obtain ⟨d, hd, hk⟩ := ht'
    refine hp_val_bind P _ _ H K d (by rw [val_underlying, hd]) ?_
    refine hp_val_bind P _ _ H K false (by
      rw [val_pure]
      cases d <;> first | rfl | exact absurd rfl (hk _)) ?_
    simp only [Bool.false_eq_true, if_false, Bool.not_false, if_true]
    refine hp_val_bind P _ _ H K m (val_lenOf P H x m hm) ?_
    split at h
    · rename_i hle
      rw [if_pos hle]
      cases hf : firstC H n m x with
      | none => simp [hf] at h
      | some new =>
        simp only [hf] at h
        refine hp_val_bind P _ _ H K _ (val_firstCells P H n m x new hf) ?_
        cases base with
        | none => simp only at h ⊢; exact h
        | some a =>
          simp only at h ⊢
          rw [hp_bind']
          exact hp_mono P _ _ _ _ (fun _ _ hh => hh) (hp_storeCells P _ _ _ _ _ h)
    · rename_i hle
      rw [if_neg hle]
      obtain ⟨hA, hB, h⟩ := h
      have hti : ∃ i, P.info? e = some i ∧ i.bytes = b := by
        unfold bytesO at hb
        cases hi : P.info? e with
        | none => simp [hi] at hb
        | some i => simp [hi] at hb; exact ⟨i, rfl, hb⟩
      obtain ⟨i, hi, hib⟩ := hti
      refine hp_val_bind P _ _ H K i (by rw [val_typeInfo, hi]) ?_
      rw [if_neg (by
        intro hh
        have := hh.1
        have e2 : IntKind.i64.max = 9223372036854775807 := by decide
        rw [e2] at this
        omega)]
      refine hp_val_bind P _ _ H K i (by rw [val_typeInfo, hi]) ?_
      rw [if_neg (by rw [hib]; omega)]
      simp only [choose, hp_bind', hp, Question.forced, Bool.false_eq_true, if_false]
      intro tt
      refine hp_of_val P _ H _ i (by rw [val_typeInfo, hi]) ?_
      refine hp_askRoom P _ H _ ?_
      cases ho : firstC H n sl (.slice base sl c) with
      | none => simp [ho] at h
      | some old =>
        cases hnw : firstC H n m x with
        | none => simp [ho, hnw] at h
        | some new =>
          simp only [ho, hnw] at h
          refine hp_of_val P _ H _ _ (val_firstCells P H n sl _ old ho) ?_
          refine hp_of_val P _ H _ _ (val_firstCells P H n m x new hnw) ?_
          refine hp_of_val P _ H _ z (by rw [val_zeroValue, hz]) ?_
          refine hp_newRow P _ _ _ _ ?_
          intro r hr
          have hcut : (Question.appendCap (sl + m) c e).cut tt = (sl + m) + tt % (2 ^ 63 - (sl + m)) := rfl
          refine h _ (by rw [hcut]; omega) ?_ r hr
          rw [hcut]
          have : tt % (2 ^ 63 - (sl + m)) < 2 ^ 63 - (sl + m) := Nat.mod_lt _ (by omega)
          omega
  · exact h.elim

theorem hp_apm (P : Program) (t t' e : TypeId) (n b : Nat) (z : Value) (k0 : IntKind) (s x : Value) (args : Array Value) (argTypes : Array TypeId) (ty : TypeId) (H : Hp) (K : Value → Hp → Prop)
    (h0 : argTypes[0]? = some t) (h1 : argTypes[1]? = some t') (ha0 : args[0]? = some s) (ha1 : args[1]? = some x)
    (ht : P.underlying t = some (.slice e)) (ht' : P.underlying t' = some (.int k0)) (hn : szO P e = some n) (hb : bytesO P e = some b) (hz : zeroO P e = some z)
    (h : apm n b z.cells e s x H K) : hp P (Builtin.append_ argTypes ty args) H K := by
  unfold apm at h
  split at h
  · rename_i base sl c kk l
    obtain ⟨l0, l1, lb, h⟩ := h
    have hti : ∃ i, P.info? e = some i ∧ i.bytes = b := by
      unfold bytesO at hb
      cases hi : P.info? e with
      | none => simp [hi] at hb
      | some i => simp [hi] at hb; exact ⟨i, rfl, hb⟩
    obtain ⟨i, hi, hib⟩ := hti
    have wl : IntKind.i64.wrap l = l := by unfold IntKind.wrap; simp [IntKind.signed, IntKind.bits]; omega
    have happ : val P (if l.toNat * n = 0 then pure #[] else do pure (Builtin.zeroCells (← zeroValue e).cells l.toNat) : Sem (Array Value)) H = some (if l.toNat * n = 0 then #[] else Builtin.zeroCells z.cells l.toNat) := by
      split
      · rw [val_pure]
      · rw [val_bind', val_zeroValue, hz, Option.bind_some, val_pure]
    unfold Builtin.append_
    simp only [h0, ha0, ha1]
    refine hp_val_bind P _ _ H K _ (by rw [val_underlying, ht]) ?_
    simp only
    refine hp_val_bind P _ _ H K _ (by rw [val_sizeOf, hn]) ?_
    simp only [h1]
    refine hp_val_bind P _ _ H K (.int k0) (by rw [val_underlying, ht']) ?_
    refine hp_val_bind P _ _ H K true (by rw [val_pure]) ?_
    simp only [if_true, Bool.not_true, Bool.false_eq_true, if_false]
    refine hp_val_bind P _ _ H K l (by simp only [asInt, asIntOf, val_bind', val_pure, Option.bind_some]) ?_
    rw [wl, if_neg (by omega)]
    refine hp_val_bind P _ _ H K i (by rw [val_typeInfo, hi]) ?_
    rw [if_neg (by rw [hib]; omega)]
    refine hp_val_bind P _ _ H K l.toNat (by rw [val_pure]) ?_
    split at h
    · rename_i hle
      rw [if_pos hle]
      refine hp_val_bind P _ _ H K _ happ ?_
      cases base with
      | none => simp only at h ⊢; exact h
      | some a =>
        simp only at h ⊢
        rw [hp_bind']
        exact hp_mono P _ _ _ _ (fun _ _ hh => hh) (hp_storeCells P _ _ _ _ _ h)
    · rename_i hle
      rw [if_neg hle]
      obtain ⟨hA, hB, h⟩ := h
      refine hp_val_bind P _ _ H K i (by rw [val_typeInfo, hi]) ?_
      rw [if_neg (by
        intro hh
        have := hh.1
        have e2 : IntKind.i64.max = 9223372036854775807 := by decide
        rw [e2] at this
        omega)]
      refine hp_val_bind P _ _ H K i (by rw [val_typeInfo, hi]) ?_
      rw [if_neg (by rw [hib]; omega)]
      simp only [choose, hp_bind', hp, Question.forced, Bool.false_eq_true, if_false]
      intro tt
      refine hp_of_val P _ H _ i (by rw [val_typeInfo, hi]) ?_
      refine hp_askRoom P _ H _ ?_
      cases ho : firstC H n sl (.slice base sl c) with
      | none => simp [ho] at h
      | some old =>
        simp only [ho] at h
        refine hp_of_val P _ H _ _ (val_firstCells P H n sl _ old ho) ?_
        refine hp_of_val P _ H _ _ happ ?_
        refine hp_of_val P _ H _ z (by rw [val_zeroValue, hz]) ?_
        refine hp_newRow P _ _ _ _ ?_
        intro r hr
        have hcut : (Question.appendCap (sl + l.toNat) c e).cut tt = (sl + l.toNat) + tt % (2 ^ 63 - (sl + l.toNat)) := rfl
        refine h _ (by rw [hcut]; omega) ?_ r hr
        rw [hcut]
        have : tt % (2 ^ 63 - (sl + l.toNat)) < 2 ^ 63 - (sl + l.toNat) := Nat.mod_lt _ (by omega)
        omega
  · exact h.elim

theorem range_map_zero {β : Type} (f : Nat → β) : (Array.range 0).map f = #[] := by simp

theorem hp_mkS (P : Program) (t e : TypeId) (n b : Nat) (z : Value) (l c : Value) (H : Hp) (K : Value → Hp → Prop) (ht : P.underlying t = some (.slice e)) (hn : szO P e = some n) (hb : bytesO P e = some b) (hz : zeroO P e = some z)
    (h : mkS n b z.cells e l c H K) : hp P (Instr.makeSlice t l c) H K := by
  unfold mkS at h
  split at h
  · rename_i k1 l k2 c
    obtain ⟨h0, hlc, hc, hbc, h⟩ := h
    have hti : ∃ i, P.info? e = some i ∧ i.bytes = b := by
      unfold bytesO at hb
      cases hi : P.info? e with
      | none => simp [hi] at hb
      | some i => simp [hi] at hb; exact ⟨i, rfl, hb⟩
    obtain ⟨i, hi, hib⟩ := hti
    have wl : IntKind.i64.wrap l = l := by unfold IntKind.wrap; simp [IntKind.signed, IntKind.bits]; omega
    have wc : IntKind.i64.wrap c = c := by unfold IntKind.wrap; simp [IntKind.signed, IntKind.bits]; omega
    unfold Instr.makeSlice
    refine hp_val_bind P _ _ H K _ (by rw [val_underlying, ht]) ?_
    simp only
    refine hp_val_bind P _ _ H K l rfl ?_
    refine hp_val_bind P _ _ H K c rfl ?_
    refine hp_val_bind P _ _ H K i (by rw [val_typeInfo, hi]) ?_
    simp only [wl, wc, hib]
    rw [if_neg (by
      simp only [Bool.or_eq_true, decide_eq_true_eq, not_or]
      refine ⟨⟨⟨by omega, by omega⟩, by omega⟩, by omega⟩)]
    rw [hp_bind']
    refine hp_askRoom P _ H _ ?_
    refine hp_val_bind P _ _ H K n (by rw [val_sizeOf, hn]) ?_
    by_cases hz0 : c.toNat * n = 0
    · rw [if_pos hz0] at h ⊢
      refine hp_val_bind P _ _ H K #[] rfl ?_
      rw [hp_bind', hz0, range_map_zero]
      exact hp_newRow P _ _ _ _ h
    · rw [if_neg hz0] at h ⊢
      refine hp_val_bind P _ _ H K z (by rw [val_zeroValue, hz]) ?_
      refine hp_val_bind P _ _ H K z.cells rfl ?_
      rw [hp_bind']
      exact hp_newRow P _ _ _ _ h
  · exact h.elim

theorem hp_bS (P : Program) (t e : TypeId) (n len : Nat) (z : Value) (parts : Array (Nat × Value)) (H : Hp) (K : Value → Hp → Prop) (ht : P.underlying t = some (.slice e)) (hn : szO P e = some n) (hz : zeroO P e = some z)
    (h : bS n len z.cells e parts.toList H K) : hp P (Instr.buildSlice t len parts) H K := by
  unfold bS at h
  obtain ⟨h1, h⟩ := h
  unfold Instr.buildSlice
  refine hp_val_bind P _ _ H K _ (by rw [val_underlying, ht]) ?_
  simp only
  refine hp_val_bind P _ _ H K n (by rw [val_sizeOf, hn]) ?_
  rw [if_neg (by omega)]
  by_cases hz0 : len * n = 0
  · rw [if_pos hz0] at h ⊢
    refine hp_val_bind P _ _ H K #[] rfl ?_
    rw [show ((Array.range (len * n)).map fun x => (#[] : Array Value)[x % (#[] : Array Value).size]!) = #[] by rw [hz0, range_map_zero]]
    split at h
    · rename_i cells hc
      simp only [hc]
      rw [hp_bind']
      exact hp_newRow P _ _ _ _ h
    · exact h.elim
  · rw [if_neg hz0] at h ⊢
    refine hp_val_bind P _ _ H K z (by rw [val_zeroValue, hz]) ?_
    refine hp_val_bind P _ _ H K z.cells rfl ?_
    unfold zrow at h
    split at h
    · rename_i cells hc
      simp only [hc]
      rw [hp_bind']
      exact hp_newRow P _ _ _ _ h
    · exact h.elim

theorem hp_alloc (P : Program) (e : TypeId) (z : Value) (H : Hp) (K : Value → Hp → Prop) (hz : zeroO P e = some z) (h : nw z.cells e H K) : hp P (Instr.alloc e true (.tuple #[])) H K := by
  unfold Instr.alloc
  refine hp_val_bind P _ _ H K z (by rw [val_zeroValue, hz]) ?_
  simp only [newVar]
  rw [hp_bind']
  exact hp_newRow P _ _ _ _ h
theorem hp_box (P : Program) (e : TypeId) (v : Value) (H : Hp) (K : Value → Hp → Prop) (h : nw v.cells e H K) : hp P (Instr.box e v) H K := by
  unfold Instr.box newVar
  rw [hp_bind']
  exact hp_newRow P _ _ _ _ h

theorem hp_callFunc (P : Program) (f : FuncId) (args : Array Value) (H : Hp) (K : Value → Hp → Prop) (hok : callOk P f = true) (h : HT P f args H K) : hp P (callFunc f args) H (nextH P K) := by
  unfold callOk at hok
  cases hf : P.funcs[f]? with
  | none => simp [hf] at hok
  | some fn =>
    simp only [hf, Bool.and_eq_true, Bool.not_eq_true', beq_eq_false_iff_ne, ne_eq] at hok
    unfold callFunc
    simp only [program, hp_bind', hp, hf]
    have h1 : (fn.name == "runtime.NumGoroutine") = false := by simpa using hok.1
    have h2 : fn.body.isNone = false := by cases hb : fn.body <;> simp_all
    simp only [h1, Bool.false_eq_true, if_false, h2]
    exact h
end Go.Proofs.YtijmoehbgkibnaaGreatDoor.HL
