/- The operations of a region, in order, over a partial heap. -/
import Derived.Test.YtijmoehbgkibnaaGreatDoorHD
namespace Go.Proofs.YtijmoehbgkibnaaGreatDoor.HL

theorem opEv_sound (P : Program) (o : Oper) (σ : S) (H : Hp) (K : Value → Hp → Prop) (h : opEv P o σ H K) : hp P (execOp (evs σ) o) H (nextH P K) := by
  unfold opEv at h
  cases hd : isD P o with
  | true =>
    simp only [hd] at h
    obtain ⟨u, hu, hk⟩ := opD_ex h
    exact hp_of_val P _ H _ _ (dval_val P o σ H u hd hu) hk
  | false =>
    simp only [hd] at h
    obtain ⟨dst, op, type, pos, after, guard⟩ := o
    cases op <;> simp only at h <;> try exact h
    case alloc e =>
      split at h
      · rename_i z hz; exact hp_v (hp_alloc P e z H K hz h)
      · exact h.elim
    case buildSlice t len parts =>
      split at h
      · rename_i e ht
        split at h
        · rename_i n z hn hz
          refine hp_v (hp_bS P t e n len z _ H K ht hn hz ?_)
          simpa using h
        · exact h.elim
      · exact h.elim
    case store t a x =>
      split at h
      · rename_i n hn; exact hp_u (hp_st P t n _ _ H (K undef) hn h)
      · exact h.elim
    case binOp op t x y yt =>
      refine hp_v ?_
      have hv : ∃ k a k' b, evs σ x = .float k a ∧ evs σ y = .float k' b := by
        unfold fA at h
        split at h
        · rename_i k a k' b hx hy; exact ⟨_, _, _, _, hx, hy⟩
        · exact h.elim
      obtain ⟨k, a, k', b, hx, hy⟩ := hv
      refine hp_val_bind P _ _ H K () (val_eqGuard_other P op t x y _ _ H (by simp [hx]) (by simp [hx])) ?_
      exact hp_fA P op t _ _ H K h
    case convert s d x =>
      refine hp_v ?_
      split at h
      · rename_i j k hs hd'; exact hp_fC P s d j k _ H K hs hd' h
      · exact h
    case makeSlice t l c =>
      split at h
      · rename_i e ht
        split at h
        · rename_i n b z hn hb hz; exact hp_v (hp_mkS P t e n b z _ _ H K ht hn hb hz h)
        · exact h.elim
      · exact h.elim
    case makeMap t r =>
      cases r with
      | none =>
        simp only at h
        refine hp_v ?_
        simp only [Instr.makeMap, Option.map_none, newObj, hp_bind', hp]
        exact h
      | some x => exact hp_v h
    case lookup t m k ok => exact hp_v h
    case mapUpdate t m k x => exact hp_u h
    case mapEntry t m k => exact hp_v h
    case entryStore t m s x => exact hp_u h
    case range t x => exact hp_v h
    case next it s => exact hp_v h
    case entry it => exact hp_v h
    case build t ps =>
      rw [arr_map] at h
      exact hp_v h
    case call c =>
      obtain ⟨callee, args, argTypes⟩ := c
      simp only [execOp, resolve]
      cases callee with
      | value x =>
        cases x with
        | func f =>
          simp only at h
          simp only [evs, Deferred.ofValue, hp_bind', hp_pure, invoke]
          rw [show (#[] ++ args.map (evs σ) ++ #[] : Array Value) = (args.toList.map (evs σ)).toArray by rw [arr_map]; simp]
          cases hok : callOk P f with
          | true => simp only [hok] at h; exact hp_callFunc P f _ H K hok h
          | false => simp only [hok] at h; exact h
        | tmp t =>
          simp only at h
          unfold callV at h
          split at h
          · rename_i f first caps hv
            simp only [hv, Deferred.ofValue, hp_bind', hp_pure, invoke]
            rw [show (first ++ args.map (evs σ) ++ caps : Array Value) = (first.toList ++ args.toList.map (evs σ) ++ caps.toList).toArray by simp]
            exact hp_callFunc P f _ H K h.1 h.2
          · rename_i l first caps hv
            simp only [hv, Deferred.ofValue, hp_bind', hp_pure, invoke]
            rw [show (first ++ args.map (evs σ) : Array Value) = (first.toList ++ args.toList.map (evs σ)).toArray by simp]
            exact h
          · exact h.elim
        | const v =>
          simp only at h
          unfold callV at h
          split at h
          · rename_i f first caps hv
            simp only [hv, Deferred.ofValue, hp_bind', hp_pure, invoke]
            rw [show (first ++ args.map (evs σ) ++ caps : Array Value) = (first.toList ++ args.toList.map (evs σ) ++ caps.toList).toArray by simp]
            exact hp_callFunc P f _ H K h.1 h.2
          · rename_i l first caps hv
            simp only [hv, Deferred.ofValue, hp_bind', hp_pure, invoke]
            rw [show (first ++ args.map (evs σ) : Array Value) = (first.toList ++ args.toList.map (evs σ)).toArray by simp]
            exact h
          · exact h.elim
        | global g =>
          simp only at h
          unfold callV at h
          simp only [evs] at h
      | invoke r m => exact h
      | builtin b =>
        by_cases hb : b = .append
        · subst hb
          simp only at h
          simp only [hp_bind', hp_pure, invoke, builtin]
          split at h
          · rename_i t t' s x h0 h1 h2 h3
            have ha0 : (args.map (evs σ))[0]? = some (evs σ s) := by simp [h2]
            have ha1 : (args.map (evs σ))[1]? = some (evs σ x) := by simp [h3]
            split at h
            · rename_i e e' ht ht'
              split at h
              · rename_i n b z hn hb hz
                exact hp_mono P _ H _ _ (fun _ _ hh => hh) (hp_apd P t t' e n b z _ _ _ _ type H K h0 h1 ha0 ha1 ht ⟨_, ht', by simp⟩ hn hb hz h)
              · exact h.elim
            · rename_i e ht ht'
              split at h
              · rename_i n b z hn hb hz
                exact hp_mono P _ H _ _ (fun _ _ hh => hh) (hp_apd P t t' e n b z _ _ _ _ type H K h0 h1 ha0 ha1 ht ⟨_, ht', by simp⟩ hn hb hz h)
              · exact h.elim
            · rename_i e k0 ht ht'
              split at h
              · rename_i n b z hn hb hz
                exact hp_mono P _ H _ _ (fun _ _ hh => hh) (hp_apm P t t' e n b z k0 _ _ _ _ type H K h0 h1 ha0 ha1 ht ht' hn hb hz h)
              · exact h.elim
            · exact h.elim
          · exact h.elim
        · have h' : hp P (builtin b argTypes type (args.map fun | .const _ => true | _ => false) (args.map (evs σ))) H (nextH P K) := by
            rw [arr_map] at h
            cases b <;> first | exact absurd rfl hb | exact h
          simp only [hp_bind', hp_pure, invoke]
          exact h'

/-- The mark that an outermost range over a function leaves among the deferred calls. -/
def mkD (r : Nat) : Deferred := { target := .collected r, args := #[] }
/-- A frame's slots, as they are told; D: the blocks of its marks. -/
structure R (n : Nat) (D : List Nat) (a : Act) (σ : S) : Prop where
  defers : a.defers = D.map mkD
  size : a.tmps.size = n
  at_ : ∀ t, a.tmps.getD t undef = σ t

theorem R.eval {n : Nat} {D : List Nat} {a : Act} {σ : S} (h : R n D a σ) : a.eval = evs σ := by
  funext x
  cases x with
  | tmp t => exact h.at_ t
  | _ => rfl

theorem R.put {n : Nat} {D : List Nat} {a : Act} {σ : S} (h : R n D a σ) (d : Option Tmp) (v : Value) (hd : ∀ t, d = some t → t < n) : R n D (a.put d v) (upo σ d v) := by
  cases d with
  | none => exact h
  | some t =>
    have ht := hd t rfl
    refine ⟨h.defers, by simp [Act.put, h.size], fun x => ?_⟩
    simp only [Act.put, upo, up_apply, Array.getD_eq_getD_getElem?]
    by_cases e : x = t
    · subst e
      rw [if_pos rfl, Array.getElem?_setIfInBounds_self_of_lt (by rw [h.size]; exact ht)]
      rfl
    · rw [if_neg e, Array.getElem?_setIfInBounds_ne (Ne.symm e)]
      have := h.at_ x
      rwa [Array.getD_eq_getD_getElem?] at this

/-- A world has what is known, and what wasn't known at the beginning is as it was; the marks' blocks are unknown, and empty. -/
structure SubF (D : List Nat) (H0 : Hp) (w0 : World) (H : Hp) (w : World) : Prop where
  sub : Sub H w
  fr : Fr H0 H w0 w
  nodup : D.Nodup
  marks : ∀ r ∈ D, w0.heap.size ≤ r ∧ r < w.heap.size ∧ H r = none ∧ w.heap[r]? = some (.deferred (some []))
theorem SubF.fn {D : List Nat} {H0 : Hp} {w0 : World} {H : Hp} {w : World} (h : SubF D H0 w0 H w) : ∃ n, ∀ b, n ≤ b → H b = none :=
  ⟨w.heap.size, fun b hb => by
    cases ho : H b with
    | none => rfl
    | some o => have := h.sub.lt ho; omega⟩
theorem SubF.step {D : List Nat} {H0 : Hp} {w0 : World} {H H' : Hp} {w w' : World} (h : SubF D H0 w0 H w) (hs : Sub H' w') (fr : Fr H H' w w') : SubF D H0 w0 H' w' :=
  ⟨hs, h.fr.trans fr, h.nodup, fun r hr => by
    obtain ⟨h1, h2, h3, h4⟩ := h.marks r hr
    obtain ⟨h5, h6⟩ := fr.keep r h2 h3
    exact ⟨h1, Nat.lt_of_lt_of_le h2 fr.size, h5, by rw [h6]; exact h4⟩⟩
theorem SubF.drew {D : List Nat} {H0 : Hp} {w0 : World} {H : Hp} {w : World} (h : SubF D H0 w0 H w) (k : Nat) : SubF D H0 w0 H { w with drawn := k } :=
  h.step (H' := H) (w' := { w with drawn := k }) h.sub ⟨Nat.le_refl _, fun _ _ hb => ⟨hb, rfl⟩, rfl, rfl, rfl⟩
/-- The wide fence, for a function's frame or for a round's. -/
def Fw (ro : Option Nat) : Fence := { Fence.wide with round := ro }
theorem Fw_none : Fw none = Fence.wide := rfl
theorem Fw_room (ro : Option Nat) (n : Nat) : (Fw ro).room n := fun _ h => by simp [Fw, Fence.wide] at h
theorem Fw_depth (ro : Option Nat) {A : Prop} : (Fw ro).depth.isSome = true → A := fun h => by simp [Fw, Fence.wide] at h
theorem calls_Fw {ro : Option Nat} {N : Nat} {P : Program} {f : FuncId} {args : Array Value} {w : World} {T : Ending → World → Prop} (h : Calls P f args w T) : CallsIn (Fw ro) N P f args w T :=
  ⟨trivial, fun cs _ => let ⟨e, w', fr, r, s, x⟩ := h cs; ⟨e, w', fr, r, comesIn_wide.2 s, x⟩⟩
theorem round_Fw {ro : Option Nat} {N : Nat} {P : Program} {l : Nat} {f : FuncId} {tmps : Array Value} {as b : Code} {w : World} {T : Ending → World → Prop} (h : RoundIn Fence.wide 0 P l f tmps as b w T) : RoundIn (Fw ro) N P l f tmps as b w T :=
  ⟨trivial, fun c cs _ => h.2 c cs (room_wide _)⟩
def noDef (o : Oper) : Bool := match o.op with | .defer _ => false | _ => true
theorem noDef_spec {o : Oper} (h : noDef o = true) (c : Call) : o.op ≠ .defer c := by
  intro e; unfold noDef at h; rw [e] at h; simp at h
theorem oper_wp {P : Program} {ro : Option Nat} {N : Nat} {D : List Nat} {H0 : Hp} {w0 : World} {o : Oper} {n : Nat} {a : Act} {σ : S} {H : Hp} {w : World} {K : Value → Hp → Prop} {Q : Exit → Act → World → Prop} {next : Act → World → Prop}
    (hR : R n D a σ) (hs : SubF D H0 w0 H w) (hd : ∀ t, o.dst = some t → t < n) (hnd : noDef o = true) (h : hp P (execOp (evs σ) o) H (nextH P K))
    (hn : ∀ a' w' v H', R n D a' (upo σ o.dst v) → SubF D H0 w0 H' w' → K v H' → next a' w') : o.wpIn (Fw ro) N P a w next Q := by
  unfold Oper.wpIn
  refine ⟨fun _ _ => trivial, ?_⟩
  rw [Oper.semAt_eq _ _ _ (noDef_spec hnd), hR.eval]
  obtain ⟨nx, w', H', hr, hs', fr, hk⟩ := hp_sound P _ H _ w h hs.sub
  rw [hr]
  cases nx <;> simp only [nextH] at hk <;> try exact hk.elim
  case value v => exact hn _ _ v H' (hR.put o.dst v hd) (hs.step hs' fr) hk
  case skip => exact hn _ _ undef H' (hR.put o.dst undef hd) (hs.step hs' fr) hk
  case enter f args =>
    refine ⟨Fw_depth ro, CallsIn.mono (calls_Fw (hk w' hs')) ?_⟩
    rintro e w'' ⟨v, H'', rfl, hs'', fr', hk''⟩
    exact hn _ _ v H'' (hR.put o.dst v hd) ((hs.step hs' fr).step hs'' fr') hk''
  case round l f tmps as b =>
    refine ⟨Fw_depth ro, RoundIn.mono (round_Fw (hk w' hs')) ?_⟩
    rintro e w'' ⟨v, H'', rfl, hs'', fr', hk''⟩
    exact hn _ _ v H'' (hR.put o.dst v hd) ((hs.step hs' fr).step hs'' fr') hk''

/-- What a guard says: is the operation wanted? -/
def gdv (ops : Array Oper) (σ : S) (j : Nat) : Value :=
  match ops[j]? with
  | some o => (match o.dst with | some t => σ t | none => undef)
  | none => undef
def gOk (g : Value) (b : Bool) : Bool :=
  match g with
  | .bool c => c == b
  | _ => false
def gop (g : Value) (b : Bool) (F : (Value → Hp → Prop) → Prop) (H : Hp) (K : Value → Hp → Prop) : Prop :=
  match gOk g b with
  | true => F K
  | false => K undef H

def regEv (P : Program) (ops : Array Oper) (K : S → Hp → Prop) : List Nat → S → Hp → Prop
  | [], σ, H => K σ H
  | i :: r, σ, H =>
    match ops[i]? with
    | none => regEv P ops K r σ H
    | some o =>
      match o.guard with
      | none => opEv P o σ H (fun v H' => regEv P ops K r (upo σ o.dst v) H')
      | some (j, b) => gop (gdv ops σ j) b (fun K' => opEv P o σ H K') H (fun v H' => regEv P ops K r (upo σ o.dst v) H')

def dstOk (n : Nat) (ops : Array Oper) : Bool := ops.toList.all fun o => (match o.dst with | some t => Nat.blt t n | none => true) && noDef o

theorem dstOk_at {n : Nat} {ops : Array Oper} (h : dstOk n ops = true) {i : Nat} {o : Oper} (ho : ops[i]? = some o) : ∀ t, o.dst = some t → t < n := by
  intro t ht
  unfold dstOk at h
  rw [List.all_eq_true] at h
  have := h o (by rw [← Array.mem_def]; exact Array.mem_of_getElem? ho)
  rw [ht] at this
  simp only [Bool.and_eq_true] at this
  simpa using this.1
theorem dstOk_nd {n : Nat} {ops : Array Oper} (h : dstOk n ops = true) {i : Nat} {o : Oper} (ho : ops[i]? = some o) : noDef o = true := by
  unfold dstOk at h
  rw [List.all_eq_true] at h
  have := h o (by rw [← Array.mem_def]; exact Array.mem_of_getElem? ho)
  simp only [Bool.and_eq_true] at this
  exact this.2

theorem yielded_gdv {n : Nat} {D : List Nat} {a : Act} {σ : S} (hR : R n D a σ) (ops : Array Oper) (hd : dstOk n ops = true) (j : Nat) (b : Bool) :
    (yielded ops a.tmps j == some b) = gOk (gdv ops σ j) b := by
  unfold yielded gdv gOk
  cases ho : ops[j]? with
  | none => rfl
  | some o =>
    cases hd' : o.dst with
    | none => simp [hd']; rfl
    | some t =>
      have ht := dstOk_at hd ho t hd'
      have hat := hR.at_ t
      have hg : a.tmps[t]? = some (σ t) := by
        rw [Array.getD_eq_getD_getElem?] at hat
        have hlt : t < a.tmps.size := by rw [hR.size]; exact ht
        rw [Array.getElem?_eq_getElem hlt] at hat ⊢
        simpa using hat
      simp only [Option.bind_some, hd', hg]
      cases σ t <;> simp

theorem wanted_gdv {n : Nat} {D : List Nat} {a : Act} {σ : S} (hR : R n D a σ) (ops : Array Oper) (hd : dstOk n ops = true) (o : Oper) :
    Region.wanted o (yielded ops a.tmps) = (match o.guard with | none => true | some (j, b) => gOk (gdv ops σ j) b) := by
  unfold Region.wanted
  cases o.guard with
  | none => rfl
  | some g => obtain ⟨j, b⟩ := g; exact yielded_gdv hR ops hd j b

theorem gop_true {g : Value} {b : Bool} {F : (Value → Hp → Prop) → Prop} {H : Hp} {K : Value → Hp → Prop} (h : gop g b F H K) (hg : gOk g b = true) : F K := by
  unfold gop at h
  rw [hg] at h
  exact h
theorem gop_false {g : Value} {b : Bool} {F : (Value → Hp → Prop) → Prop} {H : Hp} {K : Value → Hp → Prop} (h : gop g b F H K) (hg : gOk g b = false) : K undef H := by
  unfold gop at h
  rw [hg] at h
  exact h

theorem regEv_sound {P : Program} {ro : Option Nat} {N : Nat} {D : List Nat} {H0 : Hp} {w0 : World} {ops : Array Oper} {n : Nat} (hd : dstOk n ops = true) {K : S → Hp → Prop} {Q : Exit → Act → World → Prop}
    (hq : ∀ a w σ H, R n D a σ → SubF D H0 w0 H w → K σ H → Q .normal a w) : ∀ (l : List Nat) (a : Act) (w : World) (σ : S) (H : Hp), R n D a σ → SubF D H0 w0 H w → regEv P ops K l σ H → wpOpsIn (Fw ro) N P ops Q l a w
  | [], a, w, σ, H, hR, hs, h => hq a w σ H hR hs h
  | i :: r, a, w, σ, H, hR, hs, h => by
    rw [wpOpsIn_cons]
    unfold wpOpIn
    simp only [regEv] at h
    cases ho : ops[i]? with
    | none => simp only [ho] at h ⊢; exact regEv_sound hd hq r a w σ H hR hs h
    | some o =>
      simp only [ho] at h ⊢
      rw [wanted_gdv hR ops hd o]
      have hdo := dstOk_at hd ho
      cases hg : o.guard with
      | none =>
        simp only [hg] at h ⊢
        simp only [if_true]
        refine oper_wp hR hs hdo (dstOk_nd hd ho) (opEv_sound P o σ H _ h) ?_
        intro a' w' v H' hR' hs' hk
        exact regEv_sound hd hq r a' w' _ H' hR' hs' hk
      | some g =>
        obtain ⟨j, b⟩ := g
        simp only [hg] at h ⊢
        split
        · rename_i ht
          refine oper_wp hR hs hdo (dstOk_nd hd ho) (opEv_sound P o σ H _ (gop_true h ht)) ?_
          intro a' w' v H' hR' hs' hk
          exact regEv_sound hd hq r a' w' _ H' hR' hs' hk
        · rename_i ht
          have := gop_false h (by simpa using ht)
          exact ⟨fun _ _ => trivial, regEv_sound hd hq r _ w _ H (hR.put o.dst undef hdo) hs this⟩
end Go.Proofs.YtijmoehbgkibnaaGreatDoor.HL
