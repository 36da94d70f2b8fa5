/- Code and calls over a partial heap. -/
import Derived.Test.YtejbicikffhggaaHH
namespace Go.Proofs.Ytejbicikffhggaa.HL

def thenQ (next : S → Hp → Prop) (Q : Exit → S → Hp → Prop) : Exit → S → Hp → Prop
  | .normal, σ, H => next σ H
  | e, σ, H => Q e σ H
def blkQ (id : Nat) (Q : Exit → S → Hp → Prop) : Exit → S → Hp → Prop
  | .exit id', σ, H => (match Nat.beq id' id with | true => Q .normal σ H | false => Q (.exit id') σ H)
  | e, σ, H => Q e σ H
def cnd (v : Value) (A B : Prop) : Prop :=
  match v with
  | .bool true => A
  | .bool false => B
  | _ => False
/-- A loop: what holds at each round's head, and what each round lowers. -/
def lpE (body : (Exit → S → Hp → Prop) → S → Hp → Prop) (Q : Exit → S → Hp → Prop) (σ : S) (H : Hp) : Prop :=
  ∃ I : Nat → S → Hp → Prop, (∃ n, I n σ H) ∧ ∀ n σ H, I n σ H → body (thenQ (fun σ' H' => ∃ m, m < n ∧ I m σ' H') Q) σ H

def cev (P : Program) (od : Nat → Nat × List Nat) : Code → (Exit → S → Hp → Prop) → S → Hp → Prop
  | .skip, Q, σ, H => Q .normal σ H
  | .label _, Q, σ, H => Q .normal σ H
  | .region _ ops false, Q, σ, H => regEv P ops (Q .normal) (List.range ops.size) σ H
  | .region id ops true, Q, σ, H => dregB (od id).1 P ops (Q .normal) (od id).2 σ H
  | .seq a b, Q, σ, H => cev P od a (thenQ (cev P od b Q) Q) σ H
  | .cond c x y, Q, σ, H => cnd (evs σ c) (cev P od x Q σ H) (cev P od y Q σ H)
  | .block id c, Q, σ, H => cev P od c (blkQ id Q) σ H
  | .loop c, Q, σ, H => lpE (cev P od c) Q σ H
  | .exit id, Q, σ, H => Q (.exit id) σ H
  | .ret, Q, σ, H => Q .ret σ H
  | .rangeFunc .., _, _, _ | .scope _, _, _, _ | .goto _, _, _, _ | .refuse _, _, _, _ => False

def codeOk (P : Program) (od : Nat → Nat × List Nat) (n : Nat) : Code → Bool
  | .region _ ops false => dstOk n ops
  | .region id ops true => dstOk n ops && drawOkB (od id).1 P ops (od id).2
  | .seq a b => codeOk P od n a && codeOk P od n b
  | .cond _ x y => codeOk P od n x && codeOk P od n y
  | .block _ c => codeOk P od n c
  | .loop c => codeOk P od n c
  | _ => true

/-- 'wp_loop' with a measure that stands in no slot. -/
theorem wp_loop_ghost {P : Program} {Q : Exit → Act → World → Prop} {c : Code} {a : Act} {w : World} (I : Nat → Act → World → Prop) (n : Nat) (h0 : I n a w)
    (round : ∀ n a w, I n a w → c.wp P (Exit.then (fun a' w' => ∃ m, m < n ∧ I m a' w') Q) a w) : (Code.loop c).wp P Q a w := by
  intro b k cs
  have key : ∀ n a w, I n a w → ∃ e a' w', Q e a' w' ∧ Arrives P (lone (b.at a (.code c :: .inLoop c :: k)) cs w) b k cs e a' w' := by
    intro n
    induction n using Nat.strongRecOn with
    | _ n ih =>
      intro a w hI
      obtain ⟨e, a₁, w₁, hq, harr⟩ := round n a w hI b (.inLoop c :: k) cs
      cases e with
      | normal =>
        obtain ⟨m, hlt, hI₁⟩ := hq
        obtain ⟨e₂, a₂, w₂, hq₂, harr₂⟩ := ih m hlt a₁ w₁ hI₁
        exact ⟨e₂, a₂, w₂, hq₂, .of_steps (Steps.trans harr (.one step_inLoop)) harr₂⟩
      | exit id => exact ⟨_, a₁, w₁, hq, .pass (x := .inLoop c) rfl (fun _ _ => .inl (by simp)) harr⟩
      | goto l => exact ⟨_, a₁, w₁, hq, .pass (x := .inLoop c) rfl (fun _ _ => .inl (by simp)) harr⟩
      | ret => exact ⟨_, a₁, w₁, hq, .pass (x := .inLoop c) rfl (fun _ _ => .inl (by simp)) harr⟩
      | panic ch => exact ⟨_, a₁, w₁, hq, .pass (x := .inLoop c) rfl (fun _ _ => .inl (by simp)) harr⟩
      | outgrown => exact ⟨_, a₁, w₁, hq, .pass (x := .inLoop c) rfl (fun _ _ => .inl (by simp)) harr⟩
  obtain ⟨e, a', w', hq, harr⟩ := key n a w h0
  exact ⟨e, a', w', hq, .of_steps (.one step_loop) harr⟩

/-- What is told of the slots and of a partial heap, told of the frame and of the world. -/
def liftQ (H0 : Hp) (w0 : World) (n : Nat) (Q : Exit → S → Hp → Prop) : Exit → Act → World → Prop := fun e a w => ∃ σ H, R n a σ ∧ SubF H0 w0 H w ∧ Q e σ H

theorem cev_sound {P : Program} {od : Nat → Nat × List Nat} {H0 : Hp} {w0 : World} {n : Nat} (hm : P.follows .mixedOrders = true) : ∀ (c : Code), codeOk P od n c = true → ∀ (Q : Exit → S → Hp → Prop) (a : Act) (w : World) (σ : S) (H : Hp),
    R n a σ → SubF H0 w0 H w → cev P od c Q σ H → c.wp P (liftQ H0 w0 n Q) a w := by
  intro c
  induction c with
  | skip => intro _ Q a w σ H hR hs h; exact wp_skip ⟨σ, H, hR, hs, h⟩
  | label l => intro _ Q a w σ H hR hs h; exact wp_label ⟨σ, H, hR, hs, h⟩
  | region id ops draw =>
    intro hok Q a w σ H hR hs h
    cases draw with
    | false =>
      simp only [codeOk] at hok
      exact wp_region (regEv_sound hok (K := Q .normal) (fun a w σ H hR hs hk => ⟨σ, H, hR, hs, hk⟩) _ a w σ H hR hs h)
    | true =>
      simp only [codeOk, Bool.and_eq_true] at hok
      exact draw_wpB hm hok.2 hok.1 (K := Q .normal) (fun a w σ H hR hs hk => ⟨σ, H, hR, hs, hk⟩) hR hs h
  | seq x y ihx ihy =>
    intro hok Q a w σ H hR hs h
    simp only [codeOk, Bool.and_eq_true] at hok
    refine wp_seq (wp_mono (ihx hok.1 _ a w σ H hR hs h) ?_)
    rintro e a' w' ⟨σ', H', hR', hs', hk⟩
    cases e with
    | normal => exact ihy hok.2 Q a' w' σ' H' hR' hs' hk
    | _ => exact ⟨σ', H', hR', hs', hk⟩
  | cond v x y ihx ihy =>
    intro hok Q a w σ H hR hs h
    simp only [codeOk, Bool.and_eq_true] at hok
    simp only [cev, cnd] at h
    split at h
    · rename_i hv; exact wp_cond_true (by rw [hR.eval, hv]) (ihx hok.1 Q a w σ H hR hs h)
    · rename_i hv; exact wp_cond_false (by rw [hR.eval, hv]) (ihy hok.2 Q a w σ H hR hs h)
    · exact h.elim
  | block id c ih =>
    intro hok Q a w σ H hR hs h
    simp only [codeOk] at hok
    refine wp_block (wp_mono (ih hok _ a w σ H hR hs h) ?_)
    rintro e a' w' ⟨σ', H', hR', hs', hk⟩
    cases e with
    | exit id' =>
      simp only [blkQ] at hk
      simp only [Exit.inBlock]
      by_cases hid : id' = id
      · subst hid; simp only [Nat.beq_refl] at hk; rw [if_pos rfl]; exact ⟨σ', H', hR', hs', hk⟩
      · have : Nat.beq id' id = false := by
          rw [← Bool.not_eq_true]; intro hh; exact hid (Nat.eq_of_beq_eq_true hh)
        simp only [this] at hk; rw [if_neg hid]; exact ⟨σ', H', hR', hs', hk⟩
    | _ => exact ⟨σ', H', hR', hs', hk⟩
  | loop c ih =>
    intro hok Q a w σ H hR hs h
    simp only [codeOk] at hok
    obtain ⟨I, ⟨m, h0⟩, hr⟩ := h
    refine wp_loop_ghost (fun k a w => ∃ σ H, R n a σ ∧ SubF H0 w0 H w ∧ I k σ H) m ⟨σ, H, hR, hs, h0⟩ ?_
    rintro k a' w' ⟨σ', H', hR', hs', hI⟩
    refine wp_mono (ih hok _ a' w' σ' H' hR' hs' (hr k σ' H' hI)) ?_
    rintro e a'' w'' ⟨σ'', H'', hR'', hs'', hk⟩
    cases e with
    | normal => obtain ⟨j, hj, hI'⟩ := hk; exact ⟨j, hj, σ'', H'', hR'', hs'', hI'⟩
    | _ => exact ⟨σ'', H'', hR'', hs'', hk⟩
  | exit id => intro _ Q a w σ H hR hs h; exact wp_exit ⟨σ, H, hR, hs, h⟩
  | ret => intro _ Q a w σ H hR hs h; exact wp_ret ⟨σ, H, hR, hs, h⟩
  | rangeFunc f ps as b ih1 ih2 => intro _ Q a w σ H hR hs h; exact h.elim
  | scope c ih => intro _ Q a w σ H hR hs h; exact h.elim
  | goto l => intro _ Q a w σ H hR hs h; exact h.elim
  | refuse s => intro _ Q a w σ H hR hs h; exact h.elim

def resL (P : Program) (σ : S) (H : Hp) : List ResultVar → Option (List Value)
  | [] => some []
  | .tmp t :: r =>
    match resL P σ H r with
    | some l => some (σ t :: l)
    | none => none
  | .cell a t :: r =>
    match aggB P t with
    | some false =>
      (match vLoad (σ a) H, resL P σ H r with
      | some v, some l => some (v :: l)
      | _, _ => none)
    | some true =>
      (match szO P t with
      | some n => (match vLoadN n (σ a) H, resL P σ H r with
        | some v, some l => some (v :: l)
        | _, _ => none)
      | none => none)
    | none => none
def resV : List Value → Value
  | [v] => v
  | l => .tuple l.toArray
/-- The results, one behind the other. -/
def resK (P : Program) (σ : S) (H : Hp) : List ResultVar → (List Value → Prop) → Prop
  | [], k => k []
  | .tmp t :: r, k => resK P σ H r (fun l => k (σ t :: l))
  | .cell a t :: r, k =>
    match aggB P t with
    | some false => ob (vLoad (σ a) H) (fun v => resK P σ H r (fun l => k (v :: l)))
    | some true =>
      (match szO P t with
      | some n => ob (vLoadN n (σ a) H) (fun v => resK P σ H r (fun l => k (v :: l)))
      | none => False)
    | none => False
theorem resK_ex {P : Program} {σ : S} {H : Hp} : ∀ {rs : List ResultVar} {k : List Value → Prop}, resK P σ H rs k → ∃ l, resL P σ H rs = some l ∧ k l
  | [], k, h => ⟨[], rfl, h⟩
  | .tmp t :: r, k, h => by
    obtain ⟨l, hl, hk⟩ := resK_ex (rs := r) h
    exact ⟨σ t :: l, by simp only [resL, hl], hk⟩
  | .cell a t :: r, k, h => by
    simp only [resK] at h
    cases ht : aggB P t with
    | none => simp only [ht] at h
    | some b =>
      cases b with
      | false =>
        simp only [ht] at h
        obtain ⟨v, hv, h2⟩ := ob_ex h
        obtain ⟨l, hl, hk⟩ := resK_ex (rs := r) h2
        exact ⟨v :: l, by simp only [resL, ht, hv, hl], hk⟩
      | true =>
        simp only [ht] at h
        cases hn : szO P t with
        | none => simp only [hn] at h
        | some n =>
          simp only [hn] at h
          obtain ⟨v, hv, h2⟩ := ob_ex h
          obtain ⟨l, hl, hk⟩ := resK_ex (rs := r) h2
          exact ⟨v :: l, by simp only [resL, ht, hn, hv, hl], hk⟩
/-- What a call hands back. -/
def retQ (P : Program) (rs : List ResultVar) (K : Value → Hp → Prop) : Exit → S → Hp → Prop
  | .normal, σ, H => resK P σ H rs (fun l => K (resV l) H)
  | .ret, σ, H => resK P σ H rs (fun l => K (resV l) H)
  | _, _, _ => False

def resF (σ : S) : ResultVar → Sem Value
  | .tmp t => pure (σ t)
  | .cell a t => do loadVar t (← asAddr (σ a))
theorem val_cons (P : Program) (H : Hp) (σ : S) (x : ResultVar) (r : List ResultVar) (v : Value) (l : List Value) (h1 : val P (resF σ x) H = some v) (h2 : val P (r.mapM (resF σ)) H = some l) :
    val P ((x :: r).mapM (resF σ)) H = some (v :: l) := by
  rw [List.mapM_cons, val_bind', h1, Option.bind_some, val_bind', h2, Option.bind_some, val_pure]

theorem val_results (P : Program) (H : Hp) (σ : S) : ∀ (rs : List ResultVar) (l : List Value), resL P σ H rs = some l → val P (rs.mapM (resF σ)) H = some l
  | [], l, h => by simp only [resL, Option.some.injEq] at h; subst h; rfl
  | .tmp t :: r, l, h => by
    simp only [resL] at h
    cases hr : resL P σ H r with
    | none => simp [hr] at h
    | some l' =>
      simp only [hr, Option.some.injEq] at h
      subst h
      exact val_cons P H σ _ r _ l' rfl (val_results P H σ r l' hr)
  | .cell a t :: r, l, h => by
    simp only [resL] at h
    cases ht : aggB P t with
    | none => simp [ht] at h
    | some b =>
      cases hr : resL P σ H r with
      | none =>
        cases b with
        | false => simp only [ht, hr] at h; split at h <;> simp_all
        | true => simp only [ht, hr] at h; split at h <;> (try split at h) <;> simp_all
      | some l' =>
        cases b with
        | false =>
          simp only [ht, hr] at h
          cases hv : vLoad (σ a) H with
          | none => simp [hv] at h
          | some v =>
            simp only [hv, Option.some.injEq] at h
            subst h
            refine val_cons P H σ _ r _ l' ?_ (val_results P H σ r l' hr)
            unfold vLoad at hv
            split at hv
            · rename_i ad hs
              simp only [resF, hs, asAddr, val_bind', val_pure, Option.bind_some, loadVar, val_isAgg, ht, Bool.false_eq_true, if_false, load, val, hv]
            · simp at hv
        | true =>
          simp only [ht, hr] at h
          cases hn : szO P t with
          | none => simp [hn] at h
          | some n =>
            simp only [hn] at h
            cases hv : vLoadN n (σ a) H with
            | none => simp [hv] at h
            | some v =>
              simp only [hv, Option.some.injEq] at h
              subst h
              refine val_cons P H σ _ r _ l' ?_ (val_results P H σ r l' hr)
              unfold vLoadN at hv
              split at hv
              · rename_i ad hs
                cases hc : rdCells H ad 0 n with
                | none => simp [hc] at hv
                | some cs =>
                  simp only [hc, Option.map_some, Option.some.injEq] at hv
                  subst hv
                  simp only [resF, hs, asAddr, val_bind', val_pure, Option.bind_some, loadVar, val_isAgg, ht, if_true, val_sizeOf, hn, val_loadCells P H ad n cs hc]
              · simp at hv

theorem resV_eq (l : List Value) : (if h : l.toArray.size = 1 then l.toArray[0] else Value.tuple l.toArray) = resV l := by
  match l with
  | [] => rfl
  | [v] => rfl
  | a :: b :: r => simp [resV]

theorem results_run {P : Program} {fn : Func} {n : Nat} {a : Act} {w : World} {σ : S} {H : Hp} (hR : R n a σ) (hs : Sub H w) {l : List Value} (h : resL P σ H fn.results.toList = some l) :
    (results fn a.tmps).run P w = .ok (resV l) w := by
  refine val_run P _ H _ w ?_ hs
  have e0 : results fn a.tmps = (do let vs ← fn.results.mapM (resF σ); pure (if h : vs.size = 1 then vs[0] else .tuple vs)) := by
    unfold results
    congr 1
    congr 1
    funext x
    cases x with
    | tmp t => simp only [resF, hR.at_]
    | cell a t => simp only [resF, hR.at_]
  rw [e0, Array.mapM_eq_mapM_toList, ← resV_eq]
  have e := val_results P H σ fn.results.toList l h
  change val P (Sem.bind (Sem.bind (fn.results.toList.mapM (resF σ)) fun x => Sem.pure x.toArray) _) H = _
  rw [val_bind, val_bind, e]
  rfl

/-- A call, by its function's text. -/
theorem HT_of_cev {P : Program} {od : Nat → Nat × List Nat} {f : FuncId} {fn : Func} {c : Code} {args : List Value} {H : Hp} {K : Value → Hp → Prop} (hm : P.follows .mixedOrders = true) (hf : P.funcs[f]? = some fn) (hb : fn.body = some c)
    (hok : codeOk P od fn.ntmps c = true) (ha : args.length ≤ fn.ntmps) (h : cev P od c (retQ P fn.results.toList K) (S0 args) H) : HT P f args.toArray H K := by
  intro w hs
  refine calls_of_wp hf hb ?_
  have hR : R fn.ntmps { tmps := args.toArray ++ Array.replicate (fn.ntmps - args.toArray.size) undef, defers := [] } (S0 args) := by
    refine ⟨rfl, by simp; omega, fun t => ?_⟩
    simp only [S0, Array.getD_eq_getD_getElem?]
    rcases Nat.lt_or_ge t args.length with h1 | h1
    · rw [Array.getElem?_append_left (by simpa using h1)]; simp
    · rw [Array.getElem?_append_right (by simpa using h1), List.getElem?_eq_none h1]
      simp only [List.size_toArray, Array.getElem?_replicate, Option.getD_none]
      split <;> rfl
  refine wp_mono (cev_sound (H0 := H) (w0 := w) hm c hok _ _ w (S0 args) H hR ⟨hs, Fr.refl H w⟩ h) ?_
  rintro e a' w' ⟨σ', H', hR', hs', hk⟩
  cases e <;> simp only [retQ] at hk <;> try exact hk.elim
  all_goals
    obtain ⟨l, hl, hk⟩ := resK_ex hk
    exact ⟨hR'.defers, resV l, results_run hR' hs'.1 hl, resV l, H', rfl, hs'.1, hs'.2, hk⟩
end Go.Proofs.Ytejbicikffhggaa.HL
namespace Go.Proofs.Ytejbicikffhggaa.HL
/-- A function's text. -/
def fev (P : Program) (od : Nat → Nat × List Nat) (fn : Func) (args : List Value) (H : Hp) (K : Value → Hp → Prop) : Prop :=
  match fn.body with
  | some c => cev P od c (retQ P fn.results.toList K) (S0 args) H
  | none => False
def fnOk (P : Program) (od : Nat → Nat × List Nat) (fn : Func) (k : Nat) : Bool :=
  match fn.body with
  | some c => codeOk P od fn.ntmps c && Nat.ble k fn.ntmps
  | none => false
theorem HT_of_fev {P : Program} (od : Nat → Nat × List Nat) {f : FuncId} {fn : Func} {args : List Value} {H : Hp} {K : Value → Hp → Prop} (hm : P.follows .mixedOrders = true) (hf : P.funcs[f]? = some fn)
    (hok : fnOk P od fn args.length = true) (h : fev P od fn args H K) : HT P f args.toArray H K := by
  unfold fnOk at hok
  unfold fev at h
  cases hb : fn.body with
  | none => simp [hb] at hok
  | some c =>
    simp only [hb, Bool.and_eq_true] at hok h
    exact HT_of_cev hm hf hb hok.1 (Nat.le_of_ble_eq_true hok.2) h
/-- One continuation for several ways. -/
def jn (K : S → Hp → Prop) (F : (S → Hp → Prop) → Prop) : Prop := F K
end Go.Proofs.Ytejbicikffhggaa.HL
