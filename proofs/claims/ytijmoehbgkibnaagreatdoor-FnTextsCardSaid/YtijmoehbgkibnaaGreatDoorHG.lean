/- A region that draws its order: one order serves for all. -/
import Derived.Test.YtijmoehbgkibnaaGreatDoorHF
namespace Go.Proofs.YtijmoehbgkibnaaGreatDoor.HL

def opEvD (le : Nat) (P : Program) (o : Oper) (σ : S) (H : Hp) (K : Value → Hp → Prop) : Prop :=
  match clsOf le P o with
  | .e => opEv P o σ H (fun v H' => Le H H' ∧ K v H')
  | _ => opEv P o σ H K
def dreg (le : Nat) (P : Program) (ops : Array Oper) (K : S → Hp → Prop) : List Nat → S → Hp → Prop
  | [], σ, H => K σ H
  | i :: r, σ, H =>
    match ops[i]? with
    | none => dreg le P ops K r σ H
    | some o =>
      match o.guard with
      | none => opEvD le P o σ H (fun v H' => dreg le P ops K r (upo σ o.dst v) H')
      | some (j, b) => gop (gdv ops σ j) b (fun K' => opEvD le P o σ H K') H (fun v H' => dreg le P ops K r (upo σ o.dst v) H')

def tOp (le : Nat) (P : Program) (o : Oper) (σ : S) (H : Hp) (K : Value → Hp → Prop) : Prop :=
  match clsOf le P o with
  | .d => ∃ u, dval P o σ H = some u ∧ K u H
  | .n => nEv (nOut P o σ) (fun u => K u H)
  | .a => aEv (aOut P o σ) H K
  | .e => mEv P o σ H (fun v H' => Le H H' ∧ K v H')
  | .s => mEv P o σ H K

theorem isD_of {le : Nat} {P : Program} {o : Oper} (h : clsOf le P o = .d) : isD P o = true := by
  unfold clsOf at h
  cases hd : isD P o with
  | true => rfl
  | false =>
    simp only [hd] at h
    split at h <;> try (simp at h; done)
    · split at h <;> simp at h
    · split at h <;> simp at h
    · split at h <;> simp at h

theorem tOp_of {le : Nat} {P : Program} {o : Oper} {σ : S} {H : Hp} {K : Value → Hp → Prop} (h : opEvD le P o σ H K) : tOp le P o σ H K := by
  unfold opEvD at h
  unfold tOp
  cases hc : clsOf le P o with
  | d =>
    simp only [hc] at h ⊢
    unfold opEv at h
    simp only [isD_of hc] at h
    exact opD_ex h
  | n => simp only [hc] at h ⊢; exact nEv_of hc h
  | a => simp only [hc] at h ⊢; exact (aEv_iff hc).mp h
  | e => simp only [hc] at h ⊢; exact opEv_sound P o σ H _ h
  | s => simp only [hc] at h ⊢; exact opEv_sound P o σ H _ h
theorem tOp_mEv {le : Nat} {P : Program} {o : Oper} {σ : S} {H : Hp} {K : Value → Hp → Prop} (h : tOp le P o σ H K) : mEv P o σ H K := by
  unfold tOp at h
  cases hc : clsOf le P o with
  | d =>
    simp only [hc] at h
    obtain ⟨u, hu, hk⟩ := h
    exact hp_of_val P _ H _ _ (dval_val P o σ H u (isD_of hc) hu) hk
  | n => simp only [hc] at h; exact opEv_sound P o σ H _ (nEv_to hc h)
  | a => simp only [hc] at h; exact opEv_sound P o σ H _ ((aEv_iff hc).mpr h)
  | e => simp only [hc] at h; exact mEv_mono (fun _ _ hk => hk.2) h
  | s => simp only [hc] at h; exact h
theorem nEv_mono {O : Option (Value → Prop)} {K K' : Value → Prop} (hk : ∀ v, K v → K' v) (h : nEv O K) : nEv O K' := by
  cases O with
  | none => exact h
  | some O => exact fun u hu => hk _ (h u hu)
theorem tOp_mono {le : Nat} {P : Program} {o : Oper} {σ : S} {H : Hp} {K K' : Value → Hp → Prop} (hk : ∀ v H', K v H' → K' v H') (h : tOp le P o σ H K) : tOp le P o σ H K' := by
  unfold tOp at h ⊢
  cases hc : clsOf le P o with
  | d => simp only [hc] at h ⊢; obtain ⟨u, hu, hh⟩ := h; exact ⟨u, hu, hk _ _ hh⟩
  | n => simp only [hc] at h ⊢; exact nEv_mono (fun _ hh => hk _ _ hh) h
  | a => simp only [hc] at h ⊢; exact aEv_mono hk h
  | e => simp only [hc] at h ⊢; exact mEv_mono (fun _ _ hh => ⟨hh.1, hk _ _ hh.2⟩) h
  | s => simp only [hc] at h ⊢; exact mEv_mono hk h
theorem tOp_fn {le : Nat} {P : Program} {o : Oper} {σ : S} {H : Hp} {K : Value → Hp → Prop} (hf : Fn H) (h : tOp le P o σ H K) : tOp le P o σ H (fun v H' => Fn H' ∧ K v H') := by
  unfold tOp at h ⊢
  cases hc : clsOf le P o with
  | d => simp only [hc] at h ⊢; obtain ⟨u, hu, hh⟩ := h; exact ⟨u, hu, hf, hh⟩
  | n => simp only [hc] at h ⊢; exact nEv_mono (fun _ hh => ⟨hf, hh⟩) h
  | a => simp only [hc] at h ⊢; exact aEv_fn hf h
  | e => simp only [hc] at h ⊢; exact mEv_mono (fun _ _ hh => ⟨hh.2.1, hh.1, hh.2.2⟩) (mEv_fn hf h)
  | s => simp only [hc] at h ⊢; exact mEv_fn hf h

theorem dval_congr {P : Program} {o : Oper} {σ σ' : S} {H : Hp} (h : ∀ x ∈ o.op.operands, evs σ x = evs σ' x) : dval P o σ H = dval P o σ' H := by
  obtain ⟨dst, op, type, pos, after, guard⟩ := o
  cases op <;> simp only [Op.operands] at h <;> simp only [dval]
  case move x => rw [h x (by simp)]
  case assign x => rw [h x (by simp)]
  case pick c a b => rw [h c (by simp), h a (by simp), h b (by simp)]
  case load t a => rw [h a (by simp)]
  case unOp op t x => rw [h x (by simp)]
  case fieldAddr s x i => rw [h x (by simp)]
  case field t x i => rw [h x (by simp)]
  case indexAddr t x i => rw [h x (by simp), h i (by simp)]
  case index t x i => rw [h x (by simp), h i (by simp)]
  case slice t x lo hi mx =>
    have e1 : lo.map (evs σ) = lo.map (evs σ') := by cases lo with | none => rfl | some y => simp only [Option.map_some]; rw [h y (by simp)]
    have e2 : hi.map (evs σ) = hi.map (evs σ') := by cases hi with | none => rfl | some y => simp only [Option.map_some]; rw [h y (by simp)]
    have e3 : mx.map (evs σ) = mx.map (evs σ') := by cases mx with | none => rfl | some y => simp only [Option.map_some]; rw [h y (by simp)]
    rw [h x (by simp), e1, e2, e3]
  case extract x i => rw [h x (by simp)]
  case nilCheck x => rw [h x (by simp)]
  case makeFunc fn first captured =>
    have e1 : first.toList.map (evs σ) = first.toList.map (evs σ') := List.map_congr_left fun x hx => h x (by simp at hx ⊢; exact .inl hx)
    have e2 : captured.toList.map (evs σ) = captured.toList.map (evs σ') := List.map_congr_left fun x hx => h x (by simp at hx ⊢; exact .inr hx)
    rw [e1, e2]
  case makeInterface t x => rw [h x (by simp)]
  case build t parts =>
    have e1 : (parts.toList.map fun p => (p.1, evs σ p.2)) = (parts.toList.map fun p => (p.1, evs σ' p.2)) :=
      List.map_congr_left fun p hp => by rw [h p.2 (by simp; exact ⟨p.1, by simpa using hp⟩)]
    rw [e1]
  case binOp op t x y yt => rw [h x (by simp), h y (by simp)]
  case convert s d x => rw [h x (by simp)]
  case call c =>
    obtain ⟨callee, args, argTypes⟩ := c
    cases callee <;> (try rfl)
    rename_i b
    have e1 : args.toList.map (evs σ) = args.toList.map (evs σ') := List.map_congr_left fun x hx => h x (by simp [Call.operands]; simpa using hx)
    cases b <;> (try rfl)
    case len =>
      simp only
      cases ht : argTypes[0]? with
      | none => rfl
      | some t =>
        cases hx : args[0]? with
        | none => rfl
        | some x =>
          have hm : x ∈ args := Array.mem_of_getElem? hx
          simp only
          rw [h x (by simp [Call.operands]; exact hm), e1]
    case cap =>
      simp only
      cases hx : args[0]? with
      | none => rfl
      | some x =>
        have hm : x ∈ args := Array.mem_of_getElem? hx
        simp only
        rw [h x (by simp [Call.operands]; exact hm)]
    case max => simp only [e1]
    case min => simp only [e1]

theorem nOut_congr {P : Program} {o : Oper} {σ σ' : S} (h : ∀ x ∈ o.op.operands, evs σ x = evs σ' x) : nOut P o σ = nOut P o σ' := by
  obtain ⟨dst, op, type, pos, after, guard⟩ := o
  cases op <;> simp only [Op.operands] at h <;> simp only [nOut]
  case binOp op t x y yt => rw [h x (by simp), h y (by simp)]
  case convert s d x => rw [h x (by simp)]

theorem aOut_congr {P : Program} {o : Oper} {σ σ' : S} (h : ∀ x ∈ o.op.operands, evs σ x = evs σ' x) : aOut P o σ = aOut P o σ' := by
  obtain ⟨dst, op, type, pos, after, guard⟩ := o
  unfold aOut
  cases op <;> simp only [Op.operands] at h <;> try rfl
  case box e x => simp only; rw [h x (by simp)]
  case buildSlice t len parts =>
    simp only
    have : (parts.toList.map fun p => (p.1, evs σ p.2)) = (parts.toList.map fun p => (p.1, evs σ' p.2)) := by
      apply List.map_congr_left
      intro p hp
      rw [h p.2 (by simp; exact ⟨p.1, by simpa using hp⟩)]
    rw [this]
  case makeSlice t l c => simp only; rw [h l (by simp), h c (by simp)]
  case makeMap t r => cases r <;> rfl

theorem tOp_congr {le : Nat} {P : Program} {o : Oper} {σ σ' : S} {H : Hp} {K : Value → Hp → Prop} (hs : ∀ cs b, o.op ≠ .select cs b) (h : ∀ x ∈ o.op.operands, evs σ x = evs σ' x)
    (ht : tOp le P o σ H K) : tOp le P o σ' H K := by
  unfold tOp at ht ⊢
  unfold mEv at ht ⊢
  rw [← dval_congr h, ← nOut_congr h, ← aOut_congr h, ← execOp_congr o hs h]
  exact ht

theorem evs_upo {σ : S} {d : Option Tmp} {v : Value} {x : Operand} (h : ∀ t, d = some t → x ≠ .tmp t) : evs (upo σ d v) x = evs σ x := by
  cases d with
  | none => rfl
  | some t =>
    cases x with
    | tmp u => simp only [evs, upo, up_apply]; rw [if_neg]; intro e; exact h t rfl (by rw [e])
    | _ => rfl
theorem upo_comm (σ : S) {x y : Option Tmp} (u v : Value) (h : ∀ d, x = some d → y ≠ some d) : upo (upo σ x u) y v = upo (upo σ y v) x u := by
  cases x with
  | none => rfl
  | some d =>
    cases y with
    | none => rfl
    | some e =>
      have hne : d ≠ e := fun he => h d rfl (he ▸ rfl)
      funext z
      simp only [upo, up_apply]
      by_cases h1 : z = e
      · subst h1; rw [if_pos rfl, if_neg (Ne.symm hne), if_pos rfl]
      · by_cases h2 : z = d
        · subst h2; rw [if_neg h1, if_pos rfl, if_pos rfl]
        · simp [h1, h2]

def gS (ops : Array Oper) (σ : S) (o : Oper) : Bool :=
  match o.guard with
  | none => true
  | some (j, b) => gOk (gdv ops σ j) b
theorem gS_upo {ops : Array Oper} {σ : S} {o : Oper} {d : Option Tmp} {v : Value} (h : ∀ t, d = some t → t ∉ o.looksAt ops) : gS ops (upo σ d v) o = gS ops σ o := by
  unfold gS
  cases hg : o.guard with
  | none => rfl
  | some g =>
    obtain ⟨j, b⟩ := g
    simp only
    congr 1
    unfold gdv
    cases hj : ops[j]? with
    | none => rfl
    | some oj =>
      simp only
      cases hdj : oj.dst with
      | none => rfl
      | some t =>
        simp only
        cases d with
        | none => rfl
        | some z =>
          simp only [upo, up_apply]
          rw [if_neg]
          intro e
          refine h z rfl ?_
          unfold Oper.looksAt
          simp [hg, hj, hdj, e]
theorem looks_operands {ops : Array Oper} {o : Oper} {d : Option Tmp} (h : ∀ t, d = some t → t ∉ o.looksAt ops) {σ : S} {v : Value} : ∀ x ∈ o.op.operands, evs (upo σ d v) x = evs σ x := by
  intro x hx
  refine evs_upo fun t ht e => h t ht ?_
  unfold Oper.looksAt
  simp only [List.mem_append, List.mem_filterMap]
  exact .inl ⟨x, by simpa using hx, by rw [e]⟩

def tst (le : Nat) (P : Program) (ops : Array Oper) (K : S → Hp → Prop) (i : Nat) (σ : S) (H : Hp) : Prop :=
  match ops[i]? with
  | none => K σ H
  | some o =>
    match gS ops σ o with
    | true => tOp le P o σ H (fun v H' => K (upo σ o.dst v) H')
    | false => K (upo σ o.dst undef) H
def treg (le : Nat) (P : Program) (ops : Array Oper) (K : S → Hp → Prop) : List Nat → S → Hp → Prop
  | [], σ, H => K σ H
  | i :: r, σ, H => tst le P ops (treg le P ops K r) i σ H

theorem treg_of {le : Nat} {P : Program} {ops : Array Oper} {K : S → Hp → Prop} : ∀ (l : List Nat) (σ : S) (H : Hp), dreg le P ops K l σ H → treg le P ops K l σ H
  | [], _, _, h => h
  | i :: r, σ, H, h => by
    simp only [dreg] at h
    simp only [treg, tst]
    cases ho : ops[i]? with
    | none => simp only [ho] at h ⊢; exact treg_of r σ H h
    | some o =>
      simp only [ho] at h ⊢
      unfold gS
      cases hg : o.guard with
      | none => simp only [hg] at h ⊢; exact tOp_mono (fun v H' hh => treg_of r _ _ hh) (tOp_of h)
      | some g =>
        obtain ⟨j, b⟩ := g
        simp only [hg] at h ⊢
        cases hw : gOk (gdv ops σ j) b with
        | true => exact tOp_mono (fun v H' hh => treg_of r _ _ hh) (tOp_of (gop_true h hw))
        | false => exact treg_of r _ _ (gop_false h hw)

theorem tst_mono {le : Nat} {P : Program} {ops : Array Oper} {K K' : S → Hp → Prop} {i : Nat} {σ : S} {H : Hp} (hk : ∀ σ H, K σ H → K' σ H) (h : tst le P ops K i σ H) : tst le P ops K' i σ H := by
  unfold tst at h ⊢
  cases ho : ops[i]? with
  | none => simp only [ho] at h ⊢; exact hk _ _ h
  | some o =>
    simp only [ho] at h ⊢
    cases hw : gS ops σ o with
    | true => simp only [hw] at h ⊢; exact tOp_mono (fun v H' hh => hk _ _ hh) h
    | false => simp only [hw] at h ⊢; exact hk _ _ h
theorem tst_fn {le : Nat} {P : Program} {ops : Array Oper} {K : S → Hp → Prop} {i : Nat} {σ : S} {H : Hp} (hf : Fn H) (h : tst le P ops K i σ H) : tst le P ops (fun σ H => Fn H ∧ K σ H) i σ H := by
  unfold tst at h ⊢
  cases ho : ops[i]? with
  | none => simp only [ho] at h ⊢; exact ⟨hf, h⟩
  | some o =>
    simp only [ho] at h ⊢
    cases hw : gS ops σ o with
    | true => simp only [hw] at h ⊢; exact tOp_fn hf h
    | false => simp only [hw] at h ⊢; exact ⟨hf, h⟩

/-- May x and y change places (x ahead of y)? -/
def legal (le : Nat) (P : Program) (x y : Oper) : Bool :=
  match clsOf le P x, clsOf le P y with
  | _, .n => true
  | .d, .d => true
  | .n, .d => true
  | .a, .d => looksD P y
  | _, .a => true
  | .d, .e => true
  | .e, .d => pureD P y
  | .s, .d => pureD P y
  | .d, .s => pureD P x
  | _, _ => false

theorem tOp_swap {le : Nat} {P : Program} {x y : Oper} {σ : S} {H : Hp} {K : Value → Value → Hp → Prop} (hf : Fn H) (hl : legal le P x y = true)
    (h : tOp le P x σ H (fun u H' => tOp le P y σ H' (K u))) : tOp le P y σ H (fun v H' => tOp le P x σ H' (fun u H'' => K u v H'')) := by
  unfold legal at hl
  have hN : clsOf le P y = .n → tOp le P y σ H (fun v H' => tOp le P x σ H' (fun u H'' => K u v H'')) := by
    intro hy
    have ht : ∀ u H', tOp le P y σ H' (K u) = nEv (nOut P y σ) (fun v => K u v H') := fun u H' => by unfold tOp; simp only [hy]
    simp only [ht] at h
    obtain ⟨O, hO⟩ : ∃ O, nOut P y σ = some O := by
      obtain ⟨u, H', hh⟩ := mEv_ex hf (tOp_mEv h)
      cases ho : nOut P y σ with
      | none => rw [ho] at hh; exact hh.elim
      | some O => exact ⟨O, rfl⟩
    unfold tOp
    simp only [hy, hO, nEv]
    intro v hv
    refine tOp_mono ?_ h
    intro u H' hh
    rw [hO] at hh
    exact hh v hv
  have hP : clsOf le P y = .d → pureD P y = true → tOp le P y σ H (fun v H' => tOp le P x σ H' (fun u H'' => K u v H'')) := by
    intro hy hp
    have ht : ∀ u H', tOp le P y σ H' (K u) = ∃ v, dval P y σ H' = some v ∧ K u v H' := fun u H' => by unfold tOp; simp only [hy]
    simp only [ht] at h
    obtain ⟨v0, hv0⟩ : ∃ v, dval P y σ H = some v := by
      obtain ⟨u, H', v, hv, _⟩ := mEv_ex hf (tOp_mEv h)
      exact ⟨v, by rw [pureD_val hp H H']; exact hv⟩
    unfold tOp
    simp only [hy]
    refine ⟨v0, hv0, ?_⟩
    refine tOp_mono ?_ h
    rintro u H' ⟨v, hv, hk⟩
    rw [pureD_val hp H' H, hv0] at hv
    cases hv
    exact hk
  have hA : clsOf le P y = .a → tOp le P y σ H (fun v H' => tOp le P x σ H' (fun u H'' => K u v H'')) := by
    intro hy
    have ht : ∀ u H', tOp le P y σ H' (K u) = aEv (aOut P y σ) H' (K u) := fun u H' => by unfold tOp; simp only [hy]
    simp only [ht] at h
    obtain ⟨⟨mk, o⟩, hO⟩ : ∃ O, aOut P y σ = some O := by
      obtain ⟨u, H', hh⟩ := mEv_ex hf (tOp_mEv h)
      cases ho : aOut P y σ with
      | none => rw [ho] at hh; exact hh.elim
      | some O => exact ⟨O, rfl⟩
    simp only [hO, aEv] at h
    have hgoal : (∀ r, H r = none → tOp le P x σ (H.put r o) (fun u H'' => K u (mk r) H'')) → tOp le P y σ H (fun v H' => tOp le P x σ H' (fun u H'' => K u v H'')) := by
      intro hg
      unfold tOp
      simp only [hy, hO, aEv]
      intro r hr
      have := hg r hr
      unfold tOp at this
      exact this
    refine hgoal ?_
    intro r hr
    unfold tOp at h ⊢
    cases hx : clsOf le P x with
    | d => simp only [hx] at h ⊢; obtain ⟨u, hu, hh⟩ := h; exact ⟨u, dval_le (Le.put o hr) hu, hh r hr⟩
    | n => simp only [hx] at h ⊢; exact nEv_mono (fun u hh => hh r hr) h
    | a =>
      simp only [hx] at h ⊢
      cases hox : aOut P x σ with
      | none => rw [hox] at h; exact h.elim
      | some X =>
        obtain ⟨mk1, o1⟩ := X
        simp only [hox, aEv] at h ⊢
        intro r1 hr1
        have hne : r1 ≠ r := by rintro rfl; rw [Hp.put_same] at hr1; exact absurd hr1 (by simp)
        rw [Hp.put_ne _ _ hne] at hr1
        rw [Hp.put_comm _ _ _ (Ne.symm hne)]
        exact h r1 hr1 r (by rw [Hp.put_ne _ _ (Ne.symm hne)]; exact hr)
    | e =>
      simp only [hx] at h ⊢
      refine mEv_mono ?_ (mEv_frame o h hr)
      rintro u H'' ⟨H', ⟨hle, hk⟩, hrn, rfl⟩
      refine ⟨?_, hk r hrn⟩
      intro b ob hb
      by_cases e1 : b = r
      · subst e1; rw [Hp.put_same] at hb ⊢; exact hb
      · rw [Hp.put_ne _ _ e1] at hb ⊢; exact hle b ob hb
    | s =>
      simp only [hx] at h ⊢
      refine mEv_mono ?_ (mEv_frame o h hr)
      rintro u H'' ⟨H', hk, hrn, rfl⟩
      exact hk r hrn
  cases hx : clsOf le P x <;> cases hy : clsOf le P y <;> simp only [hx, hy] at hl <;> try (simp at hl; done)
  case a.d =>
    have ht : ∀ u H', tOp le P y σ H' (K u) = ∃ v, dval P y σ H' = some v ∧ K u v H' := fun u H' => by unfold tOp; simp only [hy]
    simp only [ht] at h
    unfold tOp at h ⊢
    simp only [hx, hy] at h ⊢
    cases hox : aOut P x σ with
    | none => rw [hox] at h; exact h.elim
    | some X =>
      obtain ⟨mk1, o1⟩ := X
      simp only [hox, aEv] at h ⊢
      obtain ⟨v0, hv0⟩ := looksD_anti (σ := σ) (o := o1) hl hf (fun r hr => by obtain ⟨u, hu, _⟩ := h r hr; exact ⟨u, hu⟩)
      refine ⟨v0, hv0, ?_⟩
      intro r hr
      obtain ⟨v, hv, hk⟩ := h r hr
      rw [dval_le (Le.put o1 hr) hv0] at hv
      cases hv
      exact hk
  case d.d =>
    have ht : ∀ u H', tOp le P y σ H' (K u) = ∃ v, dval P y σ H' = some v ∧ K u v H' := fun u H' => by unfold tOp; simp only [hy]
    simp only [ht] at h
    unfold tOp at h ⊢
    simp only [hx, hy] at h ⊢
    obtain ⟨u, hu, v, hv, hk⟩ := h
    exact ⟨v, hv, u, hu, hk⟩
  case d.s =>
    unfold tOp at h
    simp only [hx] at h
    obtain ⟨u, hu, hk⟩ := h
    refine tOp_mono ?_ hk
    intro v H' hh
    unfold tOp
    simp only [hx]
    exact ⟨u, by rw [pureD_val hl H' H]; exact hu, hh⟩
  case d.e =>
    have ht : ∀ u H', tOp le P y σ H' (K u) = mEv P y σ H' (fun v H'' => Le H' H'' ∧ K u v H'') := fun u H' => by unfold tOp; simp only [hy]
    simp only [ht] at h
    unfold tOp at h ⊢
    simp only [hx, hy] at h ⊢
    obtain ⟨u, hu, hh⟩ := h
    refine mEv_mono ?_ hh
    rintro v H' ⟨hle, hk⟩
    exact ⟨hle, u, dval_le hle hu, hk⟩
  case n.d =>
    have ht : ∀ u H', tOp le P y σ H' (K u) = ∃ v, dval P y σ H' = some v ∧ K u v H' := fun u H' => by unfold tOp; simp only [hy]
    simp only [ht] at h
    unfold tOp at h ⊢
    simp only [hx, hy] at h ⊢
    cases ho : nOut P x σ with
    | none => rw [ho] at h; exact h.elim
    | some O =>
      rw [ho] at h
      obtain ⟨u0, hu0⟩ := nOut_ne ho
      obtain ⟨v0, hv0, _⟩ := h u0 hu0
      refine ⟨v0, hv0, ?_⟩
      intro u hu
      obtain ⟨v, hv, hk⟩ := h u hu
      rw [hv0] at hv
      cases hv
      exact hk
  case d.a => exact hA hy
  case n.a => exact hA hy
  case a.a => exact hA hy
  case e.a => exact hA hy
  case s.a => exact hA hy
  case a.n => exact hN hy
  case d.n => exact hN hy
  case n.n => exact hN hy
  case e.n => exact hN hy
  case s.n => exact hN hy
  case e.d => exact hP hy hl
  case s.d => exact hP hy hl

theorem tst_swap {le : Nat} {P : Program} {ops : Array Oper} {K : S → Hp → Prop} {x y : Nat} {ox oy : Oper} {σ : S} {H : Hp} (hox : ops[x]? = some ox) (hoy : ops[y]? = some oy)
    (hsx : ∀ cs b, ox.op ≠ .select cs b) (hsy : ∀ cs b, oy.op ≠ .select cs b)
    (hap : ox.apart ops oy = true) (hl : legal le P ox oy = true) (hf : Fn H) (h : tst le P ops (tst le P ops K y) x σ H) : tst le P ops (tst le P ops K x) y σ H := by
  obtain ⟨a1, a2, a3⟩ := Oper.apart_spec hap
  unfold tst at h ⊢
  simp only [hox, hoy] at h ⊢
  cases hwx : gS ops σ ox with
  | false =>
    simp only [hwx] at h
    rw [gS_upo a1] at h
    cases hwy : gS ops σ oy with
    | false =>
      simp only [hwy] at h ⊢
      rw [gS_upo a3, hwx]
      simp only
      rw [← upo_comm σ undef undef a2]
      exact h
    | true =>
      simp only [hwy] at h ⊢
      refine tOp_mono ?_ (tOp_congr hsy (looks_operands a1) h)
      intro v H' hh
      rw [gS_upo a3, hwx]
      simp only
      rw [← upo_comm σ undef v a2]
      exact hh
  | true =>
    simp only [hwx] at h
    cases hwy : gS ops σ oy with
    | false =>
      simp only
      rw [gS_upo a3, hwx]
      simp only
      refine tOp_congr hsx (fun z hz => (looks_operands a3 z hz).symm) ?_
      refine tOp_mono ?_ h
      intro u H' hh
      rw [gS_upo a1, hwy] at hh
      simp only at hh
      rw [← upo_comm σ u undef a2]
      exact hh
    | true =>
      simp only
      have h2 : tOp le P ox σ H (fun u H' => tOp le P oy σ H' (fun v H'' => K (upo (upo σ ox.dst u) oy.dst v) H'')) := by
        refine tOp_mono ?_ h
        intro u H' hh
        rw [gS_upo a1, hwy] at hh
        exact tOp_congr hsy (looks_operands a1) hh
      refine tOp_mono ?_ (tOp_swap (K := fun u v H'' => K (upo (upo σ ox.dst u) oy.dst v) H'') hf hl h2)
      intro v H' hh
      rw [gS_upo a3, hwx]
      simp only
      refine tOp_congr hsx (fun z hz => (looks_operands a3 z hz).symm) ?_
      refine tOp_mono ?_ hh
      intro u H'' hk
      rw [← upo_comm σ u v a2]
      exact hk
end Go.Proofs.YtijmoehbgkibnaaGreatDoor.HL
