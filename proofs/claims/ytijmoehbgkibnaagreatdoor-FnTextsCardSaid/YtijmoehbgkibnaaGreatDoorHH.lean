/- A region that draws its order: the check of the edges, and the whole region; then code, and calls. -/
import Derived.Test.YtijmoehbgkibnaaGreatDoorHG
namespace Go.Proofs.YtijmoehbgkibnaaGreatDoor.HL

def msk1 (acc : List Nat) (s : Nat) (e : Edge) : Nat := if Region.binds .any e then s ||| 2 ^ e.on ||| acc.getD e.on 0 else s
def mskStep (acc : List Nat) (o : Oper) : List Nat := acc ++ [o.after.toList.foldl (msk1 acc) 0]
/-- For each operation, which ones the edges put ahead of it. -/
def masks (ops : List Oper) : List Nat := ops.foldl mskStep []

theorem mskOneFold (acc : List Nat) (j : Nat) : ∀ (l : List Edge) (s : Nat), (l.foldl (msk1 acc) s).testBit j = true →
    s.testBit j = true ∨ ∃ e ∈ l, Region.binds .any e = true ∧ (j = e.on ∨ (acc.getD e.on 0).testBit j = true)
  | [], s, h => .inl h
  | e :: l, s, h => by
    simp only [List.foldl_cons] at h
    rcases mskOneFold acc j l _ h with h1 | ⟨e', he, hb, hj⟩
    · unfold msk1 at h1
      split at h1
      · rename_i hb
        rw [Nat.testBit_or, Nat.testBit_or, Nat.testBit_two_pow, Bool.or_eq_true, Bool.or_eq_true, decide_eq_true_eq] at h1
        rcases h1 with (h1 | h1) | h1
        · exact .inl h1
        · exact .inr ⟨e, by simp, hb, .inl h1.symm⟩
        · exact .inr ⟨e, by simp, hb, .inr h1⟩
      · exact .inl h1
    · exact .inr ⟨e', by simp [he], hb, hj⟩

theorem masks_snoc (ops : List Oper) (o : Oper) : masks (ops ++ [o]) = masks ops ++ [o.after.toList.foldl (msk1 (masks ops)) 0] := by
  unfold masks
  rw [List.foldl_append]
  rfl
theorem masks_length (l : List Oper) : (masks l).length = l.length := by
  suffices h : ∀ (l : List Oper) (acc : List Nat), (l.foldl mskStep acc).length = acc.length + l.length by simpa [masks] using h l []
  intro l
  induction l with
  | nil => intro acc; rfl
  | cons o r ih => intro acc; rw [List.foldl_cons, ih]; simp [mskStep]; omega

theorem getD_snoc_bit (l : List Nat) (m k j : Nat) (h : (l.getD k 0).testBit j = true) : ((l ++ [m]).getD k 0).testBit j = true := by
  rcases Nat.lt_or_ge k l.length with hk | hk
  · rw [List.getD_eq_getElem?_getD, List.getElem?_append_left hk, ← List.getD_eq_getElem?_getD]; exact h
  · rw [List.getD_eq_getElem?_getD, List.getElem?_eq_none hk] at h; simp at h

theorem masks_of (n : Nat) : ∀ (ops : List Oper), ops.length = n → ∀ (i j : Nat), ((masks ops).getD i 0).testBit j = true →
    ∃ o, ops[i]? = some o ∧ ∃ e ∈ o.after.toList, Region.binds .any e = true ∧ (j = e.on ∨ ((masks ops).getD e.on 0).testBit j = true) := by
  induction n with
  | zero =>
    intro ops hn i j h
    have : ops = [] := List.length_eq_zero_iff.mp hn
    subst this
    simp [masks] at h
  | succ n ih =>
    intro ops hn i j h
    have hne : ops ≠ [] := by rintro rfl; simp at hn
    obtain ⟨init, last, rfl⟩ : ∃ init last, ops = init ++ [last] := ⟨ops.dropLast, ops.getLast hne, (List.dropLast_concat_getLast hne).symm⟩
    have hl : init.length = n := by simpa using hn
    rw [masks_snoc] at h ⊢
    rcases Nat.lt_or_ge i init.length with hi | hi
    · rw [List.getD_eq_getElem?_getD, List.getElem?_append_left (by rw [masks_length]; exact hi), ← List.getD_eq_getElem?_getD] at h
      obtain ⟨o, ho, e, he, hb, hj⟩ := ih init hl i j h
      refine ⟨o, by rw [List.getElem?_append_left hi]; exact ho, e, he, hb, ?_⟩
      rcases hj with hj | hj
      · exact .inl hj
      · exact .inr (getD_snoc_bit _ _ _ _ hj)
    · by_cases hie : i = init.length
      · subst hie
        rw [List.getD_eq_getElem?_getD, List.getElem?_append_right (by rw [masks_length]; exact Nat.le_refl _)] at h
        rw [masks_length] at h
        simp only [Nat.sub_self, List.getElem?_cons_zero, Option.getD_some] at h
        rcases mskOneFold _ j _ 0 h with h0 | ⟨e, he, hb, hj⟩
        · simp at h0
        · refine ⟨last, by simp, e, he, hb, ?_⟩
          rcases hj with hj | hj
          · exact .inl hj
          · exact .inr (getD_snoc_bit _ _ _ _ hj)
      · rw [List.getD_eq_getElem?_getD, List.getElem?_eq_none (by simp [masks_length]; omega)] at h
        simp at h

/-- The order that is told: by how many acting operations stand ahead, those that only look first. -/
def noSel (o : Oper) : Bool := match o.op with | .select .. => false | _ => true
/-- x stands ahead of y in the told order: the edges say so, or both may change places. -/
def pairOk (le : Nat) (P : Program) (ops : Array Oper) (ms : List Nat) (x y : Nat) : Bool :=
  (ms.getD y 0).testBit x ||
  (match ops[x]?, ops[y]? with
  | some ox, some oy => noSel ox && noSel oy && ox.apart ops oy && legal le P ox oy
  | _, _ => false)
def pairsOk (le : Nat) (P : Program) (ops : Array Oper) (ms : List Nat) : List Nat → Bool
  | [] => true
  | x :: r => r.all (fun y => !Nat.beq x y && pairOk le P ops ms x y) && pairsOk le P ops ms r
/-- Each operation's edges lead to what stands ahead of it. -/
def edgesOk (ops : Array Oper) : List Nat → List Nat → Bool
  | _, [] => true
  | seen, x :: r =>
    (match ops[x]? with
    | some o => o.after.toList.all fun e => !Region.binds .any e || seen.contains e.on
    | none => false) && edgesOk ops (x :: seen) r
def drawOk (le : Nat) (P : Program) (ops : Array Oper) (ord : List Nat) : Bool :=
  Nat.ble ord.length ops.size && (List.range ops.size).all (fun i => ord.contains i) && pairsOk le P ops (masks ops.toList) ord && edgesOk ops [] ord

theorem pairsOk_pair {le : Nat} {P : Program} {ops : Array Oper} {ms : List Nat} : ∀ {l1 l2 : List Nat} {i : Nat}, pairsOk le P ops ms (l1 ++ i :: l2) = true → ∀ j ∈ l1, j ≠ i ∧ pairOk le P ops ms j i = true
  | [], _, _, _, j, hj => by simp at hj
  | x :: l1, l2, i, h, j, hj => by
    simp only [List.cons_append, pairsOk, Bool.and_eq_true, List.all_eq_true] at h
    rcases List.mem_cons.mp hj with rfl | hj
    · have := h.1 i (by simp)
      simp only [Bool.not_eq_true'] at this
      exact ⟨fun e => by subst e; simp at this, this.2⟩
    · exact pairsOk_pair h.2 j hj
theorem pairsOk_erase {le : Nat} {P : Program} {ops : Array Oper} {ms : List Nat} : ∀ {l1 l2 : List Nat} {i : Nat}, pairsOk le P ops ms (l1 ++ i :: l2) = true → pairsOk le P ops ms (l1 ++ l2) = true
  | [], _, _, h => by simp only [List.nil_append, pairsOk, Bool.and_eq_true] at h ⊢; exact h.2
  | x :: l1, l2, i, h => by
    simp only [List.cons_append, pairsOk, Bool.and_eq_true, List.all_eq_true] at h ⊢
    refine ⟨fun y hy => h.1 y ?_, pairsOk_erase h.2⟩
    simp only [List.mem_append, List.mem_cons] at hy ⊢
    rcases hy with hy | hy
    · exact .inl hy
    · exact .inr (.inr hy)
theorem pairsOk_nodup {le : Nat} {P : Program} {ops : Array Oper} {ms : List Nat} : ∀ {l : List Nat}, pairsOk le P ops ms l = true → l.Nodup
  | [], _ => List.nodup_nil
  | x :: r, h => by
    simp only [pairsOk, Bool.and_eq_true, List.all_eq_true] at h
    rw [List.nodup_cons]
    refine ⟨fun hx => ?_, pairsOk_nodup h.2⟩
    have := h.1 x hx
    simp at this

theorem bubble {le : Nat} {P : Program} {ops : Array Oper} {K : S → Hp → Prop} {i : Nat} : ∀ (l1 l2 : List Nat) (σ : S) (H : Hp), Fn H →
    (∀ j ∈ l1, ∃ oj oi, ops[j]? = some oj ∧ ops[i]? = some oi ∧ (∀ cs b, oj.op ≠ .select cs b) ∧ (∀ cs b, oi.op ≠ .select cs b) ∧ oj.apart ops oi = true ∧ legal le P oj oi = true) →
    treg le P ops K (l1 ++ i :: l2) σ H → treg le P ops K (i :: (l1 ++ l2)) σ H
  | [], _, _, _, _, _, h => h
  | j :: l1, l2, σ, H, hf, hl, h => by
    simp only [List.cons_append, treg] at h
    obtain ⟨oj, oi, hj, hi, hsj, hsi, hap, hleg⟩ := hl j (by simp)
    have h1 : tst le P ops (tst le P ops (treg le P ops K (l1 ++ l2)) i) j σ H := by
      refine tst_mono ?_ (tst_fn hf h)
      rintro σ' H' ⟨hf', hh⟩
      have := bubble l1 l2 σ' H' hf' (fun j' hj' => hl j' (by simp [hj'])) hh
      simpa only [treg] using this
    have h2 := tst_swap hj hi hsj hsi hap hleg hf h1
    simp only [List.cons_append, treg]
    exact h2

theorem noSel_spec {o : Oper} (h : noSel o = true) (cs : Array SelectCase) (b : Bool) : o.op ≠ .select cs b := by
  intro e
  unfold noSel at h
  rw [e] at h
  simp at h

theorem tst_wp {le : Nat} {P : Program} {ro : Option Nat} {N : Nat} {D : List Nat} {H0 : Hp} {w0 : World} {ops : Array Oper} {n : Nat} (hd : dstOk n ops = true) {K : S → Hp → Prop} {Q : Exit → Act → World → Prop} {next : Act → World → Prop} {i : Nat} {o : Oper} (ho : ops[i]? = some o)
    {a : Act} {w : World} {σ : S} {H : Hp} (hR : R n D a σ) (hs : SubF D H0 w0 H w) (h : tst le P ops K i σ H) (hn : ∀ a' w' σ' H', R n D a' σ' → SubF D H0 w0 H' w' → K σ' H' → next a' w') :
    wpOpIn (Fw ro) N P ops Q i next a w := by
  unfold wpOpIn
  unfold tst at h
  simp only [ho] at h ⊢
  have hdo := dstOk_at hd ho
  rw [wanted_gdv hR ops hd o]
  unfold gS at h
  cases hg : o.guard with
  | none =>
    simp only [hg] at h ⊢
    simp only [if_true]
    exact oper_wp hR hs hdo (dstOk_nd hd ho) (tOp_mEv h) fun a' w' v H' hR' hs' hk => hn a' w' _ H' hR' hs' hk
  | some g =>
    obtain ⟨j, b⟩ := g
    simp only [hg] at h ⊢
    by_cases hw : gOk (gdv ops σ j) b = true
    · rw [if_pos hw]
      rw [hw] at h
      exact oper_wp hR hs hdo (dstOk_nd hd ho) (tOp_mEv h) fun a' w' v H' hR' hs' hk => hn a' w' _ H' hR' hs' hk
    · rw [if_neg hw]
      rw [Bool.not_eq_true] at hw
      rw [hw] at h
      exact ⟨fun _ _ => trivial, hn _ _ _ H (hR.put o.dst undef hdo) hs h⟩

/-- What holds of what is listed and what is left. -/
structure Left (le : Nat) (P : Program) (ops : Array Oper) (listed : Array Bool) (l : List Nat) : Prop where
  size : listed.size = ops.size
  iff : ∀ i, i < ops.size → (listed.getD i true = false ↔ i ∈ l)
  lt : ∀ i ∈ l, i < ops.size
  pairs : pairsOk le P ops (masks ops.toList) l = true
  closed : ∀ i j, i < ops.size → listed.getD i true = true → ((masks ops.toList).getD i 0).testBit j = true → j < ops.size → listed.getD j true = true
  seen : ∃ s, edgesOk ops s l = true ∧ ∀ x ∈ s, listed.getD x false = true

theorem edgesOk_mono {ops : Array Oper} : ∀ (l s s' : List Nat), (∀ x ∈ s, x ∈ s') → edgesOk ops s l = true → edgesOk ops s' l = true
  | [], _, _, _, _ => rfl
  | x :: r, s, s', hs, h => by
    simp only [edgesOk, Bool.and_eq_true] at h ⊢
    refine ⟨?_, edgesOk_mono r (x :: s) (x :: s') (by
      intro y hy
      rcases List.mem_cons.mp hy with rfl | hy
      · simp
      · exact List.mem_cons_of_mem _ (hs y hy)) h.2⟩
    cases ho : ops[x]? with
    | none => simp [ho] at h
    | some o =>
      simp only [ho] at h ⊢
      have h1 := h.1
      rw [List.all_eq_true] at h1 ⊢
      intro e he
      have := h1 e he
      simp only [Bool.or_eq_true, Bool.not_eq_true', List.contains_iff_mem] at this ⊢
      rcases this with h3 | h3
      · exact .inl h3
      · exact .inr (hs _ h3)
theorem edgesOk_erase {ops : Array Oper} {i : Nat} : ∀ (l1 l2 s : List Nat), edgesOk ops s (l1 ++ i :: l2) = true → edgesOk ops (i :: s) (l1 ++ l2) = true
  | [], l2, s, h => by simp only [List.nil_append, edgesOk, Bool.and_eq_true] at h ⊢; exact h.2
  | x :: l1, l2, s, h => by
    simp only [List.cons_append, edgesOk, Bool.and_eq_true] at h ⊢
    refine ⟨?_, ?_⟩
    · cases ho : ops[x]? with
      | none => simp [ho] at h
      | some o =>
        simp only [ho] at h ⊢
        have h1 := h.1
        rw [List.all_eq_true] at h1 ⊢
        intro e he
        have := h1 e he
        simp only [Bool.or_eq_true, Bool.not_eq_true', List.contains_iff_mem, List.mem_cons] at this ⊢
        rcases this with h3 | h3
        · exact .inl h3
        · exact .inr (.inr h3)
    · refine edgesOk_mono _ _ _ ?_ (edgesOk_erase l1 l2 (x :: s) h.2)
      intro y hy
      simp only [List.mem_cons] at hy ⊢
      rcases hy with h3 | h3 | h3
      · exact .inr (.inl h3)
      · exact .inl h3
      · exact .inr (.inr h3)

theorem draw_any {le : Nat} {P : Program} {ro : Option Nat} {N : Nat} {D : List Nat} {H0 : Hp} {w0 : World} {ops : Array Oper} {n : Nat} (hd : dstOk n ops = true) {K : S → Hp → Prop} {Q : Exit → Act → World → Prop}
    (hq : ∀ a w σ H, R n D a σ → SubF D H0 w0 H w → K σ H → Q .normal a w) : ∀ (fuel : Nat) (l : List Nat) (listed : Array Bool) (a : Act) (w : World) (σ : S) (H : Hp),
    l.length ≤ fuel → Left le P ops listed l → R n D a σ → SubF D H0 w0 H w → treg le P ops K l σ H → wpAnyIn (Fw ro) N P .any ops Q fuel listed a w := by
  intro fuel
  induction fuel with
  | zero =>
    intro l listed a w σ H hlen hL hR hs h
    have : l = [] := List.length_eq_zero_iff.mp (by omega)
    subst this
    refine ⟨?_, hq a w σ H hR hs h⟩
    rw [List.eq_nil_iff_forall_not_mem]
    intro j hj
    rw [mem_ready] at hj
    obtain ⟨hj1, oj, hoj, _⟩ := hj
    have hjl : j < ops.size := by
      rcases Nat.lt_or_ge j ops.size with h1 | h1
      · exact h1
      · rw [Array.getElem?_eq_none h1] at hoj; simp at hoj
    have := (hL.iff j hjl).mp hj1
    simp at this
  | succ fuel ih =>
    intro l listed a w σ H hlen hL hR hs h
    refine ⟨fun hr => ?_, fun i hi => ?_⟩
    · cases l with
      | nil => exact hq a w σ H hR hs h
      | cons x r =>
        exfalso
        have hx : x < ops.size := hL.lt x (by simp)
        obtain ⟨s, he, hse⟩ := hL.seen
        simp only [edgesOk, Bool.and_eq_true] at he
        have hxr : x ∈ Region.ready .any ops listed := by
          rw [mem_ready]
          cases ho : ops[x]? with
          | none => rw [ho] at he; simp at he
          | some o =>
            refine ⟨(hL.iff x hx).mpr (by simp), o, rfl, ?_⟩
            intro e hee hbe
            rw [ho] at he
            have h1 := he.1
            simp only at h1
            rw [List.all_eq_true] at h1
            have := h1 e (by simpa using hee)
            simp only [Bool.or_eq_true, Bool.not_eq_true', List.contains_iff_mem] at this
            rcases this with h3 | h3
            · rw [hbe] at h3; simp at h3
            · exact hse _ h3
        rw [hr] at hxr
        simp at hxr
    · obtain ⟨hi1, oi, hoi, hall⟩ := mem_ready.mp hi
      have hlt : i < ops.size := by
        rcases Nat.lt_or_ge i ops.size with h1 | h1
        · exact h1
        · rw [Array.getElem?_eq_none h1] at hoi; simp at hoi
      have hil : i ∈ l := (hL.iff i hlt).mp hi1
      obtain ⟨l1, l2, rfl⟩ := List.append_of_mem hil
      have hnd := pairsOk_nodup hL.pairs
      have hpre : ∀ j, j < ops.size → ((masks ops.toList).getD i 0).testBit j = true → listed.getD j true = true := by
        intro j hj hb
        obtain ⟨o, ho, e, he, hbe, hje⟩ := masks_of _ ops.toList rfl i j hb
        rw [Array.getElem?_toList, hoi] at ho
        cases ho
        have hle := hall e (by simpa using he) hbe
        have hes : e.on < listed.size := by
          rcases Nat.lt_or_ge e.on listed.size with h1 | h1
          · exact h1
          · rw [Array.getD_eq_getD_getElem?, Array.getElem?_eq_none h1] at hle; simp at hle
        have hle' : listed.getD e.on true = true := by
          rw [Array.getD_eq_getD_getElem?, Array.getElem?_eq_getElem hes] at hle ⊢
          simpa using hle
        rcases hje with rfl | hje
        · exact hle'
        · exact hL.closed e.on j (by rw [← hL.size]; exact hes) hle' hje hj
      have hleg : ∀ j ∈ l1, ∃ oj oi, ops[j]? = some oj ∧ ops[i]? = some oi ∧ (∀ cs b, oj.op ≠ .select cs b) ∧ (∀ cs b, oi.op ≠ .select cs b) ∧ oj.apart ops oi = true ∧ legal le P oj oi = true := by
        intro j hj
        have hp := pairsOk_pair hL.pairs j hj
        have hjl : j < ops.size := hL.lt j (by simp [hj])
        have hp2 := hp.2
        unfold pairOk at hp2
        rw [Bool.or_eq_true] at hp2
        rcases hp2 with h1 | h1
        · have hlj := hpre j hjl h1
          have := (hL.iff j hjl).mpr (by simp [hj])
          rw [hlj] at this
          simp at this
        · rw [hoi] at h1
          cases hoj : ops[j]? with
          | none => simp [hoj] at h1
          | some oj =>
            simp only [hoj, Bool.and_eq_true] at h1
            exact ⟨oj, oi, rfl, hoi, noSel_spec h1.1.1.1, noSel_spec h1.1.1.2, h1.1.2, h1.2⟩
      have hb := bubble l1 l2 σ H hs.fn hleg h
      simp only [treg] at hb
      refine tst_wp hd hoi hR hs hb ?_
      intro a' w' σ' H' hR' hs' hk
      have hnotin : i ∉ l1 ++ l2 := by
        intro hm
        rw [List.nodup_append] at hnd
        obtain ⟨_, hn2, hn3⟩ := hnd
        rw [List.nodup_cons] at hn2
        rcases List.mem_append.mp hm with hm | hm
        · exact hn3 i hm i (by simp) rfl
        · exact hn2.1 hm
      have hset : ∀ j, j ≠ i → ∀ d, (listed.setIfInBounds i true).getD j d = listed.getD j d := fun j hj d => getD_set_ne d (Ne.symm hj)
      have hseti : ∀ d, (listed.setIfInBounds i true).getD i d = true := by
        intro d
        rw [Array.getD_eq_getD_getElem?, Array.getElem?_setIfInBounds_self_of_lt (by rw [hL.size]; exact hlt)]
        rfl
      refine ih (l1 ++ l2) _ a' w' σ' H' (by simp at hlen ⊢; omega) ?_ hR' hs' hk
      refine ⟨by simp [hL.size], ?_, ?_, pairsOk_erase hL.pairs, ?_, ?_⟩
      · intro j hj
        by_cases e : j = i
        · subst e; rw [hseti]; simp; exact ⟨fun hh => hnotin (by simp [hh]), fun hh => hnotin (by simp [hh])⟩
        · rw [hset j e, hL.iff j hj]; simp [e]
      · intro j hj; exact hL.lt j (by simp at hj ⊢; rcases hj with h1 | h1 <;> simp [h1])
      · intro k j hk1 hk2 hb2 hj
        by_cases ej : j = i
        · subst ej; exact hseti true
        · rw [hset j ej]
          by_cases ek : k = i
          · subst ek; exact hpre j hj hb2
          · rw [hset k ek] at hk2; exact hL.closed k j hk1 hk2 hb2 hj
      · obtain ⟨s, he, hse⟩ := hL.seen
        refine ⟨i :: s, edgesOk_erase l1 l2 s he, ?_⟩
        intro x hx
        rcases List.mem_cons.mp hx with rfl | hx
        · exact hseti false
        · by_cases ex : x = i
          · subst ex; exact hseti false
          · rw [hset x ex]; exact hse x hx

theorem draw_wp {le : Nat} {P : Program} {ro : Option Nat} {N : Nat} {D : List Nat} {H0 : Hp} {w0 : World} {ops : Array Oper} {n id : Nat} (hm : P.follows .mixedOrders = true) {ord : List Nat} (hok : drawOk le P ops ord = true) (hd : dstOk n ops = true) {K : S → Hp → Prop} {Q : Exit → Act → World → Prop}
    (hq : ∀ a w σ H, R n D a σ → SubF D H0 w0 H w → K σ H → Q .normal a w) {a : Act} {w : World} {σ : S} {H : Hp} (hR : R n D a σ) (hs : SubF D H0 w0 H w) (h : dreg le P ops K ord σ H) :
    (Code.region id ops true).wpIn (Fw ro) N P Q a w := by
  refine wpIn_region_any hm ?_
  unfold drawOk at hok
  simp only [Bool.and_eq_true, List.all_eq_true, List.contains_iff_mem] at hok
  obtain ⟨⟨⟨h0, h1⟩, h2⟩, h3⟩ := hok
  have hlt : ∀ (l s : List Nat), edgesOk ops s l = true → ∀ i ∈ l, i < ops.size := by
    intro l
    induction l with
    | nil => intro s _ i hi; simp at hi
    | cons x r ihl =>
      intro s he i hi
      simp only [edgesOk, Bool.and_eq_true] at he
      rcases List.mem_cons.mp hi with rfl | hi
      · cases ho : ops[i]? with
        | none => simp [ho] at he
        | some o =>
          rcases Nat.lt_or_ge i ops.size with h4 | h4
          · exact h4
          · rw [Array.getElem?_eq_none h4] at ho; simp at ho
      · exact ihl _ he.2 i hi
  have hltO := hlt _ _ h3
  have hnd := pairsOk_nodup h2
  have hlen : ord.length ≤ ops.size := Nat.le_of_ble_eq_true h0
  refine draw_any hd hq ops.size ord _ a _ σ H hlen ?_ hR (hs.drew _) (treg_of _ σ H h)
  refine ⟨by simp, ?_, hltO, h2, ?_, ⟨[], h3, by simp⟩⟩
  · intro i hi
    simp [Array.getD_eq_getD_getElem?, hi]
    exact h1 i (by simpa using hi)
  · intro i j hi hl
    simp [Array.getD_eq_getD_getElem?, hi] at hl
/-! ### two orders, where one pair may not change places -/
def pairOkX (le : Nat) (P : Program) (ops : Array Oper) (ms : List Nat) (p q x y : Nat) : Bool := pairOk le P ops ms x y || ((Nat.beq x p || (ms.getD p 0).testBit x) && Nat.beq y q)
def pairsOkX (le : Nat) (P : Program) (ops : Array Oper) (ms : List Nat) (p q : Nat) : List Nat → Bool
  | [] => true
  | x :: r => r.all (fun y => !Nat.beq x y && pairOkX le P ops ms p q x y) && pairsOkX le P ops ms p q r
section
variable {le : Nat} {P : Program} {ops : Array Oper} {ms : List Nat} {p q : Nat}
theorem pairsOkX_pair : ∀ {l1 l2 : List Nat} {i : Nat}, pairsOkX le P ops ms p q (l1 ++ i :: l2) = true → ∀ j ∈ l1, j ≠ i ∧ pairOkX le P ops ms p q j i = true
  | [], _, _, _, j, hj => by simp at hj
  | x :: l1, l2, i, h, j, hj => by
    simp only [List.cons_append, pairsOkX, Bool.and_eq_true, List.all_eq_true] at h
    rcases List.mem_cons.mp hj with rfl | hj
    · have := h.1 i (by simp)
      simp only [Bool.not_eq_true'] at this
      exact ⟨fun e => by subst e; simp at this, this.2⟩
    · exact pairsOkX_pair h.2 j hj
theorem pairsOkX_erase : ∀ {l1 l2 : List Nat} {i : Nat}, pairsOkX le P ops ms p q (l1 ++ i :: l2) = true → pairsOkX le P ops ms p q (l1 ++ l2) = true
  | [], _, _, h => by simp only [List.nil_append, pairsOkX, Bool.and_eq_true] at h ⊢; exact h.2
  | x :: l1, l2, i, h => by
    simp only [List.cons_append, pairsOkX, Bool.and_eq_true, List.all_eq_true] at h ⊢
    refine ⟨fun y hy => h.1 y ?_, pairsOkX_erase h.2⟩
    simp only [List.mem_append, List.mem_cons] at hy ⊢
    rcases hy with hy | hy
    · exact .inl hy
    · exact .inr (.inr hy)
theorem pairsOkX_nodup : ∀ {l : List Nat}, pairsOkX le P ops ms p q l = true → l.Nodup
  | [], _ => List.nodup_nil
  | x :: r, h => by
    simp only [pairsOkX, Bool.and_eq_true, List.all_eq_true] at h
    rw [List.nodup_cons]
    refine ⟨fun hx => ?_, pairsOkX_nodup h.2⟩
    have := h.1 x hx
    simp at this
theorem pairsOkX_plain : ∀ {l : List Nat}, (q ∉ l ∨ p ∉ l ∧ ∀ z ∈ l, (ms.getD p 0).testBit z = false) → pairsOkX le P ops ms p q l = true → pairsOk le P ops ms l = true
  | [], _, _ => rfl
  | x :: r, hn, h => by
    simp only [pairsOkX, pairsOk, Bool.and_eq_true, List.all_eq_true] at h ⊢
    refine ⟨fun y hy => ?_, pairsOkX_plain (by
      rcases hn with hn | hn
      · exact .inl (fun hh => hn (by simp [hh]))
      · exact .inr ⟨fun hh => hn.1 (by simp [hh]), fun z hz => hn.2 z (by simp [hz])⟩) h.2⟩
    have h1 := h.1 y hy
    refine ⟨h1.1, ?_⟩
    have h2 := h1.2
    unfold pairOkX at h2
    rw [Bool.or_eq_true] at h2
    rcases h2 with h2 | h2
    · exact h2
    · rw [Bool.and_eq_true, Bool.or_eq_true] at h2
      have e2 := Nat.eq_of_beq_eq_true h2.2
      subst e2
      rcases hn with hn | hn
      · exact absurd (List.mem_cons_of_mem _ hy) hn
      · rcases h2.1 with h3 | h3
        · have e1 := Nat.eq_of_beq_eq_true h3
          subst e1
          exact absurd (by simp) hn.1
        · have := hn.2 x (by simp)
          rw [h3] at this
          simp at this
end
/-- What holds of what is listed and what is left, but for the pairs. -/
structure LeftB (ops : Array Oper) (listed : Array Bool) (l : List Nat) : Prop where
  size : listed.size = ops.size
  iff : ∀ i, i < ops.size → (listed.getD i true = false ↔ i ∈ l)
  lt : ∀ i ∈ l, i < ops.size
  closed : ∀ i j, i < ops.size → listed.getD i true = true → ((masks ops.toList).getD i 0).testBit j = true → j < ops.size → listed.getD j true = true
  seen : ∃ s, edgesOk ops s l = true ∧ ∀ x ∈ s, listed.getD x false = true
theorem LeftB.left {le : Nat} {P : Program} {ops : Array Oper} {listed : Array Bool} {l : List Nat} (h : LeftB ops listed l) (hp : pairsOk le P ops (masks ops.toList) l = true) : Left le P ops listed l := ⟨h.size, h.iff, h.lt, hp, h.closed, h.seen⟩
theorem LeftB.pre {ops : Array Oper} {listed : Array Bool} {l : List Nat} (hL : LeftB ops listed l) {i : Nat} (hi : i ∈ Region.ready .any ops listed) : ∀ j, j < ops.size → ((masks ops.toList).getD i 0).testBit j = true → listed.getD j true = true := by
  obtain ⟨hi1, oi, hoi, hall⟩ := mem_ready.mp hi
  intro j hj hb
  obtain ⟨o, ho, e, he, hbe, hje⟩ := masks_of _ ops.toList rfl i j hb
  rw [Array.getElem?_toList, hoi] at ho
  cases ho
  have hle := hall e (by simpa using he) hbe
  have hes : e.on < listed.size := by
    rcases Nat.lt_or_ge e.on listed.size with h1 | h1
    · exact h1
    · rw [Array.getD_eq_getD_getElem?, Array.getElem?_eq_none h1] at hle; simp at hle
  have hle' : listed.getD e.on true = true := by
    rw [Array.getD_eq_getD_getElem?, Array.getElem?_eq_getElem hes] at hle ⊢
    simpa using hle
  rcases hje with rfl | hje
  · exact hle'
  · exact hL.closed e.on j (by rw [← hL.size]; exact hes) hle' hje hj
theorem ready_lt {ops : Array Oper} {listed : Array Bool} {i : Nat} (hi : i ∈ Region.ready .any ops listed) : i < ops.size := by
  obtain ⟨hi1, oi, hoi, hall⟩ := mem_ready.mp hi
  rcases Nat.lt_or_ge i ops.size with h1 | h1
  · exact h1
  · rw [Array.getElem?_eq_none h1] at hoi; simp at hoi
theorem LeftB.next {ops : Array Oper} {listed : Array Bool} {l1 l2 : List Nat} {i : Nat} (hL : LeftB ops listed (l1 ++ i :: l2)) (hnd : (l1 ++ i :: l2).Nodup) (hi : i ∈ Region.ready .any ops listed) : LeftB ops (listed.setIfInBounds i true) (l1 ++ l2) := by
  have hlt := ready_lt hi
  have hpre := hL.pre hi
  have hnotin : i ∉ l1 ++ l2 := by
    intro hm
    rw [List.nodup_append] at hnd
    obtain ⟨_, hn2, hn3⟩ := hnd
    rw [List.nodup_cons] at hn2
    rcases List.mem_append.mp hm with hm | hm
    · exact hn3 i hm i (by simp) rfl
    · exact hn2.1 hm
  have hset : ∀ j, j ≠ i → ∀ d, (listed.setIfInBounds i true).getD j d = listed.getD j d := fun j hj d => getD_set_ne d (Ne.symm hj)
  have hseti : ∀ d, (listed.setIfInBounds i true).getD i d = true := by
    intro d
    rw [Array.getD_eq_getD_getElem?, Array.getElem?_setIfInBounds_self_of_lt (by rw [hL.size]; exact hlt)]
    rfl
  refine ⟨by simp [hL.size], ?_, ?_, ?_, ?_⟩
  · intro j hj
    by_cases e : j = i
    · subst e; rw [hseti]; simp; exact ⟨fun hh => hnotin (by simp [hh]), fun hh => hnotin (by simp [hh])⟩
    · rw [hset j e, hL.iff j hj]; simp [e]
  · intro j hj; exact hL.lt j (by simp at hj ⊢; rcases hj with h1 | h1 <;> simp [h1])
  · intro k j hk1 hk2 hb2 hj
    by_cases ej : j = i
    · subst ej; exact hseti true
    · rw [hset j ej]
      by_cases ek : k = i
      · subst ek; exact hpre j hj hb2
      · rw [hset k ek] at hk2; exact hL.closed k j hk1 hk2 hb2 hj
  · obtain ⟨s, he, hse⟩ := hL.seen
    refine ⟨i :: s, edgesOk_erase l1 l2 s he, ?_⟩
    intro x hx
    rcases List.mem_cons.mp hx with rfl | hx
    · exact hseti false
    · by_cases ex : x = i
      · subst ex; exact hseti false
      · rw [hset x ex]; exact hse x hx
/-- An operation of which two facts hold together, where each holds. -/
def tame (le : Nat) (P : Program) (o : Oper) : Bool := match clsOf le P o with | .d | .n | .a => true | _ => false
theorem tOp_and {le : Nat} {P : Program} {o : Oper} {σ : S} {H : Hp} {K K' : Value → Hp → Prop} (ht : tame le P o = true) (h : tOp le P o σ H K) (h' : tOp le P o σ H K') : tOp le P o σ H (fun v H' => K v H' ∧ K' v H') := by
  unfold tame at ht
  unfold tOp at h h' ⊢
  cases hc : clsOf le P o <;> simp only [hc] at ht h h' ⊢ <;> try (simp at ht; done)
  · obtain ⟨u, hu, hk⟩ := h
    obtain ⟨u', hu', hk'⟩ := h'
    rw [hu] at hu'
    cases hu'
    exact ⟨u, hu, hk, hk'⟩
  · cases hO : nOut P o σ with
    | none => rw [hO] at h; exact h
    | some O => rw [hO] at h h'; exact fun u hu => ⟨h u hu, h' u hu⟩
  · cases hO : aOut P o σ with
    | none => rw [hO] at h; exact h
    | some O => obtain ⟨mk, ob⟩ := O; rw [hO] at h h'; exact fun r hr => ⟨h r hr, h' r hr⟩
theorem tst_and {le : Nat} {P : Program} {ops : Array Oper} {K K' : S → Hp → Prop} {i : Nat} {o : Oper} {σ : S} {H : Hp} (ho : ops[i]? = some o) (ht : tame le P o = true) (h : tst le P ops K i σ H) (h' : tst le P ops K' i σ H) : tst le P ops (fun σ H => K σ H ∧ K' σ H) i σ H := by
  unfold tst at h h' ⊢
  simp only [ho] at h h' ⊢
  cases hw : gS ops σ o with
  | true => simp only [hw] at h h' ⊢; exact tOp_and ht h h'
  | false => simp only [hw] at h h' ⊢; exact ⟨h, h'⟩
/-- What may be drawn before the pair is told apart. -/
def tameOk (le : Nat) (P : Program) (ops : Array Oper) (ms : List Nat) (x y : Nat) : Bool :=
  (List.range ops.size).all fun i => Nat.beq i x || Nat.beq i y || (ms.getD i 0).testBit x || (ms.getD i 0).testBit y || (match ops[i]? with | some o => tame le P o | none => false)
theorem legOf {le : Nat} {P : Program} {ops : Array Oper} {listed : Array Bool} {l1 l2 : List Nat} {i p q : Nat} (hL : LeftB ops listed (l1 ++ i :: l2)) (hp : pairsOkX le P ops (masks ops.toList) p q (l1 ++ i :: l2) = true) (hi : i ∈ Region.ready .any ops listed) (hq : i ≠ q) :
    ∀ j ∈ l1, ∃ oj oi, ops[j]? = some oj ∧ ops[i]? = some oi ∧ (∀ cs b, oj.op ≠ .select cs b) ∧ (∀ cs b, oi.op ≠ .select cs b) ∧ oj.apart ops oi = true ∧ legal le P oj oi = true := by
  obtain ⟨hi1, oi, hoi, hall⟩ := mem_ready.mp hi
  intro j hj
  have hpr := pairsOkX_pair hp j hj
  have hjl : j < ops.size := hL.lt j (by simp [hj])
  have hp2 := hpr.2
  unfold pairOkX at hp2
  rw [Bool.or_eq_true] at hp2
  rcases hp2 with hp2 | hp2
  · unfold pairOk at hp2
    rw [Bool.or_eq_true] at hp2
    rcases hp2 with h1 | h1
    · have hlj := hL.pre hi j hjl h1
      have := (hL.iff j hjl).mpr (by simp [hj])
      rw [hlj] at this
      simp at this
    · rw [hoi] at h1
      cases hoj : ops[j]? with
      | none => simp [hoj] at h1
      | some oj =>
        simp only [hoj, Bool.and_eq_true] at h1
        exact ⟨oj, oi, rfl, hoi, noSel_spec h1.1.1.1, noSel_spec h1.1.1.2, h1.1.2, h1.2⟩
  · rw [Bool.and_eq_true] at hp2
    exact absurd (Nat.eq_of_beq_eq_true hp2.2) hq
theorem draw_two {le : Nat} {P : Program} {ro : Option Nat} {N : Nat} {D : List Nat} {H0 : Hp} {w0 : World} {ops : Array Oper} {n x y : Nat} (hd : dstOk n ops = true) (hxy : x ≠ y) (htame : tameOk le P ops (masks ops.toList) x y = true) {K : S → Hp → Prop} {Q : Exit → Act → World → Prop}
    (hq : ∀ a w σ H, R n D a σ → SubF D H0 w0 H w → K σ H → Q .normal a w) : ∀ (fuel : Nat) (l l' : List Nat) (listed : Array Bool) (a : Act) (w : World) (σ : S) (H : Hp),
    l.length ≤ fuel → l'.length ≤ fuel → x ∈ l → y ∈ l → LeftB ops listed l → LeftB ops listed l' → pairsOkX le P ops (masks ops.toList) x y l = true → pairsOkX le P ops (masks ops.toList) y x l' = true →
    R n D a σ → SubF D H0 w0 H w → treg le P ops K l σ H → treg le P ops K l' σ H → wpAnyIn (Fw ro) N P .any ops Q fuel listed a w := by
  intro fuel
  induction fuel with
  | zero =>
    intro l l' listed a w σ H hlen _ hx
    have : l = [] := List.length_eq_zero_iff.mp (by omega)
    subst this
    simp at hx
  | succ fuel ih =>
    intro l l' listed a w σ H hlen hlen' hx hy hL hL' hp hp' hR hs h h'
    refine ⟨fun hr => ?_, fun i hi => ?_⟩
    · cases l with
      | nil => simp at hx
      | cons z r =>
        exfalso
        have hz : z < ops.size := hL.lt z (by simp)
        obtain ⟨s, he, hse⟩ := hL.seen
        simp only [edgesOk, Bool.and_eq_true] at he
        have hxr : z ∈ Region.ready .any ops listed := by
          rw [mem_ready]
          cases ho : ops[z]? with
          | none => rw [ho] at he; simp at he
          | some o =>
            refine ⟨(hL.iff z hz).mpr (by simp), o, rfl, ?_⟩
            intro e hee hbe
            rw [ho] at he
            have h1 := he.1
            simp only at h1
            rw [List.all_eq_true] at h1
            have := h1 e (by simpa using hee)
            simp only [Bool.or_eq_true, Bool.not_eq_true', List.contains_iff_mem] at this
            rcases this with h3 | h3
            · rw [hbe] at h3; simp at h3
            · exact hse _ h3
        rw [hr] at hxr
        simp at hxr
    · obtain ⟨hi1, oi, hoi, hall⟩ := mem_ready.mp hi
      have hlt := ready_lt hi
      have hil : i ∈ l := (hL.iff i hlt).mp hi1
      have hil' : i ∈ l' := (hL'.iff i hlt).mp hi1
      have hx' : x ∈ l' := (hL'.iff x (hL.lt x hx)).mp ((hL.iff x (hL.lt x hx)).mpr hx)
      have hy' : y ∈ l' := (hL'.iff y (hL.lt y hy)).mp ((hL.iff y (hL.lt y hy)).mpr hy)
      obtain ⟨l1, l2, rfl⟩ := List.append_of_mem hil
      obtain ⟨m1, m2, rfl⟩ := List.append_of_mem hil'
      have hnd := pairsOkX_nodup hp
      have hnd' := pairsOkX_nodup hp'
      have hnot : i ∉ l1 ++ l2 := by
        intro hm
        rw [List.nodup_append] at hnd
        obtain ⟨_, hn2, hn3⟩ := hnd
        rw [List.nodup_cons] at hn2
        rcases List.mem_append.mp hm with hm | hm
        · exact hn3 i hm i (by simp) rfl
        · exact hn2.1 hm
      have hnot' : i ∉ m1 ++ m2 := by
        intro hm
        rw [List.nodup_append] at hnd'
        obtain ⟨_, hn2, hn3⟩ := hnd'
        rw [List.nodup_cons] at hn2
        rcases List.mem_append.mp hm with hm | hm
        · exact hn3 i hm i (by simp) rfl
        · exact hn2.1 hm
      by_cases ey : i = y
      · subst ey
        have hb := bubble m1 m2 σ H hs.fn (legOf hL' hp' hi (Ne.symm hxy)) h'
        simp only [treg] at hb
        refine tst_wp hd hoi hR hs hb ?_
        intro a' w' σ' H' hR' hs' hk
        exact draw_any hd hq fuel (m1 ++ m2) _ a' w' σ' H' (by simp at hlen' ⊢; omega) ((hL'.next hnd' hi).left (pairsOkX_plain (.inr ⟨hnot', fun z hz => by
          cases hb2 : ((masks ops.toList).getD i 0).testBit z with
          | false => rfl
          | true =>
            have hzl : z ∈ m1 ++ i :: m2 := by simp only [List.mem_append, List.mem_cons] at hz ⊢; rcases hz with h1 | h1 <;> simp [h1]
            have hz1 := hL'.pre hi z (hL'.lt z hzl) hb2
            rw [(hL'.iff z (hL'.lt z hzl)).mpr hzl] at hz1
            simp at hz1⟩) (pairsOkX_erase hp'))) hR' hs' hk
      · by_cases ex : i = x
        · subst ex
          have hb := bubble l1 l2 σ H hs.fn (legOf hL hp hi hxy) h
          simp only [treg] at hb
          refine tst_wp hd hoi hR hs hb ?_
          intro a' w' σ' H' hR' hs' hk
          exact draw_any hd hq fuel (l1 ++ l2) _ a' w' σ' H' (by simp at hlen ⊢; omega) ((hL.next hnd hi).left (pairsOkX_plain (.inr ⟨hnot, fun z hz => by
            cases hb2 : ((masks ops.toList).getD i 0).testBit z with
            | false => rfl
            | true =>
              have hzl : z ∈ l1 ++ i :: l2 := by simp only [List.mem_append, List.mem_cons] at hz ⊢; rcases hz with h1 | h1 <;> simp [h1]
              have hz1 := hL.pre hi z (hL.lt z hzl) hb2
              rw [(hL.iff z (hL.lt z hzl)).mpr hzl] at hz1
              simp at hz1⟩) (pairsOkX_erase hp))) hR' hs' hk
        · have hb := bubble l1 l2 σ H hs.fn (legOf hL hp hi ey) h
          have hb' := bubble m1 m2 σ H hs.fn (legOf hL' hp' hi ex) h'
          simp only [treg] at hb hb'
          have ht : tame le P oi = true := by
            unfold tameOk at htame
            rw [List.all_eq_true] at htame
            have := htame i (by simp; exact hlt)
            simp only [Bool.or_eq_true, hoi] at this
            rcases this with (((h1 | h1) | h1) | h1) | h1
            · exact absurd (Nat.eq_of_beq_eq_true h1) ex
            · exact absurd (Nat.eq_of_beq_eq_true h1) ey
            · have h2 := hL.pre hi x (hL.lt x hx) h1
              rw [(hL.iff x (hL.lt x hx)).mpr hx] at h2; simp at h2
            · have h2 := hL.pre hi y (hL.lt y hy) h1
              rw [(hL.iff y (hL.lt y hy)).mpr hy] at h2; simp at h2
            · exact h1
          refine tst_wp hd hoi hR hs (tst_and hoi ht hb hb') ?_
          rintro a' w' σ' H' hR' hs' ⟨hk, hk'⟩
          refine ih (l1 ++ l2) (m1 ++ m2) _ a' w' σ' H' (by simp at hlen ⊢; omega) (by simp at hlen' ⊢; omega) ?_ ?_ (hL.next hnd hi) (hL'.next hnd' hi) (pairsOkX_erase hp) (pairsOkX_erase hp') hR' hs' hk hk'
          · simp only [List.mem_append, List.mem_cons] at hx ⊢
            rcases hx with hx | hx | hx
            · exact .inl hx
            · exact absurd hx.symm ex
            · exact .inr hx
          · simp only [List.mem_append, List.mem_cons] at hy ⊢
            rcases hy with hy | hy | hy
            · exact .inl hy
            · exact absurd hy.symm ey
            · exact .inr hy
def drawOkX (le : Nat) (P : Program) (ops : Array Oper) (x y : Nat) (ord : List Nat) : Bool :=
  Nat.ble ord.length ops.size && (List.range ops.size).all (fun i => ord.contains i) && pairsOkX le P ops (masks ops.toList) x y ord && edgesOk ops [] ord
theorem edges_lt {ops : Array Oper} : ∀ (l s : List Nat), edgesOk ops s l = true → ∀ i ∈ l, i < ops.size := by
  intro l
  induction l with
  | nil => intro s _ i hi; simp at hi
  | cons x r ihl =>
    intro s he i hi
    simp only [edgesOk, Bool.and_eq_true] at he
    rcases List.mem_cons.mp hi with rfl | hi
    · cases ho : ops[i]? with
      | none => simp [ho] at he
      | some o =>
        rcases Nat.lt_or_ge i ops.size with h4 | h4
        · exact h4
        · rw [Array.getElem?_eq_none h4] at ho; simp at ho
    · exact ihl _ he.2 i hi
theorem drawOkX_left {le : Nat} {P : Program} {ops : Array Oper} {x y : Nat} {ord : List Nat} (hok : drawOkX le P ops x y ord = true) : LeftB ops (Array.replicate ops.size false) ord ∧ pairsOkX le P ops (masks ops.toList) x y ord = true ∧ ord.length ≤ ops.size ∧ ∀ i, i < ops.size → i ∈ ord := by
  unfold drawOkX at hok
  simp only [Bool.and_eq_true, List.all_eq_true, List.contains_iff_mem] at hok
  obtain ⟨⟨⟨h0, h1⟩, h2⟩, h3⟩ := hok
  have hltO := edges_lt _ _ h3
  refine ⟨⟨by simp, ?_, hltO, ?_, ⟨[], h3, by simp⟩⟩, h2, Nat.le_of_ble_eq_true h0, fun i hi => h1 i (by simpa using hi)⟩
  · intro i hi
    simp [Array.getD_eq_getD_getElem?, hi]
    exact h1 i (by simpa using hi)
  · intro i j hi hl
    simp [Array.getD_eq_getD_getElem?, hi] at hl
/-- An order, or two: x and y (each and 1000), then both. -/
def halves (r : List Nat) : List Nat × List Nat := (r.take (r.length / 2), r.drop (r.length / 2))
def dregB (le : Nat) (P : Program) (ops : Array Oper) (K : S → Hp → Prop) (ord : List Nat) (σ : S) (H : Hp) : Prop :=
  match ord with
  | x :: y :: r => match Nat.ble 1000 x with
    | true => dreg le P ops K (halves r).1 σ H ∧ dreg le P ops K (halves r).2 σ H
    | false => dreg le P ops K (x :: y :: r) σ H
  | l => dreg le P ops K l σ H
def drawOkB (le : Nat) (P : Program) (ops : Array Oper) (ord : List Nat) : Bool :=
  match ord with
  | x :: y :: r => match Nat.ble 1000 x with
    | true => !Nat.beq (x - 1000) (y - 1000) && Nat.blt (x - 1000) ops.size && Nat.blt (y - 1000) ops.size && tameOk le P ops (masks ops.toList) (x - 1000) (y - 1000) && drawOkX le P ops (x - 1000) (y - 1000) (halves r).1 && drawOkX le P ops (y - 1000) (x - 1000) (halves r).2
    | false => drawOk le P ops (x :: y :: r)
  | l => drawOk le P ops l
theorem draw_wpB {le : Nat} {P : Program} {ro : Option Nat} {N : Nat} {D : List Nat} {H0 : Hp} {w0 : World} {ops : Array Oper} {n id : Nat} (hm : P.follows .mixedOrders = true) {ord : List Nat} (hok : drawOkB le P ops ord = true) (hd : dstOk n ops = true) {K : S → Hp → Prop} {Q : Exit → Act → World → Prop}
    (hq : ∀ a w σ H, R n D a σ → SubF D H0 w0 H w → K σ H → Q .normal a w) {a : Act} {w : World} {σ : S} {H : Hp} (hR : R n D a σ) (hs : SubF D H0 w0 H w) (h : dregB le P ops K ord σ H) :
    (Code.region id ops true).wpIn (Fw ro) N P Q a w := by
  unfold drawOkB at hok
  unfold dregB at h
  split at hok
  · rename_i x y r
    cases hb : Nat.ble 1000 x with
    | false => simp only [hb] at hok h; exact draw_wp hm hok hd hq hR hs h
    | true =>
      simp only [hb, Bool.and_eq_true] at hok h
      obtain ⟨⟨⟨⟨⟨h1, h2⟩, h3⟩, h4⟩, h5⟩, h6⟩ := hok
      refine wpIn_region_any hm ?_
      have hne : x - 1000 ≠ y - 1000 := by intro e; rw [e] at h1; simp at h1
      obtain ⟨a1, a2, a3, a4⟩ := drawOkX_left h5
      obtain ⟨b1, b2, b3, b4⟩ := drawOkX_left h6
      exact draw_two hd hne h4 hq ops.size _ _ _ a _ σ H a3 b3 (a4 _ (by simpa using h2)) (a4 _ (by simpa using h3)) a1 b1 a2 b2 hR (hs.drew _) (treg_of _ σ H h.1) (treg_of _ σ H h.2)
  · rename_i hno
    have h' : dreg le P ops K ord σ H := by
      split at h
      · exact absurd rfl (hno _ _ _)
      · exact h
    exact draw_wp hm hok hd hq hR hs h'
end Go.Proofs.YtijmoehbgkibnaaGreatDoor.HL
