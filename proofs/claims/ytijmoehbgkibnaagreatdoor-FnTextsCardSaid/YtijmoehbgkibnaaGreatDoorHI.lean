/- Code and calls over a partial heap. -/
import Derived.Test.YtijmoehbgkibnaaGreatDoorHH
namespace Go.Proofs.YtijmoehbgkibnaaGreatDoor.HL

def thenQ (next : S → Hp → Prop) (Q : Exit → S → Hp → Prop) : Exit → S → Hp → Prop
  | .normal, σ, H => next σ H
  | e, σ, H => Q e σ H
def blkQ (id : Nat) (Q : Exit → S → Hp → Prop) : Exit → S → Hp → Prop
  | .exit id', σ, H => (match Nat.beq id' id with | true => Q .normal σ H | false => Q (.exit id') σ H)
  | e, σ, H => Q e σ H
def cnd (v : Value) (A B : Prop) : Prop :=
  match v with
  | .bool true => A
  | .bool false => B
  | _ => False
/-- A loop: what holds at each round's head, and what each round lowers. -/
def lpE (body : (Exit → S → Hp → Prop) → S → Hp → Prop) (Q : Exit → S → Hp → Prop) (σ : S) (H : Hp) : Prop :=
  ∃ I : Nat → S → Hp → Prop, (∃ n, I n σ H) ∧ ∀ n σ H, I n σ H → body (thenQ (fun σ' H' => ∃ m, m < n ∧ I m σ' H') Q) σ H

/-- The slots of a round: the iterator's values put in. -/
def ups (σ : S) : List Nat → List Value → S
  | p :: ps, x :: xs => ups (up σ p x) ps xs
  | _, _ => σ
/-- What a round hands back to the iterator, and what it leaves in the loop's record. -/
def rdQ (l : Nat) (X : Option Code → Obj) (Z : Value → Hp → Prop) : Exit → S → Hp → Prop
  | .normal, _, A => A l = none → Z (.bool true) (A.put l (X none))
  | .ret, _, A => A l = none → Z (.bool false) (A.put l (X (some .ret)))
  | .exit id, _, A => A l = none → Z (.bool false) (A.put l (X (some (.exit id))))
  | _, _, _ => False
/-- What is done behind a range over a function. -/
def jmpQ (Q : Exit → S → Hp → Prop) (σ : S) (A : Hp) : Option Code → Prop
  | none => Q .normal σ A
  | some .ret => Q .ret σ A
  | some (.exit id) => Q (.exit id) σ A
  | _ => False
/-- A range over a function: whatever its record's number is, the iterator is called with a function that does rounds. -/
def rgE (P : Program) (fv : Value) (ps : List Nat) (body : (Exit → S → Hp → Prop) → S → Hp → Prop) (Q : Exit → S → Hp → Prop) (σ : S) (H : Hp) : Prop :=
  (match fv with | .func (.func _) _ _ => True | _ => False) ∧ ∀ (l : Nat) (X : Option Code → Obj), H l = none →
    (∀ (xs : List Value) (A : Hp) (Z : Value → Hp → Prop), xs.length = ps.length → A l = none → body (rdQ l X Z) (ups σ ps xs) A → callV P (.func (.yield l) #[] #[]) xs (A.put l (X none)) Z) →
    callV P fv [.func (.yield l) #[] #[]] (H.put l (X none)) (fun _ H2 => ∃ A j, H2 = A.put l (X j) ∧ A l = none ∧ jmpQ Q σ A j)
def noQ : Exit → S → Hp → Prop := fun _ _ _ => False

def cev (P : Program) (od : Nat → Nat × List Nat) : Code → (Exit → S → Hp → Prop) → S → Hp → Prop
  | .skip, Q, σ, H => Q .normal σ H
  | .label _, Q, σ, H => Q .normal σ H
  | .region _ ops false, Q, σ, H => regEv P ops (Q .normal) (List.range ops.size) σ H
  | .region id ops true, Q, σ, H => dregB (od id).1 P ops (Q .normal) (od id).2 σ H
  | .seq a b, Q, σ, H => cev P od a (thenQ (cev P od b Q) Q) σ H
  | .cond c x y, Q, σ, H => cnd (evs σ c) (cev P od x Q σ H) (cev P od y Q σ H)
  | .block id c, Q, σ, H => cev P od c (blkQ id Q) σ H
  | .loop c, Q, σ, H => lpE (cev P od c) Q σ H
  | .exit id, Q, σ, H => Q (.exit id) σ H
  | .ret, Q, σ, H => Q .ret σ H
  | .rangeFunc f ps as b, Q, σ, H => rgE P (evs σ f) ps.toList (fun Q' σ' H' => cev P od as (thenQ (cev P od b Q') noQ) σ' H') Q σ H
  | .scope _, _, _, _ | .goto _, _, _, _ | .refuse _, _, _, _ => False

def codeOk (P : Program) (od : Nat → Nat × List Nat) (n : Nat) (top : Bool) : Code → Bool
  | .region _ ops false => dstOk n ops
  | .region id ops true => dstOk n ops && drawOkB (od id).1 P ops (od id).2
  | .seq a b => codeOk P od n top a && codeOk P od n top b
  | .cond _ x y => codeOk P od n top x && codeOk P od n top y
  | .block _ c => codeOk P od n top c
  | .loop c => codeOk P od n top c
  | .rangeFunc _ ps as b => top && codeOk P od n false as && codeOk P od n false b && ps.toList.all (fun p => Nat.blt p n)
  | _ => true

/-- 'wpIn_loop' with a measure that stands in no slot. -/
theorem wp_loop_ghost {F : Fence} {N : Nat} {P : Program} {Q : Exit → Act → World → Prop} {c : Code} {a : Act} {w : World} (I : Nat → Act → World → Prop) (n : Nat) (h0 : I n a w)
    (round : ∀ n a w, I n a w → c.wpIn F N P (Exit.then (fun a' w' => ∃ m, m < n ∧ I m a' w') Q) a w) : (Code.loop c).wpIn F N P Q a w := by
  intro b k cs hro hb hr
  have h1 : ∀ (a : Act) (w : World), (lone (b.atR a (.code (.loop c) :: k)) cs w).fenced P F := fun a w => fenced_calm (fr := b.atR a (.code (.loop c) :: k)) hb hr rfl
  have h2 : ∀ (a : Act) (w : World), (lone (b.atR a (.inLoop c :: k)) cs w).fenced P F := fun a w => fenced_calm (fr := b.atR a (.inLoop c :: k)) hb hr rfl
  have key : ∀ n a w, I n a w → ∃ e a' w', Q e a' w' ∧ ArrivesIn (Machine.fenced P F) P (lone (b.atR a (.code c :: .inLoop c :: k)) cs w) b k cs e a' w' := by
    intro n
    induction n using Nat.strongRecOn with
    | _ n ih =>
      intro a w hI
      obtain ⟨e, a₁, w₁, hq, harr⟩ := round n a w hI b (.inLoop c :: k) cs hro hb hr
      cases e with
      | normal =>
        obtain ⟨m, hlt, hI₁⟩ := hq
        obtain ⟨e₂, a₂, w₂, hq₂, harr₂⟩ := ih m hlt a₁ w₁ hI₁
        exact ⟨e₂, a₂, w₂, hq₂, .of_steps (StepsIn.trans harr (.one (h2 a₁ w₁) stepR_inLoop)) harr₂⟩
      | exit id => exact ⟨_, a₁, w₁, hq, .pass (x := .inLoop c) rfl (fun _ _ => .inl (by simp)) harr⟩
      | goto l => exact ⟨_, a₁, w₁, hq, .pass (x := .inLoop c) rfl (fun _ _ => .inl (by simp)) harr⟩
      | ret => exact ⟨_, a₁, w₁, hq, .pass (x := .inLoop c) rfl (fun _ _ => .inl (by simp)) harr⟩
      | panic ch => exact ⟨_, a₁, w₁, hq, .pass (x := .inLoop c) rfl (fun _ _ => .inl (by simp)) harr⟩
      | outgrown => exact ⟨_, a₁, w₁, hq, .pass (x := .inLoop c) rfl (fun _ _ => .inl (by simp)) harr⟩
  obtain ⟨e, a', w', hq, harr⟩ := key n a w h0
  exact ⟨e, a', w', hq, .of_steps (.one (h1 a w) stepR_loop) harr⟩

/-- What is told of the slots and of a partial heap, told of the frame and of the world. -/
def liftQ (top : Bool) (D : List Nat) (H0 : Hp) (w0 : World) (n : Nat) (Q : Exit → S → Hp → Prop) : Exit → Act → World → Prop := fun e a w => ∃ D' σ H, (top = false → D' = D) ∧ R n D' a σ ∧ SubF D' H0 w0 H w ∧ Q e σ H

theorem ups_at {n : Nat} : ∀ (ps : List Nat) (xs : List Value) (tmps : Array Value) (σ : S), (∀ p ∈ ps, p < n) → tmps.size = n → (∀ t, tmps.getD t undef = σ t) →
    ((ps.zip xs).foldl (fun tmps x => tmps.setIfInBounds x.1 x.2) tmps).size = n ∧ ∀ t, ((ps.zip xs).foldl (fun tmps x => tmps.setIfInBounds x.1 x.2) tmps).getD t undef = ups σ ps xs t
  | [], _, tmps, σ, _, hs, h => by simp only [List.zip_nil_left, List.foldl_nil, ups]; exact ⟨hs, h⟩
  | p :: ps, [], tmps, σ, _, hs, h => by simp only [List.zip_nil_right, List.foldl_nil, ups]; exact ⟨hs, h⟩
  | p :: ps, x :: xs, tmps, σ, hp, hs, h => by
    simp only [List.zip_cons_cons, List.foldl_cons, ups]
    refine ups_at ps xs _ _ (fun q hq => hp q (by simp [hq])) (by simp [hs]) (fun t => ?_)
    have hpn := hp p (by simp)
    rw [up_apply, Array.getD_eq_getD_getElem?]
    by_cases e : t = p
    · subst e
      rw [if_pos rfl, Array.getElem?_setIfInBounds_self_of_lt (by rw [hs]; exact hpn)]
      rfl
    · rw [if_neg e, Array.getElem?_setIfInBounds_ne (Ne.symm e)]
      have := h t
      rwa [Array.getD_eq_getD_getElem?] at this

theorem Loop_busy (s : LoopState) (h : s ≠ .busy) : (s == LoopState.busy) = false := by cases s <;> first | rfl | exact absurd rfl h

section rg
variable {P : Program} {od : Nat → Nat × List Nat}
/-- A round, by its text. -/
theorem RT_of_cev {n : Nat} {l : Nat} {ps : Array Tmp} {as b : Code} {lr : Loop} (hrec : lr.state = .ready) (hpend : lr.pending = none)
    (hA : ∀ (Q : Exit → S → Hp → Prop) (D : List Nat) (H0 : Hp) (w0 : World) (a : Act) (w : World) (σ : S) (H : Hp), R n D a σ → SubF D H0 w0 H w → cev P od as Q σ H → as.wpIn (Fw (some l)) 0 P (liftQ false D H0 w0 n Q) a w)
    (hB : ∀ (Q : Exit → S → Hp → Prop) (D : List Nat) (H0 : Hp) (w0 : World) (a : Act) (w : World) (σ : S) (H : Hp), R n D a σ → SubF D H0 w0 H w → cev P od b Q σ H → b.wpIn (Fw (some l)) 0 P (liftQ false D H0 w0 n Q) a w)
    {X : Option Code → Obj} (hX : ∀ j : Option Code, X j = .loop { lr with state := (if j.isNone then .ready else .done), pending := j }) {tmps : Array Value} {σ : S} (hs : tmps.size = n) (hat : ∀ t, tmps.getD t undef = σ t)
    {A : Hp} {Z : Value → Hp → Prop} {f : FuncId} (hn : A l = none) (h : cev P od as (thenQ (cev P od b (rdQ l X Z)) noQ) σ A) : RT P l f tmps as b (A.put l (X none)) Z := by
  intro w hw
  have hsub : Sub A w := (Le.put _ hn).sub hw
  have hl := hw l _ (Hp.put_same _ _ _)
  have hlt : l < w.heap.size := hw.lt (Hp.put_same A l _)
  have hX0 : X none = .loop lr := by
    rw [hX none]
    cases lr
    simp only at hrec hpend
    subst hrec hpend
    rfl
  rw [hX0] at hl
  refine roundIn_of_wpIn (F := Fence.wide) trivial ?_
  show as.wpIn (Fw (some l)) 0 P _ _ _
  refine wpIn_mono (hA _ [] A w { tmps := tmps, defers := [] } w σ A ⟨rfl, hs, hat⟩ ⟨hsub, Fr.refl A w, List.nodup_nil, fun r hr => absurd hr (by simp)⟩ h) ?_
  rintro e a₁ w₁ ⟨D, σ₁, A₁, hD, hR₁, hs₁, hq⟩
  have hD := hD rfl
  subst hD
  cases e <;> simp only [thenQ, noQ] at hq <;> try exact hq.elim
  obtain ⟨hn₁, hl₁⟩ := hs₁.fr.keep l hlt hn
  rw [hl] at hl₁
  have hlt₁ : l < w₁.heap.size := Nat.lt_of_lt_of_le hlt hs₁.fr.size
  let w₂ : World := { w₁ with heap := w₁.heap.setIfInBounds l (.loop { lr with state := .busy }) }
  have hl₂ : w₂.heap[l]? = some (.loop { lr with state := .busy }) := by simp [w₂, hlt₁]
  have hne₂ : ∀ b, b ≠ l → w₂.heap[b]? = w₁.heap[b]? := fun b hb => by simp only [w₂]; rw [Array.getElem?_setIfInBounds_ne (Ne.symm hb)]
  have hsz₂ : w₂.heap.size = w₁.heap.size := by simp [w₂]
  have hbr : (Instr.beginRound l).run P w₁ = .ok () w₂ := by
    exact run_beginRound hl₁ hrec
  have hs₂ : Sub A₁ w₂ := fun b o hb => by
    have hb' : b ≠ l := by rintro rfl; rw [hn₁] at hb; exact absurd hb (by simp)
    rw [hne₂ b hb']
    exact hs₁.sub b o hb
  refine ⟨w₂, hbr, ?_⟩
  refine wpIn_mono (hB _ [] A₁ w₂ a₁ w₂ σ₁ A₁ hR₁ ⟨hs₂, Fr.refl A₁ w₂, List.nodup_nil, fun r hr => absurd hr (by simp)⟩ hq) ?_
  rintro e a₃ w₃ ⟨D, σ₃, A₃, -, hR₃, hs₃, hq₃⟩
  obtain ⟨hn₃, hl₃⟩ := hs₃.fr.keep l (by rw [hsz₂]; exact hlt₁) hn₁
  rw [hl₂] at hl₃
  have hlt₃ : l < w₃.heap.size := Nat.lt_of_lt_of_le (by rw [hsz₂]; exact hlt₁) hs₃.fr.size
  have fin : ∀ (j : Option Code) (v : Value), v = .bool j.isNone → Z v (A₃.put l (X j)) →
      ∃ v' w', (Instr.endRound l j).run P w₃ = .ok v' w' ∧ ∃ v H', Ending.returned v' = .returned v ∧ Sub H' w' ∧ Fr (A.put l (X none)) H' w w' ∧ Z v H' := by
    intro j v hv hz
    let w₄ : World := { w₃ with heap := w₃.heap.setIfInBounds l (X j) }
    have hne₄ : ∀ b, b ≠ l → w₄.heap[b]? = w₃.heap[b]? := fun b hb => by simp only [w₄]; rw [Array.getElem?_setIfInBounds_ne (Ne.symm hb)]
    refine ⟨v, w₄, ?_, v, A₃.put l (X j), rfl, fun b o hb => ?_, ⟨?_, fun b hb hbn => ?_, ?_, ?_, ?_⟩, hz⟩
    · subst hv
      simp only [w₄, hX]
      exact run_endRound (r := { lr with state := .busy }) j hl₃
    · by_cases e : b = l
      · subst e; rw [Hp.put_same] at hb; rw [← hb]; simp [w₄, hlt₃]
      · rw [Hp.put_ne _ _ e] at hb; rw [hne₄ b e]; exact hs₃.sub b o hb
    · have h1 := hs₁.fr.size
      have h3 := hs₃.fr.size
      have h4 : w₄.heap.size = w₃.heap.size := by simp [w₄]
      omega
    · have e : b ≠ l := by rintro rfl; rw [Hp.put_same] at hbn; exact absurd hbn (by simp)
      rw [Hp.put_ne _ _ e] at hbn
      obtain ⟨g1, g2⟩ := hs₁.fr.keep b hb hbn
      obtain ⟨g3, g4⟩ := hs₃.fr.keep b (by rw [hsz₂]; exact Nat.lt_of_lt_of_le hb hs₁.fr.size) g1
      exact ⟨by rw [Hp.put_ne _ _ e]; exact g3, by rw [hne₄ b e, g4, hne₂ b e, g2]⟩
    · exact hs₃.fr.os.trans hs₁.fr.os
    · exact hs₃.fr.tape.trans hs₁.fr.tape
    · exact hs₃.fr.output.trans hs₁.fr.output
  cases e <;> simp only [rdQ] at hq₃ <;> try exact hq₃.elim
  case normal => exact fin none _ rfl (hq₃ hn₃)
  case exit id => exact fin (some (.exit id)) _ rfl (hq₃ hn₃)
  case ret => exact fin (some .ret) _ rfl (hq₃ hn₃)
end rg

theorem callFunc_run {P : Program} {f : FuncId} {args : Array Value} {w : World} (hok : callOk P f = true) : (callFunc f args).run P w = .ok (.enter f args) w := by
  unfold callOk at hok
  cases hf : P.funcs[f]? with
  | none => simp [hf] at hok
  | some fn =>
    simp only [hf, Bool.and_eq_true, Bool.not_eq_true', beq_eq_false_iff_ne, ne_eq] at hok
    have h1 : (fn.name == "runtime.NumGoroutine") = false := by simpa using hok.1
    have h2 : fn.body.isNone = false := by cases hb : fn.body <;> simp_all
    simp only [callFunc, program, Sem.run_bind, Sem.run, Result.andThen, hf, h1, h2, Bool.false_eq_true, if_false]
    rfl

theorem cev_sound {P : Program} {od : Nat → Nat × List Nat} {n : Nat} (hm : P.follows .mixedOrders = true) : ∀ (c : Code) (top : Bool), codeOk P od n top c = true → ∀ (ro : Option Nat) (N : Nat), (top = true → ro = none) → ∀ (Q : Exit → S → Hp → Prop) (D : List Nat) (H0 : Hp) (w0 : World) (a : Act) (w : World) (σ : S) (H : Hp),
    R n D a σ → SubF D H0 w0 H w → cev P od c Q σ H → c.wpIn (Fw ro) N P (liftQ top D H0 w0 n Q) a w := by
  intro c
  induction c with
  | skip => intro top _ ro N _ Q D H0 w0 a w σ H hR hs h; exact wpIn_skip ⟨D, σ, H, fun _ => rfl, hR, hs, h⟩
  | label l => intro top _ ro N _ Q D H0 w0 a w σ H hR hs h; exact wpIn_label ⟨D, σ, H, fun _ => rfl, hR, hs, h⟩
  | region id ops draw =>
    intro top hok ro N _ Q D H0 w0 a w σ H hR hs h
    cases draw with
    | false =>
      simp only [codeOk] at hok
      exact wpIn_region (regEv_sound hok (K := Q .normal) (fun a w σ H hR hs hk => ⟨D, σ, H, fun _ => rfl, hR, hs, hk⟩) _ a w σ H hR hs h)
    | true =>
      simp only [codeOk, Bool.and_eq_true] at hok
      exact draw_wpB hm hok.2 hok.1 (K := Q .normal) (fun a w σ H hR hs hk => ⟨D, σ, H, fun _ => rfl, hR, hs, hk⟩) hR hs h
  | seq x y ihx ihy =>
    intro top hok ro N hro Q D H0 w0 a w σ H hR hs h
    simp only [codeOk, Bool.and_eq_true] at hok
    refine wpIn_seq (wpIn_mono (ihx top hok.1 ro N hro _ D H0 w0 a w σ H hR hs h) ?_)
    rintro e a' w' ⟨D', σ', H', hD', hR', hs', hk⟩
    cases e with
    | normal =>
      refine wpIn_mono (ihy top hok.2 ro N hro Q D' H0 w0 a' w' σ' H' hR' hs' hk) ?_
      rintro e a'' w'' ⟨D'', σ'', H'', hD'', hR'', hs'', hk''⟩
      exact ⟨D'', σ'', H'', fun ht => (hD'' ht).trans (hD' ht), hR'', hs'', hk''⟩
    | _ => exact ⟨D', σ', H', hD', hR', hs', hk⟩
  | cond v x y ihx ihy =>
    intro top hok ro N hro Q D H0 w0 a w σ H hR hs h
    simp only [codeOk, Bool.and_eq_true] at hok
    simp only [cev, cnd] at h
    split at h
    · rename_i hv; exact wpIn_cond_true (by rw [hR.eval, hv]) (ihx top hok.1 ro N hro Q D H0 w0 a w σ H hR hs h)
    · rename_i hv; exact wpIn_cond_false (by rw [hR.eval, hv]) (ihy top hok.2 ro N hro Q D H0 w0 a w σ H hR hs h)
    · exact h.elim
  | block id c ih =>
    intro top hok ro N hro Q D H0 w0 a w σ H hR hs h
    simp only [codeOk] at hok
    refine wpIn_block (wpIn_mono (ih top hok ro N hro _ D H0 w0 a w σ H hR hs h) ?_)
    rintro e a' w' ⟨D', σ', H', hD', hR', hs', hk⟩
    cases e with
    | exit id' =>
      simp only [blkQ] at hk
      simp only [Exit.inBlock]
      by_cases hid : id' = id
      · subst hid; simp only [Nat.beq_refl] at hk; rw [if_pos rfl]; exact ⟨D', σ', H', hD', hR', hs', hk⟩
      · have : Nat.beq id' id = false := by
          rw [← Bool.not_eq_true]; intro hh; exact hid (Nat.eq_of_beq_eq_true hh)
        simp only [this] at hk; rw [if_neg hid]; exact ⟨D', σ', H', hD', hR', hs', hk⟩
    | _ => exact ⟨D', σ', H', hD', hR', hs', hk⟩
  | loop c ih =>
    intro top hok ro N hro Q D H0 w0 a w σ H hR hs h
    simp only [codeOk] at hok
    obtain ⟨I, ⟨m, h0⟩, hr⟩ := h
    refine wp_loop_ghost (fun k a w => ∃ D' σ H, (top = false → D' = D) ∧ R n D' a σ ∧ SubF D' H0 w0 H w ∧ I k σ H) m ⟨D, σ, H, fun _ => rfl, hR, hs, h0⟩ ?_
    rintro k a' w' ⟨D', σ', H', hD', hR', hs', hI⟩
    refine wpIn_mono (ih top hok ro N hro _ D' H0 w0 a' w' σ' H' hR' hs' (hr k σ' H' hI)) ?_
    rintro e a'' w'' ⟨D'', σ'', H'', hD'', hR'', hs'', hk⟩
    cases e with
    | normal => obtain ⟨j, hj, hI'⟩ := hk; exact ⟨j, hj, D'', σ'', H'', fun ht => (hD'' ht).trans (hD' ht), hR'', hs'', hI'⟩
    | _ => exact ⟨D'', σ'', H'', fun ht => (hD'' ht).trans (hD' ht), hR'', hs'', hk⟩
  | exit id => intro top _ ro N _ Q D H0 w0 a w σ H hR hs h; exact wpIn_exit ⟨D, σ, H, fun _ => rfl, hR, hs, h⟩
  | ret => intro top _ ro N _ Q D H0 w0 a w σ H hR hs h; exact wpIn_ret ⟨D, σ, H, fun _ => rfl, hR, hs, h⟩
  | rangeFunc f ps as b ih1 ih2 =>
    intro top hok ro N hro Q D H0 w0 a w σ H hR hs h
    simp only [codeOk, Bool.and_eq_true] at hok
    obtain ⟨⟨⟨htop, hoka⟩, hokb⟩, hokp⟩ := hok
    subst htop
    have hro := hro rfl
    subst hro
    have hps : ∀ p ∈ ps.toList, p < n := fun p hp => by
      rw [List.all_eq_true] at hokp
      simpa using hokp p hp
    refine wpIn_rangeFunc fun fn _ => ?_
    let lr : Loop := { state := .ready, pending := none, fn, tmps := a.tmps, params := ps, assign := as, body := b, defers := w.heap.size }
    let X : Option Code → Obj := fun j => .loop { lr with state := (if j.isNone then .ready else .done), pending := j }
    let w₁ : World := (w.alloc (.deferred (some []))).alloc (.loop lr)
    let l := w.heap.size + 1
    have hHl : H l = none := by
      cases ho : H l with
      | none => rfl
      | some o => have := hs.sub.lt ho; omega
    have hHr : H w.heap.size = none := hs.sub.none_at
    have hsub₁ : Sub (H.put l (X none)) w₁ := by
      have := ((hs.sub.put_new (.deferred (some []))).put_new (X none))
      intro b' o hb
      by_cases e : b' = l
      · subst e
        rw [Hp.put_same] at hb
        refine this _ _ ?_
        rw [show (World.heap { w with heap := w.heap.push (Obj.deferred (some [])) }).size = l from Array.size_push _]
        rw [Hp.put_same]; exact hb
      · rw [Hp.put_ne _ _ e] at hb
        have e2 : b' ≠ w.heap.size := by rintro rfl; rw [hHr] at hb; exact absurd hb (by simp)
        refine this _ _ ?_
        rw [Hp.put_ne _ _ (by rw [show (World.heap { w with heap := w.heap.push (Obj.deferred (some [])) }).size = l from Array.size_push _]; exact e), Hp.put_ne _ _ e2]
        exact hb
    have hsz₁ : w₁.heap.size = w.heap.size + 2 := by
      show ((w.heap.push _).push _).size = _
      rw [Array.size_push, Array.size_push]
    have hold₁ : ∀ b', b' < w.heap.size → w₁.heap[b']? = w.heap[b']? := fun b' hb => by
      simp only [w₁, World.alloc]
      rw [Array.getElem?_push, Array.getElem?_push]
      simp only [Array.size_push]
      rw [if_neg (by omega), if_neg (by omega)]
    have hr₁ : w₁.heap[w.heap.size]? = some (.deferred (some [])) := by
      simp only [w₁, World.alloc]
      rw [Array.getElem?_push]
      simp
    have hcall := h.2 l X hHl (fun xs A Z hxs hA hb => by
      show hp P (Instr.yield l (#[].toList ++ xs).toArray) (A.put l (X none)) (nextH P Z)
      simp only [Instr.yield, Instr.getLoop, getObj, hp_bind', hp, Hp.put_same, X, hp_pure]
      rw [if_neg (by simpa [lr] using hxs)]
      have u := ups_at (n := n) ps.toList xs a.tmps σ hps hR.size hR.at_
      have e0 : (ps.zip xs.toArray).foldl (fun tmps (x : Tmp × Value) => tmps.setIfInBounds x.1 x.2) a.tmps = (ps.toList.zip xs).foldl (fun tmps x => tmps.setIfInBounds x.1 x.2) a.tmps := by
        rw [← Array.foldl_toList, Array.toList_zip]
      rw [← e0] at u
      exact RT_of_cev (n := n) (ps := ps) (lr := lr) rfl rfl
        (fun Q D H0 w0 a w σ H hR hs h => ih1 false hoka (some l) 0 (by simp) Q D H0 w0 a w σ H hR hs h)
        (fun Q D H0 w0 a w σ H hR hs h => ih2 false hokb (some l) 0 (by simp) Q D H0 w0 a w σ H hR hs h)
        (fun j => rfl) u.1 u.2 hA hb)
    have hend : ∀ w' H', Sub H' w' → Fr (H.put l (X none)) H' w₁ w' → (∃ A j, H' = A.put l (X j) ∧ A l = none ∧ jmpQ Q σ A j) →
        rangePost (Fw none) N P l (liftQ true D H0 w0 n Q) { a with defers := [mkD w.heap.size] ++ a.defers } (.returned undef) w' := by
      rintro w' H' hs' fr' ⟨A, j, rfl, hAl, hj⟩
      have hl' : w'.heap[l]? = some (X j) := hs' l _ (Hp.put_same _ _ _)
      have hlt' : l < w'.heap.size := hs'.lt (Hp.put_same A l _)
      let w₄ : World := w'.putObj l (.loop { lr with state := .exhausted, pending := j })
      have hne₄ : ∀ b, b ≠ l → w₄.heap[b]? = w'.heap[b]? := fun b hb => by simp only [w₄, World.putObj]; rw [Array.getElem?_setIfInBounds_ne (Ne.symm hb)]
      have hsz₄ : w₄.heap.size = w'.heap.size := by simp [w₄, World.putObj]
      have hrun : (Instr.endLoop l).run P w' = .ok j w₄ := by
        have := run_endLoop (P := P) hl' (by cases j <;> simp)
        exact this
      have hfr : Fr H A w w₄ := by
        refine ⟨?_, fun b' hb hbn => ?_, fr'.os, fr'.tape, fr'.output⟩
        · have := fr'.size; omega
        · have e : b' ≠ l := by simp only [l]; omega
          obtain ⟨g1, g2⟩ := fr'.keep b' (by omega) (by rw [Hp.put_ne _ _ e]; exact hbn)
          rw [Hp.put_ne _ _ e] at g1
          exact ⟨g1, by rw [hne₄ b' e, g2, hold₁ b' hb]⟩
      have hsubA : Sub A w₄ := fun b' o hb => by
        have e : b' ≠ l := by rintro rfl; rw [hAl] at hb; exact absurd hb (by simp)
        rw [hne₄ b' e]
        exact hs' b' o (by rw [Hp.put_ne _ _ e]; exact hb)
      have hD : SubF (w.heap.size :: D) H0 w0 A w₄ := by
        have hst := hs.step hsubA hfr
        refine ⟨hst.sub, hst.fr, List.nodup_cons.mpr ⟨fun hm => by have := (hs.marks _ hm).2.1; omega, hs.nodup⟩, fun q hq => ?_⟩
        rcases List.mem_cons.mp hq with rfl | hq
        · have e : w.heap.size ≠ l := by simp only [l]; omega
          obtain ⟨g1, g2⟩ := fr'.keep w.heap.size (by omega) (by rw [Hp.put_ne _ _ e]; exact hHr)
          rw [Hp.put_ne _ _ e] at g1
          exact ⟨hs.fr.size, by have := fr'.size; omega, g1, by rw [hne₄ _ e, g2]; exact hr₁⟩
        · exact hst.marks q hq
      have hRD : R n (w.heap.size :: D) { a with defers := [mkD w.heap.size] ++ a.defers } σ := ⟨by simp [hR.defers], hR.size, hR.at_⟩
      refine ⟨j, w₄, hrun, ?_⟩
      cases j with
      | none => exact ⟨_, σ, A, by simp, hRD, hD, hj⟩
      | some c =>
        cases c <;> simp only [jmpQ] at hj <;> try exact hj.elim
        case exit id => exact wpIn_exit ⟨_, σ, A, by simp, hRD, hD, hj⟩
        case ret => exact wpIn_ret ⟨_, σ, A, by simp, hRD, hD, hj⟩
    unfold callV at hcall
    split at hcall
    · rename_i g first caps hv
      refine ⟨l, [mkD w.heap.size], w₁, { target := .fn (.func g) caps, args := first ++ #[Value.func (Fn.yield l) #[] #[]] }, w₁, g, (first.toList ++ [Value.func (Fn.yield l) #[] #[]] ++ caps.toList).toArray, w₁, run_enterLoop_outer _ _ _ _ _, ?_, fun _ _ => trivial, ?_, Fw_depth none, ?_⟩
      · rw [hR.eval]
        simp only [resolve, rangeCall, List.map_toArray, List.map_cons, List.map_nil]
        rw [hv]
        rfl
      · have := callFunc_run (P := P) (args := first ++ #[Value.func (Fn.yield l) #[] #[]] ++ caps) (w := w₁) hcall.1
        rw [show (first.toList ++ [Value.func (Fn.yield l) #[] #[]] ++ caps.toList).toArray = first ++ #[Value.func (.yield l) #[] #[]] ++ caps by simp]
        exact this
      · refine CallsIn.mono (calls_Fw (hcall.2 w₁ hsub₁)) ?_
        rintro e w' ⟨v, H', rfl, hs', fr', hk⟩
        exact hend w' H' hs' fr' hk
    · rename_i hv; have := h.1; rw [hv] at this; exact this.elim
    · exact hcall.elim
  | scope c ih => intro top _ ro N _ Q D H0 w0 a w σ H hR hs h; exact h.elim
  | goto l => intro top _ ro N _ Q D H0 w0 a w σ H hR hs h; exact h.elim
  | refuse s => intro top _ ro N _ Q D H0 w0 a w σ H hR hs h; exact h.elim

def resL (P : Program) (σ : S) (H : Hp) : List ResultVar → Option (List Value)
  | [] => some []
  | .tmp t :: r =>
    match resL P σ H r with
    | some l => some (σ t :: l)
    | none => none
  | .cell a t :: r =>
    match aggB P t with
    | some false =>
      (match vLoad (σ a) H, resL P σ H r with
      | some v, some l => some (v :: l)
      | _, _ => none)
    | some true =>
      (match szO P t with
      | some n => (match vLoadN n (σ a) H, resL P σ H r with
        | some v, some l => some (v :: l)
        | _, _ => none)
      | none => none)
    | none => none
def resV : List Value → Value
  | [v] => v
  | l => .tuple l.toArray
/-- The results, one behind the other. -/
def resK (P : Program) (σ : S) (H : Hp) : List ResultVar → (List Value → Prop) → Prop
  | [], k => k []
  | .tmp t :: r, k => resK P σ H r (fun l => k (σ t :: l))
  | .cell a t :: r, k =>
    match aggB P t with
    | some false => ob (vLoad (σ a) H) (fun v => resK P σ H r (fun l => k (v :: l)))
    | some true =>
      (match szO P t with
      | some n => ob (vLoadN n (σ a) H) (fun v => resK P σ H r (fun l => k (v :: l)))
      | none => False)
    | none => False
theorem resK_ex {P : Program} {σ : S} {H : Hp} : ∀ {rs : List ResultVar} {k : List Value → Prop}, resK P σ H rs k → ∃ l, resL P σ H rs = some l ∧ k l
  | [], k, h => ⟨[], rfl, h⟩
  | .tmp t :: r, k, h => by
    obtain ⟨l, hl, hk⟩ := resK_ex (rs := r) h
    exact ⟨σ t :: l, by simp only [resL, hl], hk⟩
  | .cell a t :: r, k, h => by
    simp only [resK] at h
    cases ht : aggB P t with
    | none => simp only [ht] at h
    | some b =>
      cases b with
      | false =>
        simp only [ht] at h
        obtain ⟨v, hv, h2⟩ := ob_ex h
        obtain ⟨l, hl, hk⟩ := resK_ex (rs := r) h2
        exact ⟨v :: l, by simp only [resL, ht, hv, hl], hk⟩
      | true =>
        simp only [ht] at h
        cases hn : szO P t with
        | none => simp only [hn] at h
        | some n =>
          simp only [hn] at h
          obtain ⟨v, hv, h2⟩ := ob_ex h
          obtain ⟨l, hl, hk⟩ := resK_ex (rs := r) h2
          exact ⟨v :: l, by simp only [resL, ht, hn, hv, hl], hk⟩
/-- What a call hands back. -/
def retQ (P : Program) (rs : List ResultVar) (K : Value → Hp → Prop) : Exit → S → Hp → Prop
  | .normal, σ, H => resK P σ H rs (fun l => K (resV l) H)
  | .ret, σ, H => resK P σ H rs (fun l => K (resV l) H)
  | _, _, _ => False

def resF (σ : S) : ResultVar → Sem Value
  | .tmp t => pure (σ t)
  | .cell a t => do loadVar t (← asAddr (σ a))
theorem val_cons (P : Program) (H : Hp) (σ : S) (x : ResultVar) (r : List ResultVar) (v : Value) (l : List Value) (h1 : val P (resF σ x) H = some v) (h2 : val P (r.mapM (resF σ)) H = some l) :
    val P ((x :: r).mapM (resF σ)) H = some (v :: l) := by
  rw [List.mapM_cons, val_bind', h1, Option.bind_some, val_bind', h2, Option.bind_some, val_pure]

theorem val_results (P : Program) (H : Hp) (σ : S) : ∀ (rs : List ResultVar) (l : List Value), resL P σ H rs = some l → val P (rs.mapM (resF σ)) H = some l
  | [], l, h => by simp only [resL, Option.some.injEq] at h; subst h; rfl
  | .tmp t :: r, l, h => by
    simp only [resL] at h
    cases hr : resL P σ H r with
    | none => simp [hr] at h
    | some l' =>
      simp only [hr, Option.some.injEq] at h
      subst h
      exact val_cons P H σ _ r _ l' rfl (val_results P H σ r l' hr)
  | .cell a t :: r, l, h => by
    simp only [resL] at h
    cases ht : aggB P t with
    | none => simp [ht] at h
    | some b =>
      cases hr : resL P σ H r with
      | none =>
        cases b with
        | false => simp only [ht, hr] at h; split at h <;> simp_all
        | true => simp only [ht, hr] at h; split at h <;> (try split at h) <;> simp_all
      | some l' =>
        cases b with
        | false =>
          simp only [ht, hr] at h
          cases hv : vLoad (σ a) H with
          | none => simp [hv] at h
          | some v =>
            simp only [hv, Option.some.injEq] at h
            subst h
            refine val_cons P H σ _ r _ l' ?_ (val_results P H σ r l' hr)
            unfold vLoad at hv
            split at hv
            · rename_i ad hs
              simp only [resF, hs, asAddr, val_bind', val_pure, Option.bind_some, loadVar, val_isAgg, ht, Bool.false_eq_true, if_false, load, val, hv]
            · simp at hv
        | true =>
          simp only [ht, hr] at h
          cases hn : szO P t with
          | none => simp [hn] at h
          | some n =>
            simp only [hn] at h
            cases hv : vLoadN n (σ a) H with
            | none => simp [hv] at h
            | some v =>
              simp only [hv, Option.some.injEq] at h
              subst h
              refine val_cons P H σ _ r _ l' ?_ (val_results P H σ r l' hr)
              unfold vLoadN at hv
              split at hv
              · rename_i ad hs
                cases hc : rdCells H ad 0 n with
                | none => simp [hc] at hv
                | some cs =>
                  simp only [hc, Option.map_some, Option.some.injEq] at hv
                  subst hv
                  simp only [resF, hs, asAddr, val_bind', val_pure, Option.bind_some, loadVar, val_isAgg, ht, if_true, val_sizeOf, hn, val_loadCells P H ad n cs hc]
              · simp at hv

theorem resV_eq (l : List Value) : (if h : l.toArray.size = 1 then l.toArray[0] else Value.tuple l.toArray) = resV l := by
  match l with
  | [] => rfl
  | [v] => rfl
  | a :: b :: r => simp [resV]

theorem results_run {P : Program} {fn : Func} {n : Nat} {D : List Nat} {a : Act} {w : World} {σ : S} {H : Hp} (hR : R n D a σ) (hs : Sub H w) {l : List Value} (h : resL P σ H fn.results.toList = some l) :
    (results fn a.tmps).run P w = .ok (resV l) w := by
  refine val_run P _ H _ w ?_ hs
  have e0 : results fn a.tmps = (do let vs ← fn.results.mapM (resF σ); pure (if h : vs.size = 1 then vs[0] else .tuple vs)) := by
    unfold results
    congr 1
    congr 1
    funext x
    cases x with
    | tmp t => simp only [resF, hR.at_]
    | cell a t => simp only [resF, hR.at_]
  rw [e0, Array.mapM_eq_mapM_toList, ← resV_eq]
  have e := val_results P H σ fn.results.toList l h
  change val P (Sem.bind (Sem.bind (fn.results.toList.mapM (resF σ)) fun x => Sem.pure x.toArray) _) H = _
  rw [val_bind, val_bind, e]
  rfl

/-- A frame on its way out: its marks are shut. -/
theorem leaves_marks {P : Program} {fn : Func} {a : Act} {H0 : Hp} {w0 : World} {σ : S} {H : Hp} {K : Value → Hp → Prop} : ∀ (D : List Nat) (w : World), SubF D H0 w0 H w → (∀ t, a.tmps.getD t undef = σ t) → (∃ l, resL P σ H fn.results.toList = some l ∧ K (resV l) H) →
    LeavesInM Fence.wide 0 P fn a.tmps (fun e w' => ∃ v H', e = .returned v ∧ Sub H' w' ∧ Fr H0 H' w0 w' ∧ K v H') (D.map mkD) .returning w
  | [], w, hs, hat, ⟨l, hl, hk⟩ => ⟨_, results_run (n := a.tmps.size) ⟨rfl, rfl, hat⟩ hs.sub (a := { tmps := a.tmps, defers := [] }) (D := []) hl, resV l, H, rfl, hs.sub, hs.fr, hk⟩
  | r :: D, w, hs, hat, hk => by
    obtain ⟨h1, h2, h3, h4⟩ := hs.marks r (by simp)
    let w' : World := { w with heap := w.heap.setIfInBounds r (.deferred none) }
    have hne : ∀ b, b ≠ r → w'.heap[b]? = w.heap[b]? := fun b hb => by simp only [w']; rw [Array.getElem?_setIfInBounds_ne (Ne.symm hb)]
    have hsz : w'.heap.size = w.heap.size := by simp [w']
    refine ⟨by simp, .inl ⟨r, w', rfl, ?_, leaves_marks D w' ⟨fun b o hb => ?_, ⟨?_, fun b hb hbn => ?_, hs.fr.os, hs.fr.tape, hs.fr.output⟩, (List.nodup_cons.mp hs.nodup).2, fun q hq => ?_⟩ hat hk⟩⟩
    · exact run_takeDeferred h4
    · have hb' : b ≠ r := by rintro rfl; rw [h3] at hb; exact absurd hb (by simp)
      rw [hne b hb']; exact hs.sub b o hb
    · rw [hsz]; exact hs.fr.size
    · obtain ⟨g1, g2⟩ := hs.fr.keep b hb hbn
      have hb' : b ≠ r := by omega
      exact ⟨g1, by rw [hne b hb']; exact g2⟩
    · obtain ⟨g1, g2, g3, g4⟩ := hs.marks q (by simp [hq])
      have hb' : q ≠ r := by rintro rfl; exact (List.nodup_cons.mp hs.nodup).1 hq
      exact ⟨g1, by rw [hsz]; exact g2, g3, by rw [hne q hb']; exact g4⟩
/-- A call, by its function's text. -/
theorem HT_of_cev {P : Program} {od : Nat → Nat × List Nat} {f : FuncId} {fn : Func} {c : Code} {args : List Value} {H : Hp} {K : Value → Hp → Prop} (hm : P.follows .mixedOrders = true) (hf : P.funcs[f]? = some fn) (hb : fn.body = some c)
    (hok : codeOk P od fn.ntmps true c = true) (ha : args.length ≤ fn.ntmps) (h : cev P od c (retQ P fn.results.toList K) (S0 args) H) : HT P f args.toArray H K := by
  intro w hs
  refine (callsIn_wide (n := 0)).1 (callsIn_of_wp_marks hf hb trivial ?_)
  have hR : R fn.ntmps [] { tmps := args.toArray ++ Array.replicate (fn.ntmps - args.toArray.size) undef, defers := [] } (S0 args) := by
    refine ⟨rfl, by simp; omega, fun t => ?_⟩
    simp only [S0, Array.getD_eq_getD_getElem?]
    rcases Nat.lt_or_ge t args.length with h1 | h1
    · rw [Array.getElem?_append_left (by simpa using h1)]; simp
    · rw [Array.getElem?_append_right (by simpa using h1), List.getElem?_eq_none h1]
      simp only [List.size_toArray, Array.getElem?_replicate, Option.getD_none]
      split <;> rfl
  refine wpIn_mono (cev_sound hm c true hok none 0 (fun _ => rfl) _ [] H w _ w (S0 args) H hR ⟨hs, Fr.refl H w, List.nodup_nil, fun r hr => absurd hr (by simp)⟩ h) ?_
  rintro e a' w' ⟨D, σ', H', -, hR', hs', hk⟩
  cases e <;> simp only [retQ] at hk <;> try exact hk.elim
  all_goals
    have := leaves_marks (fn := fn) (a := a') D w' hs' hR'.at_ (resK_ex hk)
    rw [← hR'.defers] at this
    exact this
end Go.Proofs.YtijmoehbgkibnaaGreatDoor.HL
namespace Go.Proofs.YtijmoehbgkibnaaGreatDoor.HL
/-- A function's text. -/
def fev (P : Program) (od : Nat → Nat × List Nat) (fn : Func) (args : List Value) (H : Hp) (K : Value → Hp → Prop) : Prop :=
  match fn.body with
  | some c => cev P od c (retQ P fn.results.toList K) (S0 args) H
  | none => False
def fnOk (P : Program) (od : Nat → Nat × List Nat) (fn : Func) (k : Nat) : Bool :=
  match fn.body with
  | some c => codeOk P od fn.ntmps true c && Nat.ble k fn.ntmps
  | none => false
theorem HT_of_fev {P : Program} (od : Nat → Nat × List Nat) {f : FuncId} {fn : Func} {args : List Value} {H : Hp} {K : Value → Hp → Prop} (hm : P.follows .mixedOrders = true) (hf : P.funcs[f]? = some fn)
    (hok : fnOk P od fn args.length = true) (h : fev P od fn args H K) : HT P f args.toArray H K := by
  unfold fnOk at hok
  unfold fev at h
  cases hb : fn.body with
  | none => simp [hb] at hok
  | some c =>
    simp only [hb, Bool.and_eq_true] at hok h
    exact HT_of_cev hm hf hb hok.1 (Nat.le_of_ble_eq_true hok.2) h
/-- One continuation for several ways. -/
def jn (K : S → Hp → Prop) (F : (S → Hp → Prop) → Prop) : Prop := F K
end Go.Proofs.YtijmoehbgkibnaaGreatDoor.HL
