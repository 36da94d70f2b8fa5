/- What single operations that only read come to: the model's own text. -/
import Derived.Test.YtijmoehbgkibnaaGreatDoorHB
import Derived.Laws.Sem
namespace Go.Proofs.YtijmoehbgkibnaaGreatDoor.HL

theorem arr_map {α β : Type} (a : Array α) (f : α → β) : (a.toList.map f).toArray = a.map f := by
  cases a; simp

theorem val_loadCellsFrom (P : Program) (H : Hp) (a : Addr) : ∀ (n i : Nat) (acc : Array Value) (l : List Value), rdCells H a i n = some l →
    val P (loadCellsFrom a i n acc) H = some (acc ++ l.toArray)
  | 0, i, acc, l, h => by
    simp only [rdCells, Option.some.injEq] at h
    subst h
    simp [loadCellsFrom, val_pure]
  | n + 1, i, acc, l, h => by
    simp only [rdCells] at h
    cases hc : H.cell? (a.add i) with
    | none => simp [hc] at h
    | some v =>
      cases hr : rdCells H a (i + 1) n with
      | none => simp [hc, hr] at h
      | some l' =>
        simp only [hc, hr, Option.some.injEq] at h
        subst h
        simp only [loadCellsFrom, val_bind', load, val, hc, Option.bind_some]
        rw [val_loadCellsFrom P H a n (i + 1) (acc.push v) l' hr]
        simp
theorem val_loadCells (P : Program) (H : Hp) (a : Addr) (n : Nat) (l : List Value) (h : rdCells H a 0 n = some l) :
    val P (loadCells a n) H = some l.toArray := by
  rw [loadCells, val_loadCellsFrom P H a n 0 #[] l h]; simp

theorem bnd_sound (P : Program) (H : Hp) (v : Value) (y d l : Nat) (code : BoundsCode) (h : bnd (some v) y d = some l) :
    val P (Instr.sliceBound v y code) H = some l := by
  cases v <;> simp only [bnd] at h <;> try (simp at h; done)
  rename_i k i
  split at h
  · rename_i hi
    simp only [Option.some.injEq] at h
    subst h
    simp only [Instr.sliceBound, asIntOf, val_bind', val_pure, Option.bind_some, if_pos hi]
  · simp at h

theorem val_bounds (P : Program) (H : Hp) (b : Bool) (n c l h : Nat) (lo hi : Option Value) (h1 : bnd hi c n = some h) (h2 : bnd lo h 0 = some l) :
    val P (Instr.sliceBounds b n c lo hi none) H = some (l, h, c) := by
  unfold Instr.sliceBounds
  cases hi with
  | none =>
    simp only [bnd, Option.some.injEq] at h1
    subst h1
    cases lo with
    | none => simp only [bnd, Option.some.injEq] at h2; subst h2; rfl
    | some y =>
      have e := bnd_sound P H y n 0 l (if (none : Option Value).isSome then .slice3C else .sliceB) h2
      simp only [val_bind', val_pure, Option.bind_some, e]
  | some x =>
    have e1 := bnd_sound P H x c n h (if b then .sliceAcap else .sliceAlen) h1
    cases lo with
    | none => simp only [bnd, Option.some.injEq] at h2; subst h2; simp only [val_bind', val_pure, Option.bind_some, e1]
    | some y =>
      have e := bnd_sound P H y h 0 l (if (none : Option Value).isSome then .slice3C else .sliceB) h2
      simp only [val_bind', val_pure, Option.bind_some, e1, e]
theorem val_bounds3 (P : Program) (H : Hp) (b : Bool) (n c l h m : Nat) (lo : Option Value) (x y : Value) (h0 : bnd (some y) c c = some m) (h1 : bnd (some x) m m = some h) (h2 : bnd lo h 0 = some l) :
    val P (Instr.sliceBounds b n c lo (some x) (some y)) H = some (l, h, m) := by
  unfold Instr.sliceBounds
  have e0 := bnd_sound P H y c c m (if b then .slice3Acap else .slice3Alen) h0
  have e1 := bnd_sound P H x m m h .slice3B h1
  cases lo with
  | none => simp only [bnd, Option.some.injEq] at h2; subst h2; simp only [val_bind', val_pure, Option.bind_some, e0, e1]
  | some z =>
    have e := bnd_sound P H z h 0 l (if (some y : Option Value).isSome then .slice3C else .sliceB) h2
    simp only [val_bind', val_pure, Option.bind_some, e0, e1, e]

theorem val_binInt (P : Program) (op : BinOp) (t : TypeId) (v w u : Value) (H : Hp) (h : vInt op v w = some u) : val P (binOp op t v w) H = some u := by
  cases v <;> cases w <;> simp only [vInt] at h <;> try (simp at h; done)
  rename_i k a k' b
  cases op <;> simp only at h <;> split at h <;> (try (simp at h; done)) <;> simp only [Option.some.injEq] at h <;> subst h
  all_goals first
    | (rename_i hk; subst hk; simp [binOp, Op.intArith, Op.intCmp, Op.intBits, val_pure]; done)
    | (rename_i hk; obtain ⟨hk, hb⟩ := hk; subst hk; simp [binOp, Op.intDiv, val_pure, hb]; done)
    | (rename_i hk; have hn : ¬ b < 0 := by omega
       simp [binOp, Op.shift, val_pure, hn]; done)
    | (rename_i hk; subst hk; simp [binOp, Op.intArith, Op.intCmp, Op.intBits, val_pure]; rfl)

theorem val_binStr (P : Program) (op : BinOp) (t : TypeId) (v w u : Value) (H : Hp) (h : vStr op v w = some u) : val P (binOp op t v w) H = some u := by
  cases v <;> cases w <;> simp only [vStr] at h <;> try (simp at h; done)
  rename_i a b
  cases op <;> simp only at h <;> (try (simp at h; done))
  case add =>
    split at h
    · rename_i hk
      simp only [Option.some.injEq] at h
      subst h
      have hn : ¬ (((a.size + b.size : Nat) : Int) > IntKind.i64.max) := by omega
      simp only [binOp, Op.stringOp, if_neg hn, val_pure]
    · simp at h
  all_goals (simp only [Option.some.injEq] at h; subst h; simp [binOp, Op.stringOp, val_pure])

theorem val_eqBoolIn (P : Program) (d : Nat) (t : TypeId) (a b : Bool) (H : Hp) (ht : P.underlying t = some .bool) : val P (Op.equalIn (d + 1) t (.bool a) (.bool b)) H = some (a == b) := by
  simp only [Op.equalIn, val_bind', val_underlying, ht, Option.bind_some, val_pure]
theorem val_eqBool (P : Program) (t : TypeId) (a b : Bool) (H : Hp) (ht : P.underlying t = some .bool) : val P (Op.equal t (.bool a) (.bool b)) H = some (a == b) :=
  val_eqBoolIn P 9999 t a b H ht

theorem val_binBool (P : Program) (op : BinOp) (t : TypeId) (v w u : Value) (H : Hp) (ht : P.underlying t = some .bool) (h : vBool op v w = some u) : val P (binOp op t v w) H = some u := by
  cases v <;> cases w <;> simp only [vBool] at h <;> try (simp at h; done)
  rename_i a b
  cases op <;> simp only at h <;> (try (simp at h; done))
  all_goals (simp only [Option.some.injEq] at h; subst h; simp only [binOp, val_bind', val_eqBool P t a b H ht, Option.bind_some, val_pure])

theorem val_binFcmp (P : Program) (op : BinOp) (t : TypeId) (v w u : Value) (H : Hp) (h : vFcmp op v w = some u) : val P (binOp op t v w) H = some u := by
  cases v <;> cases w <;> simp only [vFcmp] at h <;> try (simp at h; done)
  rename_i k a k' b
  split at h
  · rename_i hk
    subst hk
    cases op <;> simp only at h <;> (try (simp at h; done)) <;> (simp only [Option.some.injEq] at h; subst h; simp [binOp, Op.floatCmp, val_pure])
  · simp at h

theorem val_eqGuard_other (P : Program) (op : BinOp) (t : TypeId) (x y : Operand) (v w : Value) (H : Hp) (h1 : ∀ a b, ¬ (v = .agg a ∧ w = .agg b)) (h2 : ¬ (v = .nilIface ∧ w = .nilIface)) :
    val P (eqGuard op t x y v w) H = some () := by
  cases op <;> simp only [eqGuard] <;> cases v <;> cases w <;> first
    | (simp [val_pure]; done)
    | (exact absurd ⟨rfl, rfl⟩ (h1 _ _))
    | (exact absurd ⟨rfl, rfl⟩ h2)

theorem vInt_int {op : BinOp} {v w u : Value} (h : vInt op v w = some u) : ∃ k a k' b, v = .int k a ∧ w = .int k' b := by
  cases v <;> cases w <;> simp only [vInt] at h <;> first | (simp at h; done) | exact ⟨_, _, _, _, rfl, rfl⟩
theorem vStr_str {op : BinOp} {v w u : Value} (h : vStr op v w = some u) : ∃ a b, v = .string a ∧ w = .string b := by
  cases v <;> cases w <;> simp only [vStr] at h <;> first | (simp at h; done) | exact ⟨_, _, rfl, rfl⟩
theorem vBool_bool {op : BinOp} {v w u : Value} (h : vBool op v w = some u) : ∃ a b, v = .bool a ∧ w = .bool b := by
  cases v <;> cases w <;> simp only [vBool] at h <;> first | (simp at h; done) | exact ⟨_, _, rfl, rfl⟩
theorem vFcmp_float {op : BinOp} {v w u : Value} (h : vFcmp op v w = some u) : ∃ k a k' b, v = .float k a ∧ w = .float k' b := by
  cases v <;> cases w <;> simp only [vFcmp] at h <;> first | (simp at h; done) | exact ⟨_, _, _, _, rfl, rfl⟩

theorem val_eqSlIn (P : Program) (d : Nat) (t e : TypeId) (a : Option Addr) (n c m q : Nat) (H : Hp) (ht : P.underlying t = some (.slice e)) : val P (Op.equalIn (d + 1) t (.slice a n c) (.slice none m q)) H = some a.isNone := by
  simp only [Op.equalIn, val_bind', val_underlying, ht, Option.bind_some]
  cases a <;> rfl
theorem val_binSl (P : Program) (op : BinOp) (t e : TypeId) (v w u : Value) (H : Hp) (ht : P.underlying t = some (.slice e)) (h : vSlEq op v w = some u) : val P (binOp op t v w) H = some u := by
  cases v <;> cases w <;> simp only [vSlEq] at h <;> try (simp at h; done)
  rename_i a n c b m d
  cases b with
  | some b => simp at h
  | none =>
    have e1 : val P (Op.equal t (.slice a n c) (.slice none m d)) H = some a.isNone := val_eqSlIn P 9999 t e a n c m d H ht
    cases op <;> simp only at h <;> (try (simp at h; done))
    all_goals (simp only [Option.some.injEq] at h; subst h; simp only [binOp, val_bind', e1, Option.bind_some, val_pure])
theorem vSlEq_sl {op : BinOp} {v w u : Value} (h : vSlEq op v w = some u) : ∃ a n c m d, v = .slice a n c ∧ w = .slice none m d := by
  cases v <;> cases w <;> simp only [vSlEq] at h <;> try (simp at h; done)
  rename_i a n c b m d
  cases b with
  | some b => simp at h
  | none => exact ⟨_, _, _, _, _, rfl, rfl⟩

theorem val_unary (P : Program) (op : UnOp) (v u : Value) (H : Hp) (h : vUn op v = some u) : val P (Op.unary op v) H = some u := by
  cases op <;> cases v <;> simp only [vUn] at h <;> (try (simp at h; done)) <;> (simp only [Option.some.injEq] at h; subst h; simp [Op.unary, Op.intArith, Op.intBits, val_pure])

theorem val_part (P : Program) (t : TypeId) (cs : Array Value) (off n : Nat) (b : Bool) (u : Value) (H : Hp) (hb : aggB P t = some b) (hn : szO P t = some n)
    (h : vFld b n off (.agg cs) = some u) : val P (part t cs off) H = some u := by
  simp only [part, val_bind', val_isAgg, hb, Option.bind_some]
  cases b with
  | true =>
    simp only [vFld, Option.some.injEq] at h
    subst h
    simp only [if_true, val_bind', val_sizeOf, hn, Option.bind_some, val_pure]
  | false =>
    simp only [vFld] at h
    simp [h, val_pure]

theorem places_sound (P : Program) (H : Hp) : ∀ (fs : List Field) (l : List (Nat × Nat)), placesO P fs = some l →
    val P (fs.mapM fun (f : Field) => do pure (f.offset, ← sizeOf f.type)) H = some l
  | [], l, h => by simp only [placesO, Option.some.injEq] at h; subst h; rfl
  | f :: r, l, h => by
    simp only [placesO] at h
    cases hn : szO P f.type with
    | none => simp [hn] at h
    | some n =>
      cases hr : placesO P r with
      | none => simp [hn, hr] at h
      | some l' =>
        simp only [hn, hr, Option.some.injEq] at h
        subst h
        rw [List.mapM_cons]
        simp only [val_bind', val_sizeOf, hn, Option.bind_some, val_pure, places_sound P H r l' hr]

theorem val_build (P : Program) (t : TypeId) (fs : Array Field) (z u : Value) (pl : List (Nat × Nat)) (parts : Array (Nat × Value)) (H : Hp)
    (ht : P.underlying t = some (.struct fs)) (hz : zeroO P t = some z) (hpl : placesO P fs.toList = some pl) (h : vBuild pl z parts.toList = some u) :
    val P (Instr.build t parts) H = some u := by
  unfold vBuild at h
  cases hf : Instr.fill (pl[·]?) z.cells parts.toList with
  | none => simp [hf] at h
  | some cells =>
    simp only [hf, Option.map_some, Option.some.injEq] at h
    subst h
    have hf' : Instr.fill (fun x => pl.toArray[x]?) z.cells parts.toList = some cells := by simpa using hf
    have hm : val P (fs.mapM fun (f : Field) => do pure (f.offset, ← sizeOf f.type)) H = some pl.toArray := by
      rw [Array.mapM_eq_mapM_toList]
      change val P ((fs.toList.mapM fun (f : Field) => do pure (f.offset, ← sizeOf f.type)).bind fun x => Sem.pure x.toArray) H = _
      rw [val_bind, places_sound P H _ _ hpl]
      rfl
    simp only [Instr.build, val_bind', val_zeroValue, hz, val_underlying, ht, Option.bind_some, hm, hf', val_pure]

theorem val_v (P : Program) (m : Sem Value) (H : Hp) (u : Value) (h : val P m H = some u) : val P (do pure (Next.value (← m))) H = some (.value u) := by
  simp only [val_bind', h, Option.bind_some, val_pure]

/-- An operation that only reads or computes: the model comes to its value. -/
theorem val_max (P : Program) (H : Hp) : ∀ (r : List Value) (x u : Value), vMx true x r = some u → val P (r.foldlM Builtin.max2 x) H = some u
  | [], x, u, h => h
  | y :: r, x, u, h => by
    rw [List.foldlM_cons, val_bind']
    unfold vMx at h
    split at h
    · simp at *
    · rename_i heq
      simp only [List.cons.injEq] at heq
      obtain ⟨rfl, rfl⟩ := heq
      simp only [Builtin.max2, val_pure, Option.bind_some]
      exact val_max P H r _ u h
    · simp at h
theorem val_min (P : Program) (H : Hp) : ∀ (r : List Value) (x u : Value), vMx false x r = some u → val P (r.foldlM Builtin.min2 x) H = some u
  | [], x, u, h => h
  | y :: r, x, u, h => by
    rw [List.foldlM_cons, val_bind']
    unfold vMx at h
    split at h
    · simp at *
    · rename_i heq
      simp only [List.cons.injEq] at heq
      obtain ⟨rfl, rfl⟩ := heq
      simp only [Builtin.min2, val_pure, Option.bind_some]
      exact val_min P H r _ u h
    · simp at h

theorem dval_val (P : Program) (o : Oper) (σ : S) (H : Hp) (u : Value) (hd : isD P o = true) (h : dval P o σ H = some u) :
    val P (execOp (evs σ) o) H = some (.value u) := by
  obtain ⟨dst, op, type, pos, after, guard⟩ := o
  unfold isD at hd
  unfold dval at h
  cases op <;> simp only at hd h <;> try (simp at hd; done)
  case move x => simp only [Option.some.injEq] at h; subst h; rfl
  case assign x => simp only [Option.some.injEq] at h; subst h; rfl
  case pick c a b =>
    unfold vPick at h
    split at h
    · rename_i t hc
      simp only [Option.some.injEq] at h
      subst h
      simp only [execOp, hc, asBool, val_bind', val_pure, Option.bind_some]
    · simp at h
  case load t a =>
    simp only [execOp]
    refine val_v P _ H u ?_
    split at h
    · rename_i ht
      split at h
      · rename_i n hn
        unfold vLoadN at h
        split at h
        · rename_i ad hv
          cases hr : rdCells H ad 0 n with
          | none => simp [hr] at h
          | some l =>
            simp only [hr, Option.map_some, Option.some.injEq] at h
            subst h
            simp only [Instr.loadAt, hv, Instr.sureAddr, val_bind', val_pure, Option.bind_some, loadVar, val_isAgg, ht, val_sizeOf, hn, if_true, val_loadCells P H ad n l hr]
        · simp at h
      · simp at h
    · rename_i ht
      unfold vLoad at h
      split at h
      · rename_i ad hv
        simp only [Instr.loadAt, hv, Instr.sureAddr, val_bind', val_pure, Option.bind_some, loadVar, val_isAgg, ht, Bool.false_eq_true, if_false, load, val, h]
      · simp at h
    · simp at h
  case unOp op t x =>
    simp only [execOp]
    exact val_v P _ H u (val_unary P op _ u H h)
  case fieldAddr s x i =>
    simp only [execOp]
    refine val_v P _ H u ?_
    split at h
    · rename_i f hf
      split at h
      · rename_i n hn
        unfold vFa at h
        split at h
        · rename_i ad hv
          simp only [Option.some.injEq] at h
          subst h
          unfold fieldO at hf
          split at hf
          · rename_i fs ht
            simp only [Instr.fieldAt, val_bind', val_underlying, ht, Option.bind_some, hf, hv, Instr.sureAddr, val_pure, fieldPlace, val_sizeOf, hn]
            rw [if_neg (by omega)]
            rfl
          · simp at hf
        · simp at h
      · simp at h
    · simp at h
  case field t x i =>
    simp only [execOp]
    refine val_v P _ H u ?_
    split at h
    · rename_i f hf
      split at h
      · rename_i b n hb hn
        unfold fieldO at hf
        split at hf
        · rename_i fs ht
          have hv : ∃ cs, evs σ x = .agg cs := by
            unfold vFld at h
            split at h
            · rename_i cs hv; exact ⟨cs, hv⟩
            · simp at h
          obtain ⟨cs, hv⟩ := hv
          rw [hv] at h
          simp only [Instr.field, val_bind', val_underlying, ht, Option.bind_some, hf, hv, asAgg, val_pure, val_part P _ cs _ _ _ u H hb hn h]
        · simp at hf
      · simp at h
    · simp at h
  case indexAddr t x i =>
    simp only [execOp]
    refine val_v P _ H u ?_
    split at h
    · rename_i e ht
      split at h
      · rename_i n hn
        unfold vIx at h
        split at h
        · rename_i a m c k j hv hi
          split at h
          · rename_i hb
            simp only [Option.some.injEq] at h
            subst h
            simp only [Instr.indexAt, hi, asIntOf, val_bind', val_pure, Option.bind_some, val_underlying, ht, hv, Bool.and_false, if_pos hb, val_sizeOf, hn]
          · simp at h
        · simp at h
      · simp at h
    · rename_i m e ht
      split at h
      · rename_i n hn
        unfold vIxArr at h
        split at h
        · rename_i a k j hv hi
          split at h
          · rename_i hb
            simp only [Option.some.injEq] at h
            subst h
            simp only [Instr.indexAt, hi, asIntOf, val_bind', val_pure, Option.bind_some, val_underlying, ht, hv, Instr.sureAddr, if_pos hb, val_sizeOf, hn]
          · simp at h
        · simp at h
      · simp at h
    · simp at h
  case index t x i =>
    simp only [execOp]
    refine val_v P _ H u ?_
    split at h
    · rename_i ht
      unfold vIndexS at h
      split at h
      · rename_i s k j hv hi
        split at h
        · rename_i hb
          cases hs : s[j.toNat]? with
          | none => simp [hs] at h
          | some b =>
            simp only [hs, Option.map_some, Option.some.injEq] at h
            subst h
            simp only [Instr.index, hi, asIntOf, val_bind', val_pure, Option.bind_some, val_underlying, ht, hv, if_pos hb, hs]
        · simp at h
      · simp at h
    · rename_i m e ht
      split at h
      · rename_i b n hb hn
        unfold vIndexA at h
        split at h
        · rename_i cs k j hv hi
          split at h
          · rename_i hlt
            have hp := val_part P e cs (j.toNat * n) n b u H hb hn (by unfold vFld; exact h)
            simp only [Instr.index, hi, asIntOf, val_bind', val_pure, Option.bind_some, val_underlying, ht, hv, if_pos hlt, val_sizeOf, hn, hp]
          · simp at h
        · simp at h
      · simp at h
    · simp at h
  case slice t x lo hi mx =>
    simp only [execOp]
    refine val_v P _ H u ?_
    split at h
    · rename_i e ht
      split at h
      · rename_i n hn
        cases hv : evs σ x <;> simp only [hv, vSl3] at h <;> (try (simp at h; done))
        rename_i a len cap
        cases mx with
        | none =>
          simp only [Option.map_none, vSl] at h
          split at h
          · rename_i hh hhe
            split at h
            · rename_i ll hle
              simp only [Option.some.injEq] at h
              subst h
              have e1 := val_bounds P H true len cap ll hh _ _ hhe hle
              simp only [Instr.sliceAt, Instr.slice, val_bind', val_underlying, ht, Option.bind_some, Option.map_none, e1, val_sizeOf, hn, val_pure]
            · simp at h
          · simp at h
        | some my =>
          simp only [Option.map_some] at h
          split at h
          · rename_i m hm
            cases hi with
            | none => simp at h
            | some y =>
              simp only [Option.map_some] at h
              split at h
              · rename_i hh hhe
                split at h
                · rename_i ll hle
                  simp only [Option.some.injEq] at h
                  subst h
                  have e1 := val_bounds3 P H true len cap ll hh m _ _ _ hm hhe hle
                  simp only [Instr.sliceAt, Instr.slice, val_bind', val_underlying, ht, Option.bind_some, Option.map_some, e1, val_sizeOf, hn, val_pure]
                · simp at h
              · simp at h
          · simp at h
      · simp at h
    · rename_i ht
      cases mx with
      | some _ => simp at h
      | none =>
        try simp only at h
        cases hv : evs σ x <;> simp only [hv, vSlS] at h <;> (try (simp at h; done))
        rename_i s
        split at h
        · rename_i hh hhe
          split at h
          · rename_i ll hle
            simp only [Option.some.injEq] at h
            subst h
            have e1 := val_bounds P H false s.size s.size ll hh _ _ hhe hle
            simp only [Instr.sliceAt, Instr.slice, val_bind', val_underlying, ht, Option.bind_some, Option.map_none, Option.isSome_none, Bool.false_eq_true, if_false, e1, val_pure]
          · simp at h
        · simp at h
    · rename_i m e ht
      cases mx with
      | some _ => simp at h
      | none =>
        try simp only at h
        cases hn : szO P e with
        | none => simp [hn] at h
        | some n =>
          simp only [hn] at h
          cases hv : evs σ x <;> simp only [hv, vSlA] at h <;> (try (simp at h; done))
          rename_i ao
          cases ao with
          | none => simp at h
          | some a =>
            simp only at h
            split at h
            · rename_i hh hhe
              split at h
              · rename_i ll hle
                simp only [Option.some.injEq] at h
                subst h
                have e1 := val_bounds P H false m m ll hh _ _ hhe hle
                simp only [Instr.sliceAt, val_bind', val_underlying, ht, Option.bind_some, Option.map_none, Instr.sureAddr, val_pure, e1, val_sizeOf, hn]
              · simp at h
            · simp at h
    · simp at h
  case extract x i =>
    simp only [execOp]
    refine val_v P _ H u ?_
    unfold vExt at h
    split at h
    · rename_i vs hv
      simp only [Instr.extract, hv, h, val_pure]
    · simp at h
  case nilCheck x =>
    unfold vNilC at h
    simp only [execOp]
    split at h <;> (try (simp at h; done)) <;> (rename_i hv; simp only [Option.some.injEq] at h; subst h; simp only [hv, val_pure])
  case makeFunc fn first captured =>
    simp only [Option.some.injEq] at h
    subst h
    simp only [execOp]
    refine val_v P _ H _ ?_
    simp only [Instr.makeFunc, val_pure]
    rw [arr_map, arr_map]
  case makeInterface t x =>
    simp only [execOp]
    exact val_v P _ H u h
  case build t parts =>
    simp only [execOp]
    refine val_v P _ H u ?_
    split at h
    · rename_i fs ht
      split at h
      · rename_i z pl hz hpl
        refine val_build P t fs z u pl _ H ht hz hpl ?_
        simpa using h
      · simp at h
    · simp at h
  case binOp op t x y yt =>
    simp only [execOp]
    refine val_v P _ H u ?_
    split at h
    · rename_i k ht
      obtain ⟨k1, a, k2, b, hv, hw⟩ := vInt_int h
      rw [val_bind', val_eqGuard_other P op t x y _ _ H (by simp [hv]) (by simp [hv])]
      exact val_binInt P op t _ _ u H h
    · rename_i ht
      obtain ⟨a, b, hv, hw⟩ := vStr_str h
      rw [val_bind', val_eqGuard_other P op t x y _ _ H (by simp [hv]) (by simp [hv])]
      exact val_binStr P op t _ _ u H h
    · rename_i ht
      obtain ⟨a, b, hv, hw⟩ := vBool_bool h
      rw [val_bind', val_eqGuard_other P op t x y _ _ H (by simp [hv]) (by simp [hv])]
      exact val_binBool P op t _ _ u H ht h
    · rename_i k ht
      obtain ⟨k1, a, k2, b, hv, hw⟩ := vFcmp_float h
      rw [val_bind', val_eqGuard_other P op t x y _ _ H (by simp [hv]) (by simp [hv])]
      exact val_binFcmp P op t _ _ u H h
    · rename_i e ht
      obtain ⟨a, n, c, m, d, hv, hw⟩ := vSlEq_sl h
      rw [val_bind', val_eqGuard_other P op t x y _ _ H (by simp [hv]) (by simp [hv])]
      exact val_binSl P op t e _ _ u H ht h
    · exact h
  case convert s d x =>
    simp only [execOp]
    refine val_v P _ H u ?_
    split at h
    · rename_i k1 k2 hs hd'
      unfold vCI at h
      split at h
      · rename_i k n hv
        simp only [Option.some.injEq] at h
        subst h
        simp only [convert, val_bind', val_underlying, hs, hd', Option.bind_some, hv, Conv.intToInt, val_pure]
      · simp at h
    · rename_i k1 k2 hs hd'
      unfold vCF at h
      split at h
      · rename_i k n hv
        simp only [Option.some.injEq] at h
        subst h
        simp only [convert, val_bind', val_underlying, hs, hd', Option.bind_some, hv, Conv.intToFloat, val_pure]
      · simp at h
    · exact h
  case call c =>
    obtain ⟨callee, args, argTypes⟩ := c
    cases callee <;> (try simp only at hd h) <;> try (simp at hd; done)
    rename_i b
    cases b <;> (try simp only at hd h) <;> try (simp at hd; done)
    case len =>
      simp only [execOp, resolve, val_bind', val_pure, Option.bind_some, invoke, builtin]
      split at h
      · rename_i t x ht hx
        have hx' : (args.map (evs σ))[0]? = some (evs σ x) := by simp [hx]
        split at h
        · rename_i e hu
          unfold vLenSl at h
          split at h
          · rename_i ao n cc hv
            simp only [Option.some.injEq] at h
            subst h
            simp only [Builtin.len_, ht, hx', val_bind', val_underlying, hu, Option.bind_some, hv, val_pure, goInt]
          · simp at h
        · rename_i hu
          unfold vLenS at h
          split at h
          · rename_i s hv
            simp only [Option.some.injEq] at h
            subst h
            simp only [Builtin.len_, ht, hx', val_bind', val_underlying, hu, Option.bind_some, hv, val_pure, goInt]
          · simp at h
        · rw [arr_map] at h
          rw [h]; rfl
      · simp at h
    case cap =>
      simp only [execOp, resolve, val_bind', val_pure, Option.bind_some, invoke, builtin]
      cases ht : argTypes[0]? with
      | none => simp [ht] at hd
      | some t =>
        simp only [ht] at hd
        cases hx : args[0]? with
        | none => simp [hx] at h
        | some x =>
          simp only [hx] at h
          have hx' : (args.map (evs σ))[0]? = some (evs σ x) := by simp [hx]
          split at hd
          · rename_i e hu
            unfold vCapSl at h
            split at h
            · rename_i ao n cc hv
              simp only [Option.some.injEq] at h
              subst h
              simp only [Builtin.cap_, ht, hx', val_bind', val_underlying, hu, Option.bind_some, hv, val_pure, goInt]
            · simp at h
          · simp at hd
    case max =>
      simp only [execOp, resolve, val_bind', val_pure, Option.bind_some, invoke, builtin, Builtin.max_, Array.toList_map]
      cases hl : args.toList.map (evs σ) with
      | nil => simp [hl] at h
      | cons x r => simp only [hl] at h ⊢; rw [val_max P H r x u h]; rfl
    case min =>
      simp only [execOp, resolve, val_bind', val_pure, Option.bind_some, invoke, builtin, Builtin.min_, Array.toList_map]
      cases hl : args.toList.map (evs σ) with
      | nil => simp [hl] at h
      | cons x r => simp only [hl] at h ⊢; rw [val_min P H r x u h]; rfl
end Go.Proofs.YtijmoehbgkibnaaGreatDoor.HL
