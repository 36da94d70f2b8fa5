/- Maps by four numbers. -/
import Derived.Test.YthgjegbckkpaiaaKX
namespace Go.Proofs.Ythgjegbckkpaiaa.HL
set_option maxRecDepth 100000
def num4 (P : Program) (e : TypeId) : Bool := match P.underlying e, aggB P e, szO P e with
  | some (.int .i64), some false, some 1 => true
  | _, _, _ => false
theorem num4_of {P : Program} {e : TypeId} (h : num4 P e = true) : P.underlying e = some (.int .i64) ∧ aggB P e = some false ∧ szO P e = some 1 := by
  unfold num4 at h
  split at h
  · rename_i h1 h2 h3; exact ⟨h1, h2, h3⟩
  · simp at h
/-- Four numbers as a value. -/
def ag4 (l : List Int) : Value := .agg #[.int .i64 (at_ 0 l 0), .int .i64 (at_ 0 l 1), .int .i64 (at_ 0 l 2), .int .i64 (at_ 0 l 3)]
theorem range4 : List.range' 0 4 1 = [0, 1, 2, 3] := rfl
theorem val_part4 {P : Program} {e : TypeId} {cs : Array Value} {n : Nat} {v : Value} {H : Hp} (h : num4 P e = true) (hv : cs[n]? = some v) : val P (part e cs n) H = some v := by
  obtain ⟨_, h2, _⟩ := num4_of h
  simp only [part, val_bind', val_isAgg, h2, Option.bind_some, Bool.false_eq_true, if_false, hv, val_pure]
theorem part_ag {P : Program} {e : TypeId} {l : List Int} {H : Hp} (h : num4 P e = true) : val P (part e #[.int .i64 (at_ 0 l 0), .int .i64 (at_ 0 l 1), .int .i64 (at_ 0 l 2), .int .i64 (at_ 0 l 3)] 0) H = some (.int .i64 (at_ 0 l 0)) ∧ val P (part e #[.int .i64 (at_ 0 l 0), .int .i64 (at_ 0 l 1), .int .i64 (at_ 0 l 2), .int .i64 (at_ 0 l 3)] 1) H = some (.int .i64 (at_ 0 l 1)) ∧ val P (part e #[.int .i64 (at_ 0 l 0), .int .i64 (at_ 0 l 1), .int .i64 (at_ 0 l 2), .int .i64 (at_ 0 l 3)] 2) H = some (.int .i64 (at_ 0 l 2)) ∧ val P (part e #[.int .i64 (at_ 0 l 0), .int .i64 (at_ 0 l 1), .int .i64 (at_ 0 l 2), .int .i64 (at_ 0 l 3)] 3) H = some (.int .i64 (at_ 0 l 3)) :=
  ⟨val_part4 h rfl, val_part4 h rfl, val_part4 h rfl, val_part4 h rfl⟩
theorem val_checkKey1 {P : Program} {b : Bool} {n : Nat} {e : TypeId} {v : Value} {H : Hp} (h : num4 P e = true) (hv : ∃ k x, v = .int k x) : val P (Instr.checkKey b (n + 1) e v) H = some () := by
  obtain ⟨h1, _, _⟩ := num4_of h
  obtain ⟨k, x, rfl⟩ := hv
  unfold Instr.checkKey
  rw [val_bind', val_underlying, h1]
  rfl
theorem val_checkKey4 {P : Program} {b : Bool} {n : Nat} {t e : TypeId} {l : List Int} {H : Hp} (ht : P.underlying t = some (.array 4 e)) (h : num4 P e = true) : val P (Instr.checkKey b (n + 2) t (ag4 l)) H = some () := by
  have h3 := (num4_of h).2.2
  unfold Instr.checkKey
  rw [val_bind', val_underlying, ht, Option.bind_some]
  have pa := part_ag (H := H) (l := l) h
  have c1 : ∀ x, val P (Instr.checkKey b (n + 1) e (.int .i64 x)) H = some () := fun x => val_checkKey1 h ⟨_, _, rfl⟩
  simp only [ag4]
  simp only [Std.Legacy.Range.forIn_eq_forIn_range', Std.Legacy.Range.size, Nat.sub_zero, Nat.add_sub_cancel, Nat.div_one, range4, List.forIn_cons, List.forIn_nil, val_bind', val_sizeOf, h3, Option.bind_some, Nat.mul_one, val_pure, pa.1, pa.2.1, pa.2.2.1, pa.2.2.2, c1]
theorem val_eq1 {P : Program} {d : Nat} {e : TypeId} {a b : Int} {H : Hp} (h : num4 P e = true) : val P (Op.equalIn (d + 1) e (.int .i64 a) (.int .i64 b)) H = some (a == b) := by
  obtain ⟨h1, _, _⟩ := num4_of h
  unfold Op.equalIn
  rw [val_bind', val_underlying, h1]
  rfl
def eq4 (l m : List Int) : Bool := at_ 0 l 0 == at_ 0 m 0 && at_ 0 l 1 == at_ 0 m 1 && at_ 0 l 2 == at_ 0 m 2 && at_ 0 l 3 == at_ 0 m 3
theorem val_eq4 {P : Program} {t e : TypeId} {l m : List Int} {H : Hp} (ht : P.underlying t = some (.array 4 e)) (h : num4 P e = true) : val P (Op.equal t (ag4 l) (ag4 m)) H = some (eq4 l m) := by
  have h3 := (num4_of h).2.2
  unfold Op.equal Op.maxDepth Op.equalIn
  rw [val_bind', val_underlying, ht, Option.bind_some]
  have pa := part_ag (H := H) (l := l) h
  have pb := part_ag (H := H) (l := m) h
  have c1 : ∀ a b, val P (Op.equalIn 9999 e (.int .i64 a) (.int .i64 b)) H = some (a == b) := fun a b => val_eq1 h
  simp only [ag4]
  simp only [Std.Legacy.Range.forIn_eq_forIn_range', Std.Legacy.Range.size, Nat.sub_zero, Nat.add_sub_cancel, Nat.div_one, range4, List.forIn_cons, List.forIn_nil, val_bind', val_sizeOf, h3, Option.bind_some, Nat.mul_one, val_pure, pa.1, pa.2.1, pa.2.2.1, pa.2.2.2, pb.1, pb.2.1, pb.2.2.1, pb.2.2.2, c1]
  unfold eq4
  cases e0 : at_ 0 l 0 == at_ 0 m 0 <;> cases e1 : at_ 0 l 1 == at_ 0 m 1 <;> cases e2 : at_ 0 l 2 == at_ 0 m 2 <;> cases e3 : at_ 0 l 3 == at_ 0 m 3 <;> simp [e0, e1, e2, e3, val_pure, val_bind', pa.2.1, pa.2.2.1, pa.2.2.2, pb.2.1, pb.2.2.1, pb.2.2.2, c1]
/-- The entries of a map, told as fours and numbers. -/
def entsQ (es : List MapEntry) (ms : List (List Int × Int)) : Prop := es.map (fun e => (e.key, e.val)) = ms.map (fun m => (ag4 m.1, Value.int .i64 m.2))
def mgetQ (k : List Int) : List (List Int × Int) → Option Int
  | [] => none
  | m :: ms => bif eq4 k m.1 then some m.2 else mgetQ k ms
theorem val_findAsking {P : Program} {t e : TypeId} {k : List Int} {H : Hp} (ht : P.underlying t = some (.array 4 e)) (h : num4 P e = true) : ∀ (es : List MapEntry) (ms : List (List Int × Int)) (i : Nat), entsQ es ms → ∃ r, val P (Instr.findAsking t (ag4 k) es i) H = some r ∧ r.map Prod.snd = (mgetQ k ms).map (Value.int .i64)
  | [], [], _, _ => ⟨none, rfl, rfl⟩
  | x :: es, m :: ms, i, hx => by
    simp only [entsQ, List.map_cons, List.cons.injEq, Prod.mk.injEq] at hx
    obtain ⟨⟨h1, h2⟩, h3⟩ := hx
    obtain ⟨r, g1, g2⟩ := val_findAsking ht h es ms (i + 1) h3
    unfold Instr.findAsking mgetQ
    rw [val_bind', h1, val_eq4 ht h, Option.bind_some]
    cases eq4 k m.1
    · exact ⟨r, g1, g2⟩
    · exact ⟨some (i, x.val), rfl, by rw [h2]; rfl⟩
  | [], _ :: _, _, hx => by simp [entsQ] at hx
  | _ :: _, [], _, hx => by simp [entsQ] at hx
theorem val_findKey4 {P : Program} {t e : TypeId} {k : List Int} {H : Hp} {es : List MapEntry} {ms : List (List Int × Int)} (ht : P.underlying t = some (.array 4 e)) (h : num4 P e = true) (hx : entsQ es ms) : ∃ r, val P (Instr.findKey t (ag4 k) es) H = some r ∧ r.map Prod.snd = (mgetQ k ms).map (Value.int .i64) := by
  obtain ⟨r, g1, g2⟩ := val_findAsking (H := H) (k := k) ht h es ms 0 hx
  refine ⟨r, ?_, g2⟩
  unfold Instr.findKey
  rw [val_bind', val_underlying, ht, Option.bind_some]
  cases es with
  | nil =>
    cases ms with
    | nil => simp only [Instr.findAsking, val_pure] at g1; simp only [Instr.findNow, val_pure]; exact g1
    | cons _ _ => simp [entsQ] at hx
  | cons x es =>
    have e1 : Instr.findNow (.array 4 e) (ag4 k) (x :: es) 0 = none := by
      unfold Instr.findNow; simp only [Instr.sameNow, ag4]
    rw [e1]; exact g1
/-- A map by fours that is owned. -/
def MpQ (H : Hp) (p : Value) (S : Rg) (ms : List (List Int × Int)) : Prop := ∃ r es c, p = .map (some r) ∧ H r = some (.map es c) ∧ entsQ es.toList ms ∧ ∀ b, S b ↔ b = r
def mapQI (P : Program) (t : TypeId) : Bool := match P.underlying t with
  | some (.map kt et) => (match P.underlying kt, zeroO P et with | some (.array 4 e), some (.int .i64 0) => num4 P e | _, _ => false)
  | _ => false
theorem mapQI_of {P : Program} {t : TypeId} (h : mapQI P t = true) : ∃ kt et e, P.underlying t = some (.map kt et) ∧ P.underlying kt = some (.array 4 e) ∧ zeroO P et = some (.int .i64 0) ∧ num4 P e = true := by
  unfold mapQI at h
  split at h
  · rename_i kt et he
    split at h
    · rename_i h1 h2; exact ⟨kt, et, _, he, h1, h2, h⟩
    · simp at h
  · simp at h
section
variable {H H' : Hp} {p : Value} {S : Rg} {ms : List (List Int × Int)}
theorem MpQ.known (h : MpQ H p S ms) : Kn H S := by
  obtain ⟨r, es, c, _, hr, _, hS⟩ := h
  intro b hb
  rw [(hS b).mp hb]; exact ⟨_, hr⟩
theorem MpQ.le (h : MpQ H p S ms) (hl : Le H H') : MpQ H' p S ms := by
  obtain ⟨r, es, c, e, hr, he, hS⟩ := h
  exact ⟨r, es, c, e, hl r _ hr, he, hS⟩
theorem MpQ.off {w : Value} (h : MpQ H p S ms) (ho : Off w H H') (ha : Apt S w) : MpQ H' p S ms := by
  obtain ⟨r, es, c, e, hr, he, hS⟩ := h
  exact ⟨r, es, c, e, ho r _ hr (ha r ((hS r).mpr rfl)), he, hS⟩
theorem MpQ.offS {T : Rg} (h : MpQ H p S ms) (ho : OffS T H H') (ha : Apt S T) : MpQ H' p S ms := by
  obtain ⟨r, es, c, e, hr, he, hS⟩ := h
  exact ⟨r, es, c, e, ho r _ hr (ha r ((hS r).mpr rfl)), he, hS⟩
theorem MpQ.cast {ns : List (List Int × Int)} (e : ms = ns) (h : MpQ H p S ms) : MpQ H p S ns := e ▸ h
theorem MpQ.new_ {K : Value → Hp → Prop} (hk : ∀ p S H', MpQ H' p S [] → Nws H S → Le H H' → K p H') : opEv.nwM H K := fun r hr =>
  hk (.map (some r)) (fun b => b = r) (H.put r (.map #[] 0)) ⟨r, #[], 0, rfl, Hp.put_same _ _ _, rfl, fun _ => Iff.rfl⟩ (fun b hb => by have : b = r := hb; rw [this]; exact hr) (Le.put _ hr)
theorem MpQ.one (h : MpQ H p S ms) : oneCell p = true := by
  obtain ⟨r, es, c, rfl, _⟩ := h; rfl
theorem MpQ.cells (h : MpQ H p S ms) : p.cells = #[p] := by
  obtain ⟨r, es, c, rfl, _⟩ := h; rfl
theorem MpQ.look' {P : Program} {t : TypeId} {k : List Int} {K : Value → Hp → Prop} (h : MpQ H p S ms) (ht : mapQI P t = true)
    (hK : K (.tuple #[.int .i64 ((mgetQ k ms).getD 0), .bool (mgetQ k ms).isSome]) H) : hp P (Instr.lookup t p (ag4 k) true) H K := by
  obtain ⟨r, es, c, rfl, hr, he, hS⟩ := h
  obtain ⟨kt, et, e, h1, h2, h3, h4⟩ := mapQI_of ht
  obtain ⟨x, g1, g2⟩ := val_findKey4 (H := H) (k := k) h2 h4 he
  refine hp_of_val P _ H K _ ?_ hK
  unfold Instr.lookup
  rw [val_bind', val_underlying, h1]
  simp only [Option.bind_some]
  rw [val_bind']
  have e1 : val P (getObj r) H = some (.map es c) := by
    show val P (Sem.getObj r Sem.pure) H = _
    simp only [val, hr]
  have e2 : val P (Instr.checkKey es.isEmpty 10000 kt (ag4 k)) H = some () := val_checkKey4 h2 h4
  simp only [val_bind', e1, Option.bind_some, val_pure, e2, g1]
  cases x with
  | none =>
    have e3 : mgetQ k ms = none := by cases hm : mgetQ k ms with
      | none => rfl
      | some v => rw [hm] at g2; simp at g2
    rw [e3]
    simp only [val_bind', val_zeroValue, h3, Option.bind_some, val_pure]; rfl
  | some x =>
    cases hm : mgetQ k ms with
    | none => rw [hm] at g2; simp at g2
    | some v =>
      rw [hm] at g2
      simp only [Option.map_some, Option.some.injEq] at g2
      simp only [val_pure, Option.bind_some, g2]; rfl
theorem MpQ.add' {P : Program} {t : TypeId} {k : List Int} {x : Int} {K : Unit → Hp → Prop} (h : MpQ H p S ms) (ht : mapQI P t = true) (hn : mgetQ k ms = none)
    (hK : ∀ H', MpQ H' p S (ms ++ [(k, x)]) → OffS S H H' → K () H') : hp P (Instr.mapUpdate t p (ag4 k) (.int .i64 x)) H K := by
  obtain ⟨r, es, c, rfl, hr, he, hS⟩ := h
  obtain ⟨kt, et, e, h1, h2, h3, h4⟩ := mapQI_of ht
  obtain ⟨y, g1, g2⟩ := val_findKey4 (H := H) (k := k) h2 h4 he
  have hf : y = none := by
    rw [hn] at g2
    cases y with
    | none => rfl
    | some x => simp at g2
  subst hf
  have e1 : val P (getObj r) H = some (.map es c) := by
    show val P (Sem.getObj r Sem.pure) H = _
    simp only [val, hr]
  unfold Instr.mapUpdate
  refine hp_val_bind P _ _ H K _ (by rw [val_underlying, h1]) ?_
  refine hp_val_bind P _ _ H K _ e1 ?_
  refine hp_val_bind P _ _ H K _ (val_checkKey4 h2 h4) ?_
  refine hp_val_bind P _ _ H K _ g1 ?_
  show hp P (Sem.setObj r _ (Sem.pure ())) H K
  simp only [hp, hr]
  refine hK _ ⟨r, _, c + 1, rfl, Hp.put_same _ _ _, ?_, hS⟩ (fun b o hb hn => ?_)
  · unfold entsQ at he ⊢
    rw [Array.toList_push, List.map_append, he, List.map_append]; rfl
  · rw [Hp.put_ne _ _ (by rintro rfl; exact hn ((hS _).mpr rfl))]; exact hb
theorem MpQ.len {P : Program} {t ty : TypeId} (h : MpQ H p S ms) (ht : isMap P t = true) : val P (Builtin.len_ #[t] ty [p].toArray) H = some (.int .i64 ms.length) := by
  obtain ⟨r, es, c, rfl, hr, he, hS⟩ := h
  have hl : es.size = ms.length := by
    have := congrArg List.length he
    simpa using this
  unfold isMap at ht
  split at ht
  · rename_i kt et h1
    have e1 : val P (getObj r) H = some (.map es c) := by
      show val P (Sem.getObj r Sem.pure) H = _
      simp only [val, hr]
    have e2 : ([Value.map (some r)].toArray)[0]? = some (Value.map (some r)) := rfl
    have e3 : (#[t] : Array TypeId)[0]? = some t := rfl
    unfold Builtin.len_
    simp only [e2, e3]
    rw [val_bind', val_underlying, h1, Option.bind_some]
    simp only
    rw [val_bind', e1, Option.bind_some]
    simp only [val_pure, goInt, hl]
  · simp at ht
end
/-- Four cells. -/
def pad4 (F : List Int) : List Int := F ++ List.replicate (4 - F.length) 0
theorem pad4_len {F : List Int} (h : F.length ≤ 4) : (pad4 F).length = 4 := by simp [pad4]; omega
theorem pad4_full {F : List Int} (h : F.length = 4) : pad4 F = F := by simp [pad4, h]
theorem pad4_set {F : List Int} {x : Int} (h : F.length < 4) : (pad4 F).set F.length x = pad4 (F ++ [x]) := by
  unfold pad4
  rw [List.set_append_right _ _ (Nat.le_refl _), Nat.sub_self, show 4 - F.length = (4 - (F ++ [x]).length) + 1 by simp; omega, List.replicate_succ, List.append_assoc]; rfl
theorem c4_set {L : List Int} {x : Int} {q : Nat} (hl : L.length = 4) (hq : q < 4) : ([Value.int .i64 (at_ 0 L 0), Value.int .i64 (at_ 0 L 1), Value.int .i64 (at_ 0 L 2), Value.int .i64 (at_ 0 L 3)] : List Value).set q (.int .i64 x) = [Value.int .i64 (at_ 0 (L.set q x) 0), Value.int .i64 (at_ 0 (L.set q x) 1), Value.int .i64 (at_ 0 (L.set q x) 2), Value.int .i64 (at_ 0 (L.set q x) 3)] := by
  match L, hl with
  | [a, b, c, d], _ =>
    have : q = 0 ∨ q = 1 ∨ q = 2 ∨ q = 3 := by omega
    rcases this with rfl | rfl | rfl | rfl <;> rfl
theorem c4_map {L : List Int} (hl : L.length = 4) : ([Value.int .i64 (at_ 0 L 0), Value.int .i64 (at_ 0 L 1), Value.int .i64 (at_ 0 L 2), Value.int .i64 (at_ 0 L 3)] : List Value) = L.map eI := by
  match L, hl with
  | [a, b, c, d], _ => rfl
/-- An array as a slice. -/
theorem Cel.slA {H : Hp} {p : Value} {L : List Int} (h : Cel H p (L.map eI)) (hl : L.length = 4) : ∃ v, vSlA 4 1 p none none = some v ∧ Ro eI H v L ∧ (∀ b, bk v = some b → bk p = some b) := by
  obtain ⟨r, e, rfl, hr⟩ := h
  refine ⟨_, rfl, ⟨⟨_, 4, by rw [hl], by omega, fun i hi => ⟨_, rfl, ?_⟩⟩, fun b hb => ?_⟩, fun b hb => ?_⟩
  · show H.cell? (Addr.add ⟨r, 0, none⟩ i) = _
    rw [add_none]
    simp only [Hp.cell?, hr, Nat.zero_add]
    simp [hi]
  · simp [bk] at hb; subst hb; exact ⟨_, hr⟩
  · simp [bk] at hb ⊢; exact hb
/-- Three owned things, as blocks. -/
def tri (p : Value) (S : Rg) (v : Value) : Rg := fun b => bk p = some b ∨ S b ∨ bk v = some b
theorem Apt.tri {α : Type} [Bks α] {z : α} {p v : Value} {S : Rg} (h1 : Apt z p) (h2 : Apt z S) (h3 : Apt z v) : Apt z (tri p S v) := fun b hz h => by
  rcases h with h | h | h
  · exact h1 b hz h
  · exact h2 b hz h
  · exact h3 b hz h
theorem Nws.tri {H : Hp} {p v : Value} {S : Rg} (h1 : Nw H p) (h2 : Nws H S) (h3 : Nw H v) : Nws H (HL.tri p S v) := fun b h => by
  rcases h with h | h | h
  · exact h1 b h
  · exact h2 b h
  · exact h3 b h
theorem tri_apt {H : Hp} {p v : Value} {S : Rg} : Apt p (rest H (tri p S v)) ∧ Apt S (rest H (tri p S v)) ∧ Apt v (rest H (tri p S v)) :=
  ⟨fun _ h g => g.2 (.inl h), fun _ h g => g.2 (.inr (.inl h)), fun _ h g => g.2 (.inr (.inr h))⟩
theorem tri_new {H : Hp} {p v u : Value} {S : Rg} (h : Apt u (rest H (tri p S v))) (hp : Apt u p) (hS : Apt u S) : ∀ b, bk u = some b → bk v = some b ∨ H b = none := fun b hb => by
  rcases rest_new h b hb with h | h
  · rcases h with h | h | h
    · exact absurd h (hp b hb)
    · exact absurd h (hS b hb)
    · exact .inl h
  · exact .inr h
/-- The map of a tree. -/
def entQ (t : List Int) : List (List Int × Int) := (List.range (t.length / 4)).map fun j => (chQ t j, (j : Int))
theorem entQ_len {t : List Int} : (entQ t).length = t.length / 4 := by simp [entQ]
theorem chQ_len {t : List Int} {j : Nat} (h : j < t.length / 4) : (chQ t j).length = 4 := by simp [chQ]; omega
theorem entQ_app {t f : List Int} (ht : t.length % 4 = 0) (hf : f.length = 4) : entQ (t ++ f) = entQ t ++ [(f, ((t.length / 4 : Nat) : Int))] := by
  have e : (t ++ f).length / 4 = t.length / 4 + 1 := by simp; omega
  unfold entQ
  rw [e, List.range_succ, List.map_append]
  congr 1
  · apply List.map_congr_left
    intro j hj
    have hj := List.mem_range.mp hj
    congr 1
    unfold chQ
    rw [List.drop_append_of_le_length (by omega), List.take_append_of_le_length (by simp; omega)]
  · simp only [List.map_cons, List.map_nil]
    congr 2
    unfold chQ
    rw [List.drop_append_of_le_length (by omega), List.drop_of_length_le (by omega), List.nil_append, List.take_of_length_le (by omega)]
theorem eq4_iff {l m : List Int} (hl : l.length = 4) (hm : m.length = 4) : eq4 l m = decide (m = l) := by
  match l, m, hl, hm with
  | [a, b, c, d], [a', b', c', d'], _, _ =>
    have e : ∀ x y z w : Int, at_ 0 [x, y, z, w] 0 = x ∧ at_ 0 [x, y, z, w] 1 = y ∧ at_ 0 [x, y, z, w] 2 = z ∧ at_ 0 [x, y, z, w] 3 = w := fun x y z w => ⟨rfl, rfl, rfl, rfl⟩
    unfold eq4
    rw [(e a b c d).1, (e a b c d).2.1, (e a b c d).2.2.1, (e a b c d).2.2.2, (e a' b' c' d').1, (e a' b' c' d').2.1, (e a' b' c' d').2.2.1, (e a' b' c' d').2.2.2]
    apply Bool.eq_iff_iff.mpr
    simp only [Bool.and_eq_true, beq_iff_eq, decide_eq_true_eq, List.cons.injEq, and_true]
    constructor
    · rintro ⟨⟨⟨rfl, rfl⟩, rfl⟩, rfl⟩; exact ⟨rfl, rfl, rfl, rfl⟩
    · rintro ⟨rfl, rfl, rfl, rfl⟩; exact ⟨⟨⟨rfl, rfl⟩, rfl⟩, rfl⟩
theorem mgetQ_app (k : List Int) : ∀ a b, mgetQ k (a ++ b) = (mgetQ k a).or (mgetQ k b)
  | [], b => by simp [mgetQ]
  | m :: a, b => by
    simp only [List.cons_append, mgetQ]
    cases eq4 k m.1
    · exact mgetQ_app k a b
    · rfl
theorem mgetQ_ent {t f : List Int} (hf : f.length = 4) : mgetQ f (entQ t) = if 0 ≤ fndQ t f then some (fndQ t f) else none := by
  have main : ∀ n, n ≤ t.length / 4 → mgetQ f ((List.range n).map fun j => (chQ t j, (j : Int))) = if 0 ≤ fstN (fun j => chQ t j = f) n then some (fstN (fun j => chQ t j = f) n) else none := by
    intro n
    induction n with
    | zero => intro _; rfl
    | succ n ih =>
      intro hn
      rw [List.range_succ, List.map_append, mgetQ_app, ih (by omega)]
      simp only [List.map_cons, List.map_nil, mgetQ, eq4_iff hf (chQ_len (show n < t.length / 4 by omega))]
      have b := fstN_lt (p := fun j => chQ t j = f) (N := n)
      by_cases h : 0 ≤ fstN (fun j => chQ t j = f) n
      · rw [if_pos h]
        have e : fstN (fun j => chQ t j = f) (n + 1) = fstN (fun j => chQ t j = f) n := by simp only [fstN]; rw [if_pos h]
        rw [e, if_pos h]; rfl
      · rw [if_neg h]
        by_cases hc : chQ t n = f
        · have e : fstN (fun j => chQ t j = f) (n + 1) = (n : Int) := by simp only [fstN]; rw [if_neg h, if_pos hc]
          rw [e, if_pos (by omega), decide_eq_true hc]; rfl
        · have e : fstN (fun j => chQ t j = f) (n + 1) = -1 := by simp only [fstN]; rw [if_neg h, if_neg hc]
          rw [e, if_neg (by omega), decide_eq_false hc]; rfl
  exact main _ (Nat.le_refl _)
theorem c4_put {F : List Int} {x : Int} {q : Nat} (hF : F.length = q) (hq : q < 4) : ([Value.int .i64 (at_ 0 (pad4 F) 0), Value.int .i64 (at_ 0 (pad4 F) 1), Value.int .i64 (at_ 0 (pad4 F) 2), Value.int .i64 (at_ 0 (pad4 F) 3)] : List Value).set (q : Int).toNat (.int .i64 x) = [Value.int .i64 (at_ 0 (pad4 (F ++ [x])) 0), Value.int .i64 (at_ 0 (pad4 (F ++ [x])) 1), Value.int .i64 (at_ 0 (pad4 (F ++ [x])) 2), Value.int .i64 (at_ 0 (pad4 (F ++ [x])) 3)] := by
  subst hF
  rw [Int.toNat_natCast, c4_set (pad4_len (by omega)) hq, pad4_set hq]
theorem none_of_not {o : Option Int} (h : (!o.isSome) = true) : o = none := by
  cases o with
  | none => rfl
  | some _ => simp at h
theorem putQ_new {T F : List Int} (hF : F.length = 4) (h : (!(mgetQ F (entQ T)).isSome) = true) : putQ T F = (((entQ T).length : Int) + 2, T ++ F) := by
  have h := none_of_not h
  rw [mgetQ_ent hF] at h
  have hn : ¬ 0 ≤ fndQ T F := fun g => by rw [if_pos g] at h; simp at h
  unfold putQ
  rw [if_neg hn, entQ_len]
  congr 1 <;> omega
theorem putQ_old {T F : List Int} (hF : F.length = 4) (h : (!(mgetQ F (entQ T)).isSome) = false) : putQ T F = ((mgetQ F (entQ T)).getD 0 + 2, T) := by
  rw [mgetQ_ent hF] at h ⊢
  by_cases g : 0 ≤ fndQ T F
  · unfold putQ; rw [if_pos g, if_pos g]; rfl
  · rw [if_neg g] at h; simp at h
theorem mgetQ_bnd {T F : List Int} (hF : F.length = 4) : 0 ≤ (mgetQ F (entQ T)).getD 0 ∧ (mgetQ F (entQ T)).getD 0 ≤ T.length := by
  rw [mgetQ_ent hF]
  have b := fstN_lt (p := fun j => chQ T j = F) (N := T.length / 4)
  unfold fndQ
  split
  · simp only [Option.getD_some]; omega
  · simp only [Option.getD_none]; omega
theorem hp_val {P : Program} {x : Sem Value} {v : Value} {H : Hp} {K : Value → Hp → Prop} (e : ∀ K : Value → Hp → Prop, hp P x H K = K v H) (h : K v H) : hp P x H K := (e K).mpr h
theorem Cel.ixA {H : Hp} {p : Value} {cs : List Value} (h : Cel H p cs) {n : Nat} {k : IntKind} {i : Int} (h0 : 0 ≤ i) (h1 : i < n) : vIxArr n 1 p (.int k i) = some (fp p i.toNat) := by
  obtain ⟨r, e, rfl, _⟩ := h
  simp only [vIxArr, fp, Nat.mul_one]
  rw [if_pos ⟨h0, h1⟩]
theorem Cel.cast {H : Hp} {p : Value} {cs ds : List Value} (e : cs = ds) (h : Cel H p cs) : Cel H p ds := e ▸ h
end Go.Proofs.Ythgjegbckkpaiaa.HL
