/- Sets of texts: maps from texts to true. -/
import Derived.Test.YthgjegbckkpaiaaKT
namespace Go.Proofs.Ythgjegbckkpaiaa.HL
set_option maxRecDepth 100000
def entsT (es : List MapEntry) (ks : List ByteArray) : Prop := es.map (fun e => (e.key, e.val)) = ks.map (fun k => (Value.string k, Value.bool true))
theorem entsT_keys {es : List MapEntry} {ks : List ByteArray} (h : entsT es ks) : keysS es := fun e he => by
  have : (e.key, e.val) ∈ es.map (fun e => (e.key, e.val)) := List.mem_map.mpr ⟨e, he, rfl⟩
  rw [h] at this
  obtain ⟨m, _, hm⟩ := List.mem_map.mp this
  exact ⟨m, by injection hm with h1 _; exact h1.symm⟩
/-- A set of texts that is owned. -/
def MpT (H : Hp) (p : Value) (S : Rg) (ks : List ByteArray) : Prop := ∃ r es c, p = .map (some r) ∧ H r = some (.map es c) ∧ entsT es.toList ks ∧ ∀ b, S b ↔ b = r
section
variable {H H' : Hp} {p : Value} {S : Rg} {ks : List ByteArray}
theorem MpT.known (h : MpT H p S ks) : Kn H S := by
  obtain ⟨r, es, c, _, hr, _, hS⟩ := h
  intro b hb
  rw [(hS b).mp hb]; exact ⟨_, hr⟩
theorem MpT.le (h : MpT H p S ks) (hl : Le H H') : MpT H' p S ks := by
  obtain ⟨r, es, c, e, hr, he, hS⟩ := h
  exact ⟨r, es, c, e, hl r _ hr, he, hS⟩
theorem MpT.off {w : Value} (h : MpT H p S ks) (ho : Off w H H') (ha : Apt S w) : MpT H' p S ks := by
  obtain ⟨r, es, c, e, hr, he, hS⟩ := h
  exact ⟨r, es, c, e, ho r _ hr (ha r ((hS r).mpr rfl)), he, hS⟩
theorem MpT.offS {T : Rg} (h : MpT H p S ks) (ho : OffS T H H') (ha : Apt S T) : MpT H' p S ks := by
  obtain ⟨r, es, c, e, hr, he, hS⟩ := h
  exact ⟨r, es, c, e, ho r _ hr (ha r ((hS r).mpr rfl)), he, hS⟩
theorem MpT.cast {ls : List ByteArray} (e : ks = ls) (h : MpT H p S ks) : MpT H p S ls := e ▸ h
theorem MpT.new_ {K : Value → Hp → Prop} (hk : ∀ p S H', MpT H' p S [] → Nws H S → Le H H' → K p H') : opEv.nwM H K := fun r hr =>
  hk (.map (some r)) (fun b => b = r) (H.put r (.map #[] 0)) ⟨r, #[], 0, rfl, Hp.put_same _ _ _, rfl, fun _ => Iff.rfl⟩ (fun b hb => by have : b = r := hb; rw [this]; exact hr) (Le.put _ hr)
theorem findS_T (k : ByteArray) : ∀ (es : List MapEntry) (ks : List ByteArray) (i : Nat), entsT es ks → (k ∈ ks → ∃ j, ∃ h : j < es.length, findS k es i = some (i + j, .bool true) ∧ es[j].key = .string k ∧ es[j].val = .bool true) ∧ (k ∉ ks → findS k es i = none)
  | [], [], _, _ => ⟨fun h => by simp at h, fun _ => rfl⟩
  | e :: es, m :: ks, i, h => by
    simp only [entsT, List.map_cons, List.cons.injEq, Prod.mk.injEq] at h
    obtain ⟨⟨h1, h2⟩, h3⟩ := h
    obtain ⟨a, b⟩ := findS_T k es ks (i + 1) h3
    unfold findS
    rw [h1]
    simp only [keyIs]
    by_cases hk : k = m
    · subst hk
      rw [beq_bytes, decide_eq_true rfl, cond_true]
      exact ⟨fun _ => ⟨0, by simp, by rw [h2]; rfl, h1, h2⟩, fun g => absurd List.mem_cons_self g⟩
    · rw [beq_bytes, decide_eq_false hk, cond_false]
      refine ⟨fun g => ?_, fun g => b (fun q => g (List.mem_cons_of_mem _ q))⟩
      rcases List.mem_cons.mp g with q | q
      · exact absurd q hk
      · obtain ⟨j, hj, g1, g2, g3⟩ := a q
        exact ⟨j + 1, by simpa using hj, by rw [g1]; congr 2; omega, g2, g3⟩
  | [], _ :: _, _, h => by simp [entsT] at h
  | _ :: _, [], _, h => by simp [entsT] at h
def mapST (P : Program) (t : TypeId) : Bool := match P.underlying t with
  | some (.map kt _) => (match P.underlying kt with | some .string => true | _ => false)
  | _ => false
theorem mapST_of {P : Program} {t : TypeId} (h : mapST P t = true) : ∃ kt et, P.underlying t = some (.map kt et) ∧ P.underlying kt = some .string := by
  unfold mapST at h
  split at h
  · rename_i kt et he
    split at h
    · rename_i h1; exact ⟨kt, et, he, h1⟩
    · simp at h
  · simp at h
/-- One more text, if it is not there. -/
theorem MpT.put {P : Program} {t : TypeId} {k : ByteArray} {ls : List ByteArray} {K : Unit → Hp → Prop} (h : MpT H p S ks) (ht : mapST P t = true) (hls : (k ∈ ks ∧ ls = ks) ∨ (k ∉ ks ∧ ls = ks ++ [k]))
    (hK : ∀ H', MpT H' p S ls → OffS S H H' → K () H') : hp P (Instr.mapUpdate t p (.string k) (.bool true)) H K := by
  obtain ⟨kt, et, h1, h2⟩ := mapST_of ht
  obtain ⟨r, es, c, rfl, hr, he, hS⟩ := h
  obtain ⟨ha, hb⟩ := findS_T k es.toList ks 0 he
  have off : ∀ o, OffS S H (H.put r o) := fun o b ob hb hn => by
    rw [Hp.put_ne _ _ (by rintro rfl; exact hn ((hS _).mpr rfl))]; exact hb
  rcases hls with ⟨hk, rfl⟩ | ⟨hk, rfl⟩
  · obtain ⟨j, hj, g1, g2, g3⟩ := ha hk
    unfold Instr.mapUpdate
    have e1 : val P (getObj r) H = some (.map es c) := by
      show val P (Sem.getObj r Sem.pure) H = _
      simp only [val, hr]
    refine hp_val_bind P _ _ H K _ (by rw [val_underlying, h1]) ?_
    refine hp_val_bind P _ _ H K _ e1 ?_
    refine hp_val_bind P _ _ H K _ (val_checkKey P _ 9999 kt k H h2) ?_
    refine hp_val_bind P _ _ H K _ (val_findKey P kt k es.toList H h2 (entsT_keys he)) ?_
    rw [g1]
    rw [Nat.zero_add]
    have hj' : j < es.size := by simpa using hj
    have ek : (es[j]?.map (fun e => e.key)).getD (.string k) = .string k := by
      rw [Array.getElem?_eq_getElem hj']
      simpa using g2
    simp only [ek]
    have est : val P (Instr.keyThatStays (.string k) (.string k)) H = some (.string k) := by
      unfold Instr.keyThatStays
      have e2 : Instr.sameBits 10000 (.string k) (.string k) = true := by
        show (k == k) = true
        rw [beq_bytes, decide_eq_true rfl]
      rw [if_pos e2, val_pure]
    refine hp_val_bind P _ _ H K _ est ?_
    show hp P (Sem.setObj r _ (Sem.pure ())) H K
    simp only [hp, hr]
    refine hK _ ⟨r, _, c, rfl, Hp.put_same _ _ _, ?_, hS⟩ (off _)
    unfold entsT at he ⊢
    rw [← he]
    apply List.ext_getElem?
    intro i
    simp only [List.getElem?_map, Array.getElem?_toList, Array.getElem?_modify]
    by_cases e : j = i
    · subst e
      rw [if_pos rfl, Array.getElem?_eq_getElem hj']
      simp only [Option.map_some]
      have g2' : es[j].key = .string k := by simpa using g2
      have g3' : es[j].val = .bool true := by simpa using g3
      rw [g2', g3']
    · rw [if_neg e]
  · refine hp_mapUpdate_new h1 h2 hr (entsT_keys he) (hb hk) ?_
    refine hK _ ⟨r, _, c + 1, rfl, Hp.put_same _ _ _, ?_, hS⟩ (off _)
    unfold entsT at he ⊢
    rw [Array.toList_push, List.map_append, he, List.map_append]; rfl
def isMap (P : Program) (t : TypeId) : Bool := match P.underlying t with | some (.map _ _) => true | _ => false
theorem MpT.len {P : Program} {t ty : TypeId} (h : MpT H p S ks) (ht : isMap P t = true) : val P (Builtin.len_ #[t] ty [p].toArray) H = some (.int .i64 ks.length) := by
  obtain ⟨r, es, c, rfl, hr, he, hS⟩ := h
  have hl : es.size = ks.length := by
    have := congrArg List.length he
    simpa using this
  unfold isMap at ht
  split at ht
  · rename_i kt et h1
    have e1 : val P (getObj r) H = some (.map es c) := by
      show val P (Sem.getObj r Sem.pure) H = _
      simp only [val, hr]
    have e2 : ([Value.map (some r)].toArray)[0]? = some (Value.map (some r)) := rfl
    have e3 : (#[t] : Array TypeId)[0]? = some t := rfl
    unfold Builtin.len_
    simp only [e2, e3]
    rw [val_bind', val_underlying, h1, Option.bind_some]
    simp only
    rw [val_bind', e1, Option.bind_some]
    simp only [val_pure, goInt, hl]
  · simp at ht
end
end Go.Proofs.Ythgjegbckkpaiaa.HL
