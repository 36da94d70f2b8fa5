/- Maps from texts to numbers, as owned things. -/
import Derived.Test.YtialllbbbpmkbaaDoorKP
import Derived.Test.YtialllbbbpmkbaaDoorKF
namespace Go.Proofs.YtialllbbbpmkbaaDoor.HL
set_option maxRecDepth 100000
/-- The entries of a map, told as texts and numbers. -/
def entsS (es : List MapEntry) : List (ByteArray × Int) → Prop := fun ms => es.map (fun e => (e.key, e.val)) = ms.map (fun m => (Value.string m.1, Value.int .i64 m.2))
theorem entsS_keys {es : List MapEntry} {ms : List (ByteArray × Int)} (h : entsS es ms) : keysS es := fun e he => by
  have : (e.key, e.val) ∈ es.map (fun e => (e.key, e.val)) := List.mem_map.mpr ⟨e, he, rfl⟩
  rw [h] at this
  obtain ⟨m, _, hm⟩ := List.mem_map.mp this
  exact ⟨m.1, by injection hm with h1 _; exact h1.symm⟩
/-- A map that is owned. -/
def Mp (H : Hp) (p : Value) (S : Rg) (ms : List (ByteArray × Int)) : Prop := ∃ r es c, p = .map (some r) ∧ H r = some (.map es c) ∧ entsS es.toList ms ∧ ∀ b, S b ↔ b = r
section
variable {H H' : Hp} {p : Value} {S : Rg} {ms : List (ByteArray × Int)}
theorem Mp.known (h : Mp H p S ms) : Kn H S := by
  obtain ⟨r, es, c, _, hr, _, hS⟩ := h
  intro b hb
  rw [(hS b).mp hb]; exact ⟨_, hr⟩
theorem Mp.le (h : Mp H p S ms) (hl : Le H H') : Mp H' p S ms := by
  obtain ⟨r, es, c, e, hr, he, hS⟩ := h
  exact ⟨r, es, c, e, hl r _ hr, he, hS⟩
theorem Mp.off {w : Value} (h : Mp H p S ms) (ho : Off w H H') (ha : Apt S w) : Mp H' p S ms := by
  obtain ⟨r, es, c, e, hr, he, hS⟩ := h
  exact ⟨r, es, c, e, ho r _ hr (ha r ((hS r).mpr rfl)), he, hS⟩
theorem Mp.offS {T : Rg} (h : Mp H p S ms) (ho : OffS T H H') (ha : Apt S T) : Mp H' p S ms := by
  obtain ⟨r, es, c, e, hr, he, hS⟩ := h
  exact ⟨r, es, c, e, ho r _ hr (ha r ((hS r).mpr rfl)), he, hS⟩
/-- A new map. -/
theorem Mp.new_ {K : Value → Hp → Prop} (hk : ∀ p S H', Mp H' p S [] → Nws H S → Le H H' → K p H') : opEv.nwM H K := fun r hr =>
  hk (.map (some r)) (fun b => b = r) (H.put r (.map #[] 0)) ⟨r, #[], 0, rfl, Hp.put_same _ _ _, rfl, fun _ => Iff.rfl⟩ (fun b hb => by have : b = r := hb; rw [this]; exact hr) (Le.put _ hr)
/-- What the map has at a text. -/
def mget (k : ByteArray) : List (ByteArray × Int) → Option Int
  | [] => none
  | m :: ms => bif k == m.1 then some m.2 else mget k ms
theorem findS_mget (k : ByteArray) : ∀ (es : List MapEntry) (ms : List (ByteArray × Int)) (i : Nat), entsS es ms → (findS k es i).map Prod.snd = (mget k ms).map (Value.int .i64)
  | [], [], _, _ => rfl
  | e :: es, m :: ms, i, h => by
    simp only [entsS, List.map_cons, List.cons.injEq, Prod.mk.injEq] at h
    obtain ⟨⟨h1, h2⟩, h3⟩ := h
    have ih := findS_mget k es ms (i + 1) h3
    unfold findS mget
    rw [h1]
    simp only [keyIs]
    cases k == m.1
    · exact ih
    · simp [h2]
  | [], _ :: _, _, h => by simp [entsS] at h
  | _ :: _, [], _, h => by simp [entsS] at h
theorem Mp.look {P : Program} {t kt et : TypeId} {k : ByteArray} {K : Value → Hp → Prop} (h : Mp H p S ms) (ht : P.underlying t = some (.map kt et)) (hk : P.underlying kt = some .string) (hz : zeroO P et = some (.int .i64 0))
    (hK : K (.tuple #[.int .i64 ((mget k ms).getD 0), .bool (mget k ms).isSome]) H) : hp P (Instr.lookup t p (.string k) true) H K := by
  obtain ⟨r, es, c, rfl, hr, he, hS⟩ := h
  refine hp_lookup ht hk hz hr (entsS_keys he) ?_
  have e := findS_mget k es.toList ms 0 he
  cases hf : findS k es.toList 0 with
  | none =>
    rw [hf] at e
    cases hm : mget k ms with
    | none => rw [hm] at hK; exact hK
    | some v => rw [hm] at e; simp at e
  | some x =>
    rw [hf] at e
    cases hm : mget k ms with
    | none => rw [hm] at e; simp at e
    | some v =>
      rw [hm] at hK e
      simp only [Option.map_some, Option.some.injEq] at e
      simp only [e]; exact hK
/-- One more entry. -/
theorem Mp.add {P : Program} {t kt et : TypeId} {k : ByteArray} {x : Int} {K : Unit → Hp → Prop} (h : Mp H p S ms) (ht : P.underlying t = some (.map kt et)) (hk : P.underlying kt = some .string) (hn : mget k ms = none)
    (hK : ∀ H', Mp H' p S (ms ++ [(k, x)]) → OffS S H H' → K () H') : hp P (Instr.mapUpdate t p (.string k) (.int .i64 x)) H K := by
  obtain ⟨r, es, c, rfl, hr, he, hS⟩ := h
  have e := findS_mget k es.toList ms 0 he
  have hf : findS k es.toList 0 = none := by
    rw [hn] at e
    cases h : findS k es.toList 0 with
    | none => rfl
    | some x => rw [h] at e; simp at e
  refine hp_mapUpdate_new ht hk hr (entsS_keys he) hf ?_
  refine hK _ ⟨r, _, c + 1, rfl, Hp.put_same _ _ _, ?_, hS⟩ (fun b o hb hn => ?_)
  · unfold entsS at he ⊢
    rw [Array.toList_push, List.map_append, he, List.map_append]; rfl
  · rw [Hp.put_ne _ _ (by rintro rfl; exact hn ((hS _).mpr rfl))]; exact hb
end
end Go.Proofs.YtialllbbbpmkbaaDoor.HL
