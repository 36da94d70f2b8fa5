/- Maps by texts. -/
import Derived.Test.YtialllbbbpmkbaaDoorSB
namespace Go.Proofs.YtialllbbbpmkbaaDoor.HL
set_option maxRecDepth 100000
def keyIs (k : ByteArray) (v : Value) : Bool := match v with | .string s => k == s | _ => false
/-- What a map has at a text: where, and what. -/
def findS (k : ByteArray) : List MapEntry → Nat → Option (Nat × Value)
  | [], _ => none
  | e :: es, i => bif keyIs k e.key then some (i, e.val) else findS k es (i + 1)
def keysS (es : List MapEntry) : Prop := ∀ e ∈ es, ∃ s, e.key = .string s
theorem findNow_s (k : ByteArray) : ∀ (es : List MapEntry) (i : Nat), keysS es → Instr.findNow .string (.string k) es i = some (findS k es i)
  | [], i, _ => rfl
  | e :: es, i, h => by
    obtain ⟨s, hs⟩ := h e (by simp)
    have ih := findNow_s k es (i + 1) (fun x hx => h x (by simp [hx]))
    unfold Instr.findNow findS
    rw [hs]
    simp only [Instr.sameNow, keyIs]
    cases e1 : (k == s) with
    | true => rfl
    | false => exact ih
theorem val_checkKey (P : Program) (b : Bool) (n : Nat) (t : TypeId) (k : ByteArray) (H : Hp) (ht : P.underlying t = some .string) : val P (Instr.checkKey b (n + 1) t (.string k)) H = some () := by
  unfold Instr.checkKey
  rw [val_bind', val_underlying, ht]
  rfl
theorem val_findKey (P : Program) (t : TypeId) (k : ByteArray) (es : List MapEntry) (H : Hp) (ht : P.underlying t = some .string) (hk : keysS es) : val P (Instr.findKey t (.string k) es) H = some (findS k es 0) := by
  unfold Instr.findKey
  rw [val_bind', val_underlying, ht]
  simp only [Option.bind_some]
  rw [findNow_s k es 0 hk]
  rfl
/-- A look into a map. -/
theorem hp_lookup {P : Program} {t kt et : TypeId} {r c : Nat} {es : Array MapEntry} {k : ByteArray} {z : Value} {H : Hp} {K : Value → Hp → Prop} (ht : P.underlying t = some (.map kt et)) (hk : P.underlying kt = some .string) (hz : zeroO P et = some z)
    (hr : H r = some (.map es c)) (hs : keysS es.toList) (h : K (.tuple #[match findS k es.toList 0 with | some (_, v) => v | none => z, .bool (findS k es.toList 0).isSome]) H) : hp P (Instr.lookup t (.map (some r)) (.string k) true) H K := by
  refine hp_of_val P _ H K _ ?_ h
  unfold Instr.lookup
  rw [val_bind', val_underlying, ht]
  simp only [Option.bind_some]
  rw [val_bind']
  have e1 : val P (getObj r) H = some (.map es c) := by
    show val P (Sem.getObj r Sem.pure) H = _
    simp only [val, hr]
  simp only [val_bind', e1, Option.bind_some, val_pure, val_checkKey P _ 9999 kt k H hk, val_findKey P kt k es.toList H hk hs]
  cases findS k es.toList 0 with
  | none => simp only [val_bind', val_zeroValue, hz, Option.bind_some, val_pure]; rfl
  | some x => simp only [val_pure, Option.bind_some]; rfl
/-- A new entry. -/
theorem hp_mapUpdate_new {P : Program} {t kt et : TypeId} {r c : Nat} {es : Array MapEntry} {k : ByteArray} {x : Value} {H : Hp} {K : Unit → Hp → Prop} (ht : P.underlying t = some (.map kt et)) (hk : P.underlying kt = some .string)
    (hr : H r = some (.map es c)) (hs : keysS es.toList) (hn : findS k es.toList 0 = none) (h : K () (H.put r (.map (es.push { key := .string k, val := x, born := c }) (c + 1)))) : hp P (Instr.mapUpdate t (.map (some r)) (.string k) x) H K := by
  unfold Instr.mapUpdate
  have e1 : val P (getObj r) H = some (.map es c) := by
    show val P (Sem.getObj r Sem.pure) H = _
    simp only [val, hr]
  refine hp_val_bind P _ _ H K _ (by rw [val_underlying, ht]) ?_
  refine hp_val_bind P _ _ H K _ e1 ?_
  refine hp_val_bind P _ _ H K _ (val_checkKey P _ 9999 kt k H hk) ?_
  refine hp_val_bind P _ _ H K _ (val_findKey P kt k es.toList H hk hs) ?_
  rw [hn]
  show hp P (Sem.setObj r _ (Sem.pure ())) H K
  simp only [hp, hr]
  exact h
end Go.Proofs.YtialllbbbpmkbaaDoor.HL
