/- Maps from numbers to numbers, where each entry is told by a function. -/
import Derived.Test.YtelcmohhjkgjoaaKF
namespace Go.Proofs.Ytelcmohhjkgjoaa.HL
set_option maxRecDepth 100000
def entsG (es : List MapEntry) (g : Int → Int) : Prop := ∀ e ∈ es, ∃ a, e.key = .int .i64 a ∧ e.val = .int .i64 (g a)
theorem findNow_g {kd : IntKind} (k : Int) (g : Int → Int) : ∀ (es : List MapEntry) (i : Nat), entsG es g → ∃ r, Instr.findNow (.int kd) (.int .i64 k) es i = some r ∧ ∀ j v, r = some (j, v) → ∃ m, ∃ h : m < es.length, j = i + m ∧ es[m].key = .int .i64 k ∧ es[m].val = .int .i64 (g k) ∧ v = .int .i64 (g k)
  | [], i, _ => ⟨none, rfl, fun j v h => by simp at h⟩
  | e :: es, i, h => by
    obtain ⟨a, ha, hv⟩ := h e (by simp)
    obtain ⟨r, g1, g2⟩ := findNow_g k g es (i + 1) (fun x hx => h x (by simp [hx]))
    unfold Instr.findNow
    rw [ha]
    simp only [Instr.sameNow, if_true]
    by_cases hk : k = a
    · subst hk
      rw [show (k == k) = true by simp]
      exact ⟨_, rfl, fun j v hh => by
        simp only [Option.some.injEq, Prod.mk.injEq] at hh
        exact ⟨0, by simp, hh.1.symm, ha, hv, by rw [← hh.2, hv]⟩⟩
    · rw [show (k == a) = false by simp [hk]]
      refine ⟨r, g1, fun j v hh => ?_⟩
      obtain ⟨m, hm, q1, q2, q3, q4⟩ := g2 j v hh
      exact ⟨m + 1, by simpa using hm, by omega, q2, q3, q4⟩
/-- A map of numbers that is owned; its entries are told by g. -/
def MpG (H : Hp) (p : Value) (S : Rg) (g : Int → Int) : Prop := ∃ r es c, p = .map (some r) ∧ H r = some (.map es c) ∧ entsG es.toList g ∧ ∀ b, S b ↔ b = r
def mapII (P : Program) (t : TypeId) : Bool := match P.underlying t with
  | some (.map kt et) => (match P.underlying kt, zeroO P et with | some (.int .i64), some (.int .i64 0) => true | _, _ => false)
  | _ => false
theorem mapII_of {P : Program} {t : TypeId} (h : mapII P t = true) : ∃ kt et, P.underlying t = some (.map kt et) ∧ P.underlying kt = some (.int .i64) ∧ zeroO P et = some (.int .i64 0) := by
  unfold mapII at h
  split at h
  · rename_i kt et he
    split at h
    · rename_i h1 h2; exact ⟨kt, et, he, h1, h2⟩
    · simp at h
  · simp at h
section
variable {H H' : Hp} {p : Value} {S : Rg} {g : Int → Int}
theorem MpG.known (h : MpG H p S g) : Kn H S := by
  obtain ⟨r, es, c, _, hr, _, hS⟩ := h
  intro b hb
  rw [(hS b).mp hb]; exact ⟨_, hr⟩
theorem MpG.le (h : MpG H p S g) (hl : Le H H') : MpG H' p S g := by
  obtain ⟨r, es, c, e, hr, he, hS⟩ := h
  exact ⟨r, es, c, e, hl r _ hr, he, hS⟩
theorem MpG.off {w : Value} (h : MpG H p S g) (ho : Off w H H') (ha : Apt S w) : MpG H' p S g := by
  obtain ⟨r, es, c, e, hr, he, hS⟩ := h
  exact ⟨r, es, c, e, ho r _ hr (ha r ((hS r).mpr rfl)), he, hS⟩
theorem MpG.offS {T : Rg} (h : MpG H p S g) (ho : OffS T H H') (ha : Apt S T) : MpG H' p S g := by
  obtain ⟨r, es, c, e, hr, he, hS⟩ := h
  exact ⟨r, es, c, e, ho r _ hr (ha r ((hS r).mpr rfl)), he, hS⟩
theorem MpG.new_ {K : Value → Hp → Prop} (g : Int → Int) (hk : ∀ p S H', MpG H' p S g → Nws H S → Le H H' → K p H') : opEv.nwM H K := fun r hr =>
  hk (.map (some r)) (fun b => b = r) (H.put r (.map #[] 0)) ⟨r, #[], 0, rfl, Hp.put_same _ _ _, by simp [entsG], fun _ => Iff.rfl⟩ (fun b hb => by have : b = r := hb; rw [this]; exact hr) (Le.put _ hr)
theorem val_checkKeyI (P : Program) (b : Bool) (n : Nat) (t : TypeId) (k : Int) (H : Hp) (ht : P.underlying t = some (.int .i64)) : val P (Instr.checkKey b (n + 1) t (.int .i64 k)) H = some () := by
  unfold Instr.checkKey
  rw [val_bind', val_underlying, ht]
  rfl
theorem val_findKeyI {P : Program} {t : TypeId} {k : Int} {es : List MapEntry} {H : Hp} (ht : P.underlying t = some (.int .i64)) (he : entsG es g) : ∃ r, val P (Instr.findKey t (.int .i64 k) es) H = some r ∧ ∀ j v, r = some (j, v) → ∃ h : j < es.length, es[j].key = .int .i64 k ∧ es[j].val = .int .i64 (g k) ∧ v = .int .i64 (g k) := by
  obtain ⟨r, g1, g2⟩ := findNow_g (kd := .i64) k g es 0 he
  refine ⟨r, ?_, fun j v h => ?_⟩
  · unfold Instr.findKey
    rw [val_bind', val_underlying, ht, Option.bind_some, g1]
    rfl
  · obtain ⟨m, hm, q1, q2, q3, q4⟩ := g2 j v h
    obtain rfl : j = m := by omega
    exact ⟨hm, q2, q3, q4⟩
theorem MpG.look {P : Program} {t : TypeId} {k : Int} {K : Value → Hp → Prop} (h : MpG H p S g) (ht : mapII P t = true)
    (hK : ∀ (x : Int) (b : Bool), (b = true → x = g k) → K (.tuple #[.int .i64 x, .bool b]) H) : hp P (Instr.lookup t p (.int .i64 k) true) H K := by
  obtain ⟨r, es, c, rfl, hr, he, hS⟩ := h
  obtain ⟨kt, et, h1, h2, h3⟩ := mapII_of ht
  obtain ⟨y, g1, g2⟩ := val_findKeyI (H := H) (k := k) h2 he
  have e1 : val P (getObj r) H = some (.map es c) := by
    show val P (Sem.getObj r Sem.pure) H = _
    simp only [val, hr]
  have e2 : val P (Instr.checkKey es.isEmpty 10000 kt (.int .i64 k)) H = some () := val_checkKeyI P _ 9999 kt k H h2
  cases y with
  | none =>
    refine hp_of_val P _ H K _ ?_ (hK 0 false (by simp))
    unfold Instr.lookup
    rw [val_bind', val_underlying, h1]
    simp only [Option.bind_some]
    rw [val_bind']
    simp only [val_bind', e1, Option.bind_some, val_pure, e2, g1]
    simp only [val_bind', val_zeroValue, h3, Option.bind_some, val_pure]; rfl
  | some x =>
    obtain ⟨j, v⟩ := x
    obtain ⟨_, _, _, hv⟩ := g2 j v rfl
    refine hp_of_val P _ H K _ ?_ (hK (g k) true (fun _ => rfl))
    unfold Instr.lookup
    rw [val_bind', val_underlying, h1]
    simp only [Option.bind_some]
    rw [val_bind']
    simp only [val_bind', e1, Option.bind_some, val_pure, e2, g1]
    simp only [val_pure, Option.bind_some, hv]; rfl
theorem sameBits_int (n : Nat) (k : IntKind) (x : Int) : Instr.sameBits (n + 1) (.int k x) (.int k x) = true := by
  unfold Instr.sameBits; simp
theorem MpG.put {P : Program} {t : TypeId} {k x : Int} {K : Unit → Hp → Prop} (h : MpG H p S g) (ht : mapII P t = true) (hx : x = g k)
    (hK : ∀ H', MpG H' p S g → OffS S H H' → K () H') : hp P (Instr.mapUpdate t p (.int .i64 k) (.int .i64 x)) H K := by
  obtain ⟨r, es, c, rfl, hr, he, hS⟩ := h
  obtain ⟨kt, et, h1, h2, h3⟩ := mapII_of ht
  obtain ⟨y, g1, g2⟩ := val_findKeyI (H := H) (k := k) h2 he
  have e1 : val P (getObj r) H = some (.map es c) := by
    show val P (Sem.getObj r Sem.pure) H = _
    simp only [val, hr]
  unfold Instr.mapUpdate
  refine hp_val_bind P _ _ H K _ (by rw [val_underlying, h1]) ?_
  refine hp_val_bind P _ _ H K _ e1 ?_
  refine hp_val_bind P _ _ H K _ (val_checkKeyI P _ 9999 kt k H h2) ?_
  refine hp_val_bind P _ _ H K _ g1 ?_
  have hoff : ∀ o, OffS S H (H.put r o) := fun o b q hb hn => by
    rw [Hp.put_ne _ _ (by rintro rfl; exact hn ((hS _).mpr rfl))]; exact hb
  cases y with
  | none =>
    show hp P (Sem.setObj r _ (Sem.pure ())) H K
    simp only [hp, hr]
    refine hK _ ⟨r, _, c + 1, rfl, Hp.put_same _ _ _, fun e hm => ?_, hS⟩ (hoff _)
    rw [Array.toList_push] at hm
    rcases List.mem_append.mp hm with hm | hm
    · exact he e hm
    · simp only [List.mem_singleton] at hm
      subst hm
      exact ⟨k, rfl, by rw [hx]⟩
  | some q =>
    obtain ⟨j, v⟩ := q
    obtain ⟨hj, q1, q2, q3⟩ := g2 j v rfl
    have hj2 : j < es.size := by simpa using hj
    have ek : ((es[j]?).map (·.key)).getD (.int .i64 k) = .int .i64 k := by
      rw [Array.getElem?_eq_getElem hj2]
      simpa using q1
    have e4 : val P (Instr.keyThatStays (((es[j]?).map (·.key)).getD (.int .i64 k)) (.int .i64 k)) H = some (.int .i64 k) := by
      rw [ek]
      unfold Instr.keyThatStays
      rw [sameBits_int 9999]; rfl
    refine hp_val_bind P _ _ H K _ e4 ?_
    show hp P (Sem.setObj r _ (Sem.pure ())) H K
    simp only [hp, hr]
    refine hK _ ⟨r, _, c, rfl, Hp.put_same _ _ _, fun e hm => ?_, hS⟩ (hoff _)
    obtain ⟨i, hi, hi2⟩ := List.getElem_of_mem hm
    have hi3 : i < es.size := by simpa using hi
    simp only [Array.getElem_toList, Array.getElem_modify] at hi2
    split at hi2
    · subst hi2
      exact ⟨k, rfl, congrArg (Value.int .i64) hx⟩
    · subst hi2
      exact he _ (Array.getElem_mem_toList hi3)
end
end Go.Proofs.Ytelcmohhjkgjoaa.HL
