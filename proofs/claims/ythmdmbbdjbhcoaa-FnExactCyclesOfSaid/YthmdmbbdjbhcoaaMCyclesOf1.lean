/- Several texts in one. -/
import Derived.Test.YthmdmbbdjbhcoaaMCyclesOf0
import Derived.Sort.Grow
import Derived.Test.YthmdmbbdjbhcoaaYS
import Derived.Test.YthmdmbbdjbhcoaaG0
import Derived.Below
import Derived.WalkKit
import Derived.ProofKit
/- Maps that count numbers, and ranges over them. -/
namespace Go.Proofs.Ythmdmbbdjbhcoaa.HL
set_option maxRecDepth 100000
/-- Entries, told in the order in which they were born. -/
def mkE : Nat → List (Int × Int) → List MapEntry
  | _, [] => []
  | i, m :: ms => { key := .int .i64 m.1, val := .int .i64 m.2, born := i } :: mkE (i + 1) ms
theorem mkE_len : ∀ (ms : List (Int × Int)) (i : Nat), (mkE i ms).length = ms.length
  | [], _ => rfl
  | m :: ms, i => by simp [mkE, mkE_len ms]
theorem mkE_app : ∀ (ms ns : List (Int × Int)) (i : Nat), mkE i (ms ++ ns) = mkE i ms ++ mkE (i + ms.length) ns
  | [], ns, i => rfl
  | m :: ms, ns, i => by
    simp only [mkE, List.cons_append, mkE_app ms ns (i + 1), List.length_cons]
    rw [show i + 1 + ms.length = i + (ms.length + 1) by omega]
theorem mkE_get : ∀ (ms : List (Int × Int)) (i j : Nat), (mkE i ms)[j]? = (ms[j]?).map fun m => { key := .int .i64 m.1, val := .int .i64 m.2, born := i + j }
  | [], i, j => by simp [mkE]
  | m :: ms, i, 0 => by simp [mkE]
  | m :: ms, i, j + 1 => by
    simp only [mkE, List.getElem?_cons_succ, mkE_get ms (i + 1) j]
    rw [show i + 1 + j = i + (j + 1) by omega]
theorem mkE_mem {ms : List (Int × Int)} {e : MapEntry} (h : e ∈ mkE 0 ms) : ∃ j, ∃ hj : j < ms.length, e = { key := .int .i64 ms[j].1, val := .int .i64 ms[j].2, born := j } := by
  obtain ⟨j, hj, rfl⟩ := List.mem_iff_getElem.mp h
  have hj' : j < ms.length := by rw [mkE_len] at hj; exact hj
  refine ⟨j, hj', ?_⟩
  have := mkE_get ms 0 j
  rw [List.getElem?_eq_getElem hj, List.getElem?_eq_getElem hj'] at this
  simpa using this
theorem mkE_in {ms : List (Int × Int)} {j : Nat} (hj : j < ms.length) : ({ key := .int .i64 ms[j].1, val := .int .i64 ms[j].2, born := j } : MapEntry) ∈ mkE 0 ms := by
  have := mkE_get ms 0 j
  rw [List.getElem?_eq_getElem hj] at this
  simp only [Option.map_some, Nat.zero_add] at this
  exact List.mem_of_getElem? this
/-- Where a number stands, and what is told of it. -/
def posK (k : Int) : List (Int × Int) → Option (Nat × Int)
  | [] => none
  | m :: ms => if k = m.1 then some (0, m.2) else (posK k ms).map fun p => (p.1 + 1, p.2)
theorem posK_at {k : Int} : ∀ {ms : List (Int × Int)} {i : Nat} {v : Int}, posK k ms = some (i, v) → ms[i]? = some (k, v)
  | [], i, v, h => by simp [posK] at h
  | m :: ms, i, v, h => by
    unfold posK at h
    split at h
    · rename_i hk
      simp only [Option.some.injEq, Prod.mk.injEq] at h
      obtain ⟨rfl, rfl⟩ := h
      rw [hk]; rfl
    · cases hp : posK k ms with
      | none => rw [hp] at h; simp at h
      | some p =>
        rw [hp] at h
        simp only [Option.map_some, Option.some.injEq, Prod.mk.injEq] at h
        obtain ⟨rfl, rfl⟩ := h
        rw [List.getElem?_cons_succ]
        exact posK_at hp
theorem posK_none {k : Int} : ∀ {ms : List (Int × Int)}, posK k ms = none → ∀ m ∈ ms, m.1 ≠ k
  | [], _, m, hm => by simp at hm
  | x :: ms, h, m, hm => by
    unfold posK at h
    split at h
    · simp at h
    · rename_i hk
      rcases List.mem_cons.mp hm with rfl | hm
      · exact fun e => hk e.symm
      · exact posK_none (by cases hp : posK k ms with | none => rfl | some p => rw [hp] at h; simp at h) m hm
theorem findNow_c {kd : IntKind} (k : Int) : ∀ (ms : List (Int × Int)) (i j : Nat), Instr.findNow (.int kd) (.int .i64 k) (mkE i ms) j = some ((posK k ms).map fun p => (p.1 + j, Value.int .i64 p.2))
  | [], i, j => rfl
  | m :: ms, i, j => by
    unfold mkE Instr.findNow posK
    simp only [Instr.sameNow, if_true]
    by_cases h : k = m.1
    · rw [if_pos h, show (k == m.1) = true by simp [h]]; simp
    · rw [if_neg h, show (k == m.1) = false by simp [h]]
      simp only
      rw [findNow_c k ms (i + 1) (j + 1)]
      cases posK k ms with
      | none => rfl
      | some p => simp; omega
/-- A map that is owned. -/
def MpC (H : Hp) (p : Value) (S : Rg) (ms : List (Int × Int)) : Prop := ∃ r, p = .map (some r) ∧ H r = some (.map (mkE 0 ms).toArray ms.length) ∧ ∀ b, S b ↔ b = r
def mapCI (P : Program) (t : TypeId) : Bool := match P.underlying t with
  | some (.map kt et) => (match P.underlying kt, zeroO P et with | some (.int .i64), some (.int .i64 0) => true | _, _ => false)
  | _ => false
theorem mapCI_of {P : Program} {t : TypeId} (h : mapCI P t = true) : ∃ kt et, P.underlying t = some (.map kt et) ∧ P.underlying kt = some (.int .i64) ∧ zeroO P et = some (.int .i64 0) := by
  unfold mapCI at h
  split at h
  · rename_i kt et he
    split at h
    · rename_i h1 h2; exact ⟨kt, et, he, h1, h2⟩
    · simp at h
  · simp at h
section
variable {H H' : Hp} {p : Value} {S : Rg} {ms ns : List (Int × Int)}
theorem MpC.cast (e : ms = ns) (h : MpC H p S ms) : MpC H p S ns := e ▸ h
theorem MpC.known (h : MpC H p S ms) : Kn H S := by
  obtain ⟨r, _, hr, hS⟩ := h
  intro b hb
  rw [(hS b).mp hb]; exact ⟨_, hr⟩
theorem MpC.le (h : MpC H p S ms) (hl : Le H H') : MpC H' p S ms := by
  obtain ⟨r, e, hr, hS⟩ := h
  exact ⟨r, e, hl r _ hr, hS⟩
theorem MpC.off {w : Value} (h : MpC H p S ms) (ho : Off w H H') (ha : Apt S w) : MpC H' p S ms := by
  obtain ⟨r, e, hr, hS⟩ := h
  exact ⟨r, e, ho r _ hr (ha r ((hS r).mpr rfl)), hS⟩
theorem MpC.offS {T : Rg} (h : MpC H p S ms) (ho : OffS T H H') (ha : Apt S T) : MpC H' p S ms := by
  obtain ⟨r, e, hr, hS⟩ := h
  exact ⟨r, e, ho r _ hr (ha r ((hS r).mpr rfl)), hS⟩
theorem MpC.new_ {K : Value → Hp → Prop} (hk : ∀ p S H', MpC H' p S [] → Nws H S → Le H H' → K p H') : opEv.nwM H K := fun r hr =>
  hk (.map (some r)) (fun b => b = r) (H.put r (.map #[] 0)) ⟨r, rfl, Hp.put_same _ _ _, fun _ => Iff.rfl⟩ (fun b hb => by have : b = r := hb; rw [this]; exact hr) (Le.put _ hr)
theorem val_checkKeyC (P : Program) (b : Bool) (n : Nat) (t : TypeId) (k : Int) (H : Hp) (ht : P.underlying t = some (.int .i64)) : val P (Instr.checkKey b (n + 1) t (.int .i64 k)) H = some () := by
  unfold Instr.checkKey
  rw [val_bind', val_underlying, ht]
  rfl
theorem val_findKeyC {P : Program} {t : TypeId} {k : Int} (ht : P.underlying t = some (.int .i64)) : val P (Instr.findKey t (.int .i64 k) (mkE 0 ms)) H = some ((posK k ms).map fun p => (p.1, Value.int .i64 p.2)) := by
  unfold Instr.findKey
  rw [val_bind', val_underlying, ht]
  simp only [Option.bind_some]
  rw [findNow_c k ms 0 0]
  rfl
/-- An entry for a number, its number and its place; a new one where there was none. -/
def entK (k : Int) (ms : List (Int × Int)) : List (Int × Int) := match posK k ms with | some _ => ms | none => ms ++ [(k, 0)]
def entI (k : Int) (ms : List (Int × Int)) : Nat := match posK k ms with | some p => p.1 | none => ms.length
def entV (k : Int) (ms : List (Int × Int)) : Int := match posK k ms with | some p => p.2 | none => 0
theorem MpC.entry {P : Program} {t : TypeId} {k : Int} {K : Value → Hp → Prop} (h : MpC H p S ms) (ht : mapCI P t = true)
    (hK : ∀ H', MpC H' p S (entK k ms) → OffS S H H' → K (.tuple #[.int .i64 (entV k ms), .int .i64 (entI k ms : Int)]) H') : hp P (Instr.mapEntry t p (.int .i64 k)) H K := by
  obtain ⟨r, rfl, hr, hS⟩ := h
  obtain ⟨kt, et, h1, h2, h3⟩ := mapCI_of ht
  unfold Instr.mapEntry
  have e1 : val P (getObj r) H = some (.map (mkE 0 ms).toArray ms.length) := by
    show val P (Sem.getObj r Sem.pure) H = _
    simp only [val, hr]
  refine hp_val_bind P _ _ H K _ (by rw [val_underlying, h1]) ?_
  refine hp_val_bind P _ _ H K _ e1 ?_
  refine hp_val_bind P _ _ H K _ (val_checkKeyC P _ 9999 kt k H h2) ?_
  refine hp_val_bind P _ _ H K _ (val_findKeyC (ms := ms) h2) ?_
  have hoff : ∀ o, OffS S H (H.put r o) := fun o b o' hb hn => by
    rw [Hp.put_ne _ _ (by rintro rfl; exact hn ((hS _).mpr rfl))]; exact hb
  cases hp' : posK k ms with
  | none =>
    simp only [Option.map_none]
    refine hp_val_bind P _ _ H K _ (by rw [val_zeroValue, h3]) ?_
    show hp P (Sem.setObj r _ (Sem.pure _)) H K
    simp only [hp, hr]
    have := hK (H.put r (.map ((mkE 0 ms).toArray.push { key := .int .i64 k, val := .int .i64 0, born := ms.length }) (ms.length + 1))) ⟨r, rfl, ?_, hS⟩ (hoff _)
    · simpa only [entV, entI, hp', goInt] using this
    · rw [Hp.put_same]
      unfold entK
      rw [hp']
      simp only [mkE_app, Nat.zero_add, List.length_append, List.length_singleton]
      simp [mkE]
  | some q =>
    obtain ⟨i, v⟩ := q
    simp only [Option.map_some]
    have hat := posK_at hp'
    have hge : (mkE 0 ms)[i]? = some { key := .int .i64 k, val := .int .i64 v, born := i } := by rw [mkE_get, hat]; simp
    have hge' : (mkE 0 ms).toArray[i]? = some { key := .int .i64 k, val := .int .i64 v, born := i } := by simpa using hge
    rw [hge']
    simp only [Option.map_some, Option.getD_some]
    refine hp_val_bind P _ _ H K (.int .i64 k) (by unfold Instr.keyThatStays Instr.sameBits; simp [val_pure]) ?_
    show hp P (Sem.setObj r _ (Sem.pure _)) H K
    simp only [hp, hr]
    have hmod : (mkE 0 ms).toArray.modify i (fun e => { e with key := .int .i64 k }) = (mkE 0 ms).toArray := by
      apply Array.ext_getElem?
      intro j
      rw [Array.getElem?_modify]
      by_cases e : i = j
      · subst e; rw [if_pos rfl, hge']; rfl
      · rw [if_neg e]
    rw [hmod]
    have := hK (H.put r (.map (mkE 0 ms).toArray ms.length)) ⟨r, rfl, ?_, hS⟩ (hoff _)
    · simpa only [entV, entI, hp', goInt] using this
    · rw [Hp.put_same]
      unfold entK
      rw [hp']
/-- A number told anew. -/
def updK (k x : Int) (ms : List (Int × Int)) : List (Int × Int) := (entK k ms).set (entI k ms) (k, x)
theorem updK_len (k x : Int) (ms : List (Int × Int)) : (updK k x ms).length ≤ ms.length + 1 := by
  unfold updK entK
  rw [List.length_set]
  cases posK k ms with
  | none => simp
  | some p => simp
theorem MpC.upd {P : Program} {t : TypeId} {k x : Int} {K : Unit → Hp → Prop} (h : MpC H p S ms) (ht : mapCI P t = true)
    (hK : ∀ H', MpC H' p S (updK k x ms) → OffS S H H' → K () H') : hp P (Instr.mapUpdate t p (.int .i64 k) (.int .i64 x)) H K := by
  obtain ⟨r, rfl, hr, hS⟩ := h
  obtain ⟨kt, et, h1, h2, h3⟩ := mapCI_of ht
  unfold Instr.mapUpdate
  have e1 : val P (getObj r) H = some (.map (mkE 0 ms).toArray ms.length) := by
    show val P (Sem.getObj r Sem.pure) H = _
    simp only [val, hr]
  refine hp_val_bind P _ _ H K _ (by rw [val_underlying, h1]) ?_
  refine hp_val_bind P _ _ H K _ e1 ?_
  refine hp_val_bind P _ _ H K _ (val_checkKeyC P _ 9999 kt k H h2) ?_
  refine hp_val_bind P _ _ H K _ (val_findKeyC (ms := ms) h2) ?_
  have hoff : ∀ o, OffS S H (H.put r o) := fun o b o' hb hn => by
    rw [Hp.put_ne _ _ (by rintro rfl; exact hn ((hS _).mpr rfl))]; exact hb
  cases hp' : posK k ms with
  | none =>
    simp only [Option.map_none]
    show hp P (Sem.setObj r _ (Sem.pure _)) H K
    simp only [hp, hr]
    refine hK (H.put r (.map ((mkE 0 ms).toArray.push { key := .int .i64 k, val := .int .i64 x, born := ms.length }) (ms.length + 1))) ⟨r, rfl, ?_, hS⟩ (hoff _)
    rw [Hp.put_same]
    unfold updK entK entI
    rw [hp']
    simp only
    rw [show (ms ++ [(k, (0 : Int))]).set ms.length (k, x) = ms ++ [(k, x)] by rw [List.set_append_right _ _ (Nat.le_refl _)]; simp]
    simp only [mkE_app, Nat.zero_add, List.length_append, List.length_singleton]
    simp [mkE]
  | some q =>
    obtain ⟨i, v⟩ := q
    simp only [Option.map_some]
    have hat := posK_at hp'
    have hlt : i < ms.length := by
      rcases Nat.lt_or_ge i ms.length with g | g
      · exact g
      · rw [List.getElem?_eq_none g] at hat; simp at hat
    have hge : ∀ j : Nat, (mkE 0 ms).toArray[j]? = (ms[j]?).map fun m => ({ key := .int .i64 m.1, val := .int .i64 m.2, born := j } : MapEntry) := fun j => by
      have := mkE_get ms 0 j
      simpa using this
    rw [hge i, hat]
    simp only [Option.map_some, Option.getD_some]
    refine hp_val_bind P _ _ H K (.int .i64 k) (by unfold Instr.keyThatStays Instr.sameBits; simp [val_pure]) ?_
    show hp P (Sem.setObj r _ (Sem.pure _)) H K
    simp only [hp, hr]
    refine hK _ ⟨r, rfl, ?_, hS⟩ (hoff _)
    rw [Hp.put_same]
    unfold updK entK entI
    rw [hp']
    simp only
    rw [List.length_set]
    congr 2
    apply Array.ext_getElem?
    intro j
    rw [Array.getElem?_modify, hge j]
    have e2 := mkE_get (ms.set i (k, x)) 0 j
    rw [List.getElem?_set] at e2
    by_cases e : i = j
    · subst e
      rw [if_pos rfl, hat]
      rw [if_pos rfl, if_pos hlt] at e2
      simpa using e2.symm
    · rw [if_neg e]
      rw [if_neg e] at e2
      simpa using e2.symm
theorem MpC.look1 {P : Program} {t : TypeId} {k : Int} {K : Value → Hp → Prop} (h : MpC H p S ms) (ht : mapCI P t = true) (hK : K (.int .i64 (entV k ms)) H) : hp P (Instr.lookup t p (.int .i64 k) false) H K := by
  obtain ⟨r, rfl, hr, hS⟩ := h
  obtain ⟨kt, et, h1, h2, h3⟩ := mapCI_of ht
  refine hp_of_val P _ H K _ ?_ hK
  unfold Instr.lookup
  have e1 : val P (getObj r) H = some (.map (mkE 0 ms).toArray ms.length) := by
    show val P (Sem.getObj r Sem.pure) H = _
    simp only [val, hr]
  rw [val_bind', val_underlying, h1]
  simp only [Option.bind_some]
  rw [val_bind']
  simp only [val_bind', e1, Option.bind_some, val_pure, val_checkKeyC P _ 9999 kt k H h2, val_findKeyC (ms := ms) h2]
  unfold entV
  cases posK k ms with
  | none => simp only [Option.map_none, val_bind', val_zeroValue, h3, Option.bind_some, val_pure]; rfl
  | some x => simp only [Option.map_some, val_pure, Option.bind_some]; rfl
def keyN (ms : List (Int × Int)) (j : Nat) : Int := (ms[j]?.getD (0, 0)).1
def valN (ms : List (Int × Int)) (j : Nat) : Int := (ms[j]?.getD (0, 0)).2
theorem keyN_at {ms : List (Int × Int)} {j : Nat} (h : j < ms.length) : ms[j].1 = keyN ms j ∧ ms[j].2 = valN ms j := by
  unfold keyN valN
  rw [List.getElem?_eq_getElem h]
  exact ⟨rfl, rfl⟩
theorem vExt_10 (a : Value) : vExt (.tuple #[a]) 0 = some a := rfl
/-- An iterator over a map: what it has given. -/
def ItC (H : Hp) (it m : Value) (n : Nat) (js : List Nat) : Prop := ∃ r q seen, it = .pointer (some ⟨r, 0, none⟩) ∧ m = .map (some q) ∧ H r = some (.mapIter (some q) n seen n) ∧ seen.toList = js
variable {it m : Value} {n : Nat} {js ks : List Nat}
theorem ItC.cast (e : js = ks) (h : ItC H it m n js) : ItC H it m n ks := e ▸ h
theorem ItC.known (h : ItC H it m n js) : ∀ b, bk it = some b → ∃ o, H b = some o := by
  obtain ⟨r, q, seen, rfl, _, hr, _⟩ := h
  intro b hb
  simp only [bk, Option.some.injEq] at hb
  subst hb; exact ⟨_, hr⟩
theorem ItC.le (h : ItC H it m n js) (hl : Le H H') : ItC H' it m n js := by
  obtain ⟨r, q, seen, e, e2, hr, hs⟩ := h
  exact ⟨r, q, seen, e, e2, hl _ _ hr, hs⟩
theorem ItC.off {w : Value} (h : ItC H it m n js) (ho : Off w H H') (ha : Apart it w) : ItC H' it m n js := by
  obtain ⟨r, q, seen, rfl, e2, hr, hs⟩ := h
  exact ⟨r, q, seen, rfl, e2, ho r _ hr (ha r rfl), hs⟩
theorem ItC.offS {T : Rg} (h : ItC H it m n js) (ho : OffS T H H') (ha : Apt it T) : ItC H' it m n js := by
  obtain ⟨r, q, seen, rfl, e2, hr, hs⟩ := h
  exact ⟨r, q, seen, rfl, e2, ho r _ hr (ha r rfl), hs⟩
theorem ItC.apart {w : Value} (h : ItC H it m n js) (hn : Nw H w) : Apart it w := Apart.of_nw h.known hn
theorem ItC.new_ {P : Program} {t : TypeId} {K : Value → Hp → Prop} (hm : MpC H m S ms) (ht : mapCI P t = true) (hk : ∀ it H', ItC H' it m ms.length [] → Nw H it → Le H H' → K it H') : hp P (Instr.range t m) H K := by
  obtain ⟨q, rfl, hq, hS⟩ := hm
  obtain ⟨kt, et, h1, h2, h3⟩ := mapCI_of ht
  unfold Instr.range
  have e1 : val P (getObj q) H = some (.map (mkE 0 ms).toArray ms.length) := by
    show val P (Sem.getObj q Sem.pure) H = _
    simp only [val, hq]
  refine hp_val_bind P _ _ H K (.map kt et) (by rw [val_underlying, h1]) ?_
  simp only [hp_bind']
  refine hp_val_bind P _ _ H _ _ e1 ?_
  show hp P (Sem.pure _) H _
  show hp P (Sem.new _ Sem.pure) H _
  intro r hr
  refine hk (.pointer (some ⟨r, 0, none⟩)) _ ⟨r, q, #[], rfl, rfl, Hp.put_same _ _ _, rfl⟩ (fun b hb => ?_) (Le.put _ hr)
  simp only [bk, Option.some.injEq] at hb
  subst hb; exact hr
theorem ItC.next {P : Program} {ty : TypeId} {K : Value → Hp → Prop} (hi : ItC H it m ms.length js) (hm : MpC H m S ms)
    (h1 : ∀ (j : Nat) (hj : j < ms.length) H', j ∉ js → ItC H' it m ms.length (js ++ [j]) → Off it H H' → K (.tuple #[.bool true, .int .i64 (keyN ms j), .int .i64 (valN ms j)]) H')
    (h2 : (∀ j, j < ms.length → j ∈ js) → K (.tuple #[.bool false]) H) : hp P (Instr.next it false ty) H K := by
  obtain ⟨r, q, seen, rfl, rfl, hr, hs⟩ := hi
  obtain ⟨q', e, hq, hS⟩ := hm
  simp only [Value.map.injEq, Option.some.injEq] at e
  subst e
  unfold Instr.next
  have e0 : val P (getObj r) H = some (.mapIter (some q) ms.length seen ms.length) := by
    show val P (Sem.getObj r Sem.pure) H = _
    simp only [val, hr]
  have e1 : val P (getObj q) H = some (.map (mkE 0 ms).toArray ms.length) := by
    show val P (Sem.getObj q Sem.pure) H = _
    simp only [val, hq]
  refine hp_val_bind P _ _ H K _ e0 ?_
  refine hp_val_bind P _ _ H K _ e1 ?_
  have hb : (!seen.isEmpty && !(mkE 0 ms).toArray.isEmpty && (mkE 0 ms).toArray.all (fun e => decide (e.born ≥ ms.length))) = false := by
    cases ms with
    | nil => simp [mkE]
    | cons x xs => simp [mkE]
  simp only [hb, Bool.false_eq_true, if_false]
  have hold : ((mkE 0 ms).toArray.filter fun e => !seen.contains e.born).filter (fun e => decide (e.born < ms.length)) = (mkE 0 ms).toArray.filter fun e => !seen.contains e.born := by
    rw [Array.filter_eq_self]
    intro e he
    obtain ⟨j, hj, rfl⟩ := mkE_mem (by simpa using (Array.mem_filter.mp he).1)
    simpa using hj
  have hnew : ((mkE 0 ms).toArray.filter fun e => !seen.contains e.born).filter (fun e => decide (e.born ≥ ms.length)) = #[] := by
    rw [Array.filter_eq_empty_iff]
    intro e he
    obtain ⟨j, hj, rfl⟩ := mkE_mem (by simpa using (Array.mem_filter.mp he).1)
    simp; omega
  rw [hold, hnew]
  generalize hL : (mkE 0 ms).toArray.filter (fun e => !seen.contains e.born) = L
  have hmem : ∀ e, e ∈ L → ∃ j, ∃ hj : j < ms.length, j ∉ js ∧ e = { key := .int .i64 ms[j].1, val := .int .i64 ms[j].2, born := j } := by
    intro e he
    rw [← hL] at he
    obtain ⟨g1, g2⟩ := Array.mem_filter.mp he
    obtain ⟨j, hj, rfl⟩ := mkE_mem (by simpa using g1)
    refine ⟨j, hj, ?_, rfl⟩
    rw [← hs]
    simpa using g2
  rw [Array.append_empty]
  generalize hC : (if L.isEmpty = true then (#[none] : Array (Option MapEntry)) else #[]) ++ L.map some = C
  have hCs : 0 < C.size := by
    rw [← hC]
    by_cases g : L.isEmpty = true
    · rw [if_pos g]; simp; omega
    · rw [if_neg g]
      simp only [Array.isEmpty, decide_eq_true_eq] at g
      simp; omega
  have hall : ∀ i, i < C.size → hp P (match C[i]? with
      | some (some e) => do
        setObj r (.mapIter (some q) ms.length (seen.push e.born) ms.length)
        pure (.tuple #[.bool true, e.key, e.val])
      | some none => pure (.tuple #[.bool false])
      | none => stuck "Next: no such candidate") H K := by
    intro i hi
    rw [Array.getElem?_eq_getElem hi]
    cases hc : C[i] with
    | none =>
      refine h2 (fun j hj => ?_)
      have hem : L.isEmpty = true := by
        have : none ∈ C := by rw [← hc]; exact Array.getElem_mem hi
        rw [← hC] at this
        by_cases g : L.isEmpty = true
        · exact g
        · rw [if_neg g] at this; simp at this
      by_cases hin : j ∈ js
      · exact hin
      · exfalso
        have hx : ({ key := .int .i64 ms[j].1, val := .int .i64 ms[j].2, born := j } : MapEntry) ∈ L := by
          rw [← hL]
          refine Array.mem_filter.mpr ⟨by simpa using mkE_in hj, ?_⟩
          rw [← hs] at hin
          simpa using hin
        rw [Array.isEmpty_iff] at hem
        rw [hem] at hx; simp at hx
    | some e =>
      have hx : e ∈ L := by
        have : some e ∈ C := by rw [← hc]; exact Array.getElem_mem hi
        rw [← hC] at this
        by_cases g : L.isEmpty = true
        · rw [if_pos g] at this
          rw [Array.isEmpty_iff] at g
          rw [g] at this; simp at this
        · rw [if_neg g] at this; simpa using this
      obtain ⟨j, hj, hn, rfl⟩ := hmem e hx
      show hp P (Sem.setObj r _ (Sem.pure _)) H K
      simp only [hp, hr]
      rw [(keyN_at hj).1, (keyN_at hj).2]
      refine h1 j hj _ hn ⟨r, q, _, rfl, rfl, Hp.put_same _ _ _, by simp [hs]⟩ (fun b o hb hn' => ?_)
      rw [Hp.put_ne _ _ (by rintro rfl; exact hn' rfl)]; exact hb
  show hp P (Sem.choose (.mapNext C.size) _) H K
  simp only [hp]
  split
  · exact hall 0 hCs
  · intro t
    exact hall (t % C.size) (Nat.mod_lt _ hCs)
theorem ItC.entry {P : Program} {K : Value → Hp → Prop} {j : Nat} (hi : ItC H it m ms.length (js ++ [j])) (hm : MpC H m S ms) (hj : j < ms.length)
    (hK : K (.tuple #[.int .i64 (keyN ms j), .int .i64 (valN ms j)]) H) : hp P (Instr.entry it) H K := by
  obtain ⟨r, q, seen, rfl, rfl, hr, hs⟩ := hi
  obtain ⟨q', e, hq, hS⟩ := hm
  simp only [Value.map.injEq, Option.some.injEq] at e
  subst e
  have e0 : val P (getObj r) H = some (.mapIter (some q) ms.length seen ms.length) := by
    show val P (Sem.getObj r Sem.pure) H = _
    simp only [val, hr]
  have e1 : val P (getObj q) H = some (.map (mkE 0 ms).toArray ms.length) := by
    show val P (Sem.getObj q Sem.pure) H = _
    simp only [val, hq]
  refine hp_of_val P _ H K _ ?_ hK
  have hb : seen.back? = some j := by
    have : seen = (js ++ [j]).toArray := by rw [← hs]
    rw [this]; simp
  have hf : (mkE 0 ms).toArray.find? (fun e => e.born == j) = some ({ key := .int .i64 ms[j].1, val := .int .i64 ms[j].2, born := j } : MapEntry) := by
    rw [List.find?_toArray]
    have key : ∀ (xs : List (Int × Int)) (i j : Nat) (hj : j < xs.length), (mkE i xs).find? (fun e => e.born == i + j) = some ({ key := .int .i64 xs[j].1, val := .int .i64 xs[j].2, born := i + j } : MapEntry) := by
      intro xs
      induction xs with
      | nil => intro i j hj; simp at hj
      | cons a xs ih =>
        intro i j hj
        unfold mkE
        cases j with
        | zero => simp
        | succ j =>
          rw [List.find?_cons_of_neg (by simp)]
          have := ih (i + 1) j (by simpa using hj)
          rw [show i + 1 + j = i + (j + 1) by omega] at this
          simpa using this
    have := key ms 0 j hj
    simpa using this
  unfold Instr.entry
  show val P (getObj r >>= _) H = _
  rw [val_bind', e0, Option.bind_some]
  simp only [hb]
  rw [val_bind', e1, Option.bind_some]
  simp only [bne_self_eq_false, Bool.false_eq_true, if_false, hf]
  rw [← (keyN_at hj).1, ← (keyN_at hj).2]
  rfl
end
end Go.Proofs.Ythmdmbbdjbhcoaa.HL
/- Cycles counted: maps that count lengths, sorted lengths, whole numbers of rings, images; by plain law. -/
namespace Go.Proofs.Ythmdmbbdjbhcoaa
open HL
/-- How often each length is told among some, 0 left out. -/
def cntK (L : List Int) (k : Nat) : Int := if k = 0 then 0 else (L.count (k : Int) : Int)
/-- Lengths and counts, the least length first. -/
def csG (c : Nat → Int) (m : Nat) : List Int := (List.range m).flatMap fun k => if 0 < c k then [(k : Int), c k] else []
def posC (L : List Int) : Int := (L.countP (fun x => decide (0 < x)) : Int)
theorem csG_succ {c : Nat → Int} {m : Nat} : csG c (m + 1) = csG c m ++ (if 0 < c m then [(m : Int), c m] else []) := by
  unfold csG
  rw [List.range_succ, List.flatMap_append]
  simp
theorem csG_yes {c : Nat → Int} {m : Nat} (h : 0 < c m) : csG c m ++ [(m : Int), c m] = csG c (m + 1) := by rw [csG_succ, if_pos h]
theorem csG_no {c : Nat → Int} {m : Nat} (h : ¬ 0 < c m) : csG c m = csG c (m + 1) := by rw [csG_succ, if_neg h, List.append_nil]
theorem csG_len {c : Nat → Int} : ∀ {m : Nat}, (csG c m).length ≤ 2 * m
  | 0 => by simp [csG]
  | m + 1 => by
    have := csG_len (c := c) (m := m)
    rw [csG_succ, List.length_append]
    split <;> simp <;> omega
theorem count_take {L : List Int} {t : Nat} (h : t < L.length) (k : Int) : ((L.take (t + 1)).count k : Int) = ((L.take t).count k : Int) + (if at_ 0 L (t : Int) = k then 1 else 0) := by
  rw [List.take_succ_eq_append_getElem h, List.count_append, List.count_singleton, at_eq 0 L h]
  by_cases e : L[t] = k
  · subst e; simp
  · rw [if_neg e]; simp [e]
theorem posC_take {L : List Int} {t : Nat} (h : t < L.length) : posC (L.take (t + 1)) = posC (L.take t) + (if 0 < at_ 0 L (t : Int) then 1 else 0) := by
  unfold posC
  rw [List.take_succ_eq_append_getElem h, List.countP_append, at_eq 0 L h]
  by_cases e : 0 < L[t]
  · rw [if_pos e]; simp [e]
  · rw [if_neg e]; simp [e]
theorem posC_bnd (L : List Int) : 0 ≤ posC L ∧ posC L ≤ L.length := by
  unfold posC
  have := List.countP_le_length (p := fun x : Int => decide (0 < x)) (l := L)
  omega
theorem cnt_bnd (L : List Int) (k : Nat) : 0 ≤ cntK L k ∧ cntK L k ≤ L.length := by
  unfold cntK
  have := List.count_le_length (a := (k : Int)) (l := L)
  split <;> omega
/-- The counts as a list. -/
def cnL (L : List Int) (N : Nat) : List Int := (List.range N).map (cntK L)
theorem cnL_len (L : List Int) (N : Nat) : (cnL L N).length = N := by simp [cnL]
theorem cnL_at {L : List Int} {N k : Nat} (h : k < N) : at_ 0 (cnL L N) (k : Int) = cntK L k := by
  rw [at_eq 0 _ (by rw [cnL_len]; exact h)]; simp [cnL]
theorem cnL_nil (N : Nat) : List.replicate N (0 : Int) = cnL [] N := by
  apply List.ext_getElem
  · simp [cnL]
  · intro i h1 h2; simp [cnL, cntK]
theorem cnL_set {L : List Int} {N t k : Nat} (ht : t < L.length) (hk : at_ 0 L (t : Int) = (k : Int)) (k0 : 0 < k) : (cnL (L.take t) N).set k (cntK (L.take t) k + 1) = cnL (L.take (t + 1)) N := by
  apply List.ext_getElem
  · simp [cnL]
  · intro i h1 h2
    simp only [cnL, List.getElem_set, List.getElem_map, List.getElem_range]
    have := count_take ht (i : Int)
    rw [hk] at this
    by_cases e : k = i
    · subst e
      rw [if_pos rfl]
      unfold cntK
      rw [if_neg (by omega), if_neg (by omega), this, if_pos rfl]
    · rw [if_neg e]
      unfold cntK
      by_cases e0 : i = 0
      · rw [if_pos e0, if_pos e0]
      · rw [if_neg e0, if_neg e0, this, if_neg (by omega)]; simp
theorem cnL_skip {L : List Int} {N t : Nat} (ht : t < L.length) (hk : ¬ 0 < at_ 0 L (t : Int)) : cnL (L.take t) N = cnL (L.take (t + 1)) N := by
  apply List.ext_getElem
  · simp [cnL]
  · intro i h1 h2
    simp only [cnL, List.getElem_map, List.getElem_range]
    have := count_take ht (i : Int)
    unfold cntK
    by_cases e0 : i = 0
    · rw [if_pos e0, if_pos e0]
    · rw [if_neg e0, if_neg e0, this, if_neg (by omega)]; simp
/-! ### the map -/
/-- What is told of a map that counts. -/
structure CntI (L : List Int) (ms : List (Int × Int)) : Prop where
  nd : ∀ i j (hi : i < j) (hj : j < ms.length), (ms[i]'(by omega)).1 ≠ ms[j].1
  ps : ∀ j (hj : j < ms.length), 0 < ms[j].1 ∧ 0 < ms[j].2 ∧ ms[j].2 = (L.count ms[j].1 : Int)
  al : ∀ k : Int, 0 < k → 0 < L.count k → ∃ j, ∃ hj : j < ms.length, ms[j].1 = k
def incM (k : Int) (ms : List (Int × Int)) : List (Int × Int) := (entK k ms).set (entI k ms) (k, entV k ms + 1)
theorem CntI.nil : CntI [] [] := ⟨fun i j _ h => by simp at h, fun j h => by simp at h, fun k _ h => by simp at h⟩
theorem CntI.skip {L : List Int} {ms : List (Int × Int)} {x : Int} (h : CntI L ms) (hx : ¬ 0 < x) : CntI (L ++ [x]) ms := by
  refine ⟨h.nd, fun j hj => ?_, fun k k0 hk => ?_⟩
  · obtain ⟨a, b, c⟩ := h.ps j hj
    refine ⟨a, b, ?_⟩
    rw [c, List.count_append, List.count_singleton]
    rw [show (x == ms[j].1) = false by simp; omega]; simp
  · refine h.al k k0 ?_
    rw [List.count_append, List.count_singleton, show (x == k) = false by simp; omega] at hk
    simpa using hk
theorem entV_at {k : Int} {L : List Int} {ms : List (Int × Int)} (h : CntI L ms) (k0 : 0 < k) : entV k ms = (L.count k : Int) := by
  unfold entV
  cases hp : posK k ms with
  | none =>
    simp only
    by_cases hc : 0 < L.count k
    · obtain ⟨j, hj, e⟩ := h.al k k0 hc
      exact absurd e (posK_none hp _ (List.getElem_mem hj))
    · omega
  | some p =>
    obtain ⟨i, v⟩ := p
    have := posK_at hp
    obtain ⟨hi, e⟩ := List.getElem?_eq_some_iff.mp this
    have hps := (h.ps i hi).2.2
    rw [e] at hps
    exact hps
theorem CntI.inc {L : List Int} {ms : List (Int × Int)} {x : Int} (h : CntI L ms) (hx : 0 < x) : CntI (L ++ [x]) (incM x ms) := by
  have hv := entV_at h hx
  have hcn : ∀ k : Int, ((L ++ [x]).count k : Int) = (L.count k : Int) + (if x = k then 1 else 0) := fun k => by
    rw [List.count_append, List.count_singleton]
    by_cases e : x = k
    · subst e; simp
    · rw [if_neg e]; simp [e]
  unfold incM
  rw [hv]
  unfold entK entI
  cases hp : posK x ms with
  | none =>
    have hno := posK_none hp
    have hc0 : L.count x = 0 := by
      rcases Nat.eq_zero_or_pos (L.count x) with g | g
      · exact g
      · obtain ⟨j, hj, e⟩ := h.al x hx g
        exact absurd e (hno _ (List.getElem_mem hj))
    simp only
    rw [hc0, show (ms ++ [(x, (0 : Int))]).set ms.length (x, ((0 : Nat) : Int) + 1) = ms ++ [(x, 1)] by rw [List.set_append_right _ _ (Nat.le_refl _)]; simp]
    refine ⟨fun i j hi hj => ?_, fun j hj => ?_, fun k k0 hk => ?_⟩
    · simp only [List.length_append, List.length_singleton] at hj
      by_cases e : j = ms.length
      · subst e
        rw [List.getElem_append_left (by omega), List.getElem_append_right (Nat.le_refl _)]
        simp only [Nat.sub_self, List.getElem_singleton]
        exact hno _ (List.getElem_mem _)
      · rw [List.getElem_append_left (by omega), List.getElem_append_left (by omega)]
        exact h.nd i j hi (by omega)
    · simp only [List.length_append, List.length_singleton] at hj
      by_cases e : j = ms.length
      · subst e
        rw [List.getElem_append_right (Nat.le_refl _)]
        simp only [Nat.sub_self, List.getElem_singleton]
        have := hcn x
        rw [if_pos rfl, hc0] at this
        exact ⟨hx, by omega, by rw [this]; rfl⟩
      · rw [List.getElem_append_left (by omega)]
        obtain ⟨a, b, c⟩ := h.ps j (by omega)
        refine ⟨a, b, ?_⟩
        rw [hcn, if_neg (fun e2 => hno _ (List.getElem_mem (show j < ms.length by omega)) e2.symm), c]; simp
    · by_cases e : x = k
      · exact ⟨ms.length, by simp, by rw [List.getElem_append_right (Nat.le_refl _)]; simpa using e⟩
      · have := hcn k
        rw [if_neg e] at this
        obtain ⟨j, hj, e2⟩ := h.al k k0 (by omega)
        exact ⟨j, by simp; omega, by rw [List.getElem_append_left hj]; exact e2⟩
  | some p =>
    obtain ⟨i0, v⟩ := p
    obtain ⟨hi0, e0⟩ := List.getElem?_eq_some_iff.mp (posK_at hp)
    simp only
    have hk1 : ∀ j (hj : j < ms.length), ((ms.set i0 (x, (L.count x : Int) + 1))[j]'(by simpa using hj)).1 = ms[j].1 := fun j hj => by
      rw [List.getElem_set]
      by_cases e : i0 = j
      · subst e; rw [if_pos rfl, e0]
      · rw [if_neg e]
    refine ⟨fun i j hi hj => ?_, fun j hj => ?_, fun k k0 hk => ?_⟩
    · simp only [List.length_set] at hj
      rw [hk1 i (by omega), hk1 j hj]
      exact h.nd i j hi hj
    · simp only [List.length_set] at hj
      rw [hk1 j hj]
      obtain ⟨a, b, c⟩ := h.ps j hj
      rw [List.getElem_set]
      by_cases e : i0 = j
      · subst e
        rw [if_pos rfl, e0, hcn, if_pos rfl]
        exact ⟨hx, by show (0 : Int) < (L.count x : Int) + 1; omega, rfl⟩
      · rw [if_neg e, hcn, if_neg (fun e2 => by
          rcases Nat.lt_or_gt_of_ne e with g | g
          · exact h.nd i0 j g hj (by rw [e0, e2])
          · exact h.nd j i0 g hi0 (by rw [e0, e2]))]
        exact ⟨a, b, by rw [c]; simp⟩
    · have := hcn k
      by_cases e : x = k
      · exact ⟨i0, by simpa using hi0, by rw [hk1 i0 hi0, e0]; exact e⟩
      · rw [if_neg e] at this
        obtain ⟨j, hj, e2⟩ := h.al k k0 (by omega)
        exact ⟨j, by simpa using hj, by rw [hk1 j hj]; exact e2⟩
theorem CntI.take {L : List Int} {ms : List (Int × Int)} {t : Nat} (h : CntI (L.take t) ms) (ht : t < L.length) (hx : 0 < at_ 0 L (t : Int)) : CntI (L.take (t + 1)) (incM (at_ 0 L (t : Int)) ms) := by
  rw [List.take_succ_eq_append_getElem ht, ← at_eq 0 L ht]; exact h.inc hx
theorem CntI.pass {L : List Int} {ms : List (Int × Int)} {t : Nat} (h : CntI (L.take t) ms) (ht : t < L.length) (hx : ¬ 0 < at_ 0 L (t : Int)) : CntI (L.take (t + 1)) ms := by
  rw [List.take_succ_eq_append_getElem ht, ← at_eq 0 L ht]; exact h.skip hx
/-- Lists that rise and have the same things are the same. -/
theorem rise_eq : ∀ {A B : List Int}, A.Pairwise (· < ·) → B.Pairwise (· < ·) → (∀ x, x ∈ A ↔ x ∈ B) → A = B
  | [], [], _, _, _ => rfl
  | [], b :: B, _, _, h => absurd ((h b).mpr (by simp)) (by simp)
  | a :: A, [], _, _, h => absurd ((h a).mp (by simp)) (by simp)
  | a :: A, b :: B, hA, hB, h => by
    rw [List.pairwise_cons] at hA hB
    have e : a = b := by
      rcases List.mem_cons.mp ((h a).mp (by simp)) with e | g1
      · exact e
      · rcases List.mem_cons.mp ((h b).mpr (by simp)) with e | g2
        · exact e.symm
        · have := hA.1 b g2
          have := hB.1 a g1
          omega
    subst e
    rw [rise_eq hA.2 hB.2 (fun x => ?_)]
    constructor
    · intro hx
      rcases List.mem_cons.mp ((h x).mp (by simp [hx])) with e | g
      · have := hA.1 x hx; omega
      · exact g
    · intro hx
      rcases List.mem_cons.mp ((h x).mpr (by simp [hx])) with e | g
      · have := hB.1 x hx; omega
      · exact g
/-- The lengths that are told. -/
def kyL (c : Nat → Int) (m : Nat) : List Int := ((List.range m).filter fun k => decide (0 < c k)).map fun (k : Nat) => (k : Int)
theorem kyL_rise (c : Nat → Int) (m : Nat) : (kyL c m).Pairwise (· < ·) := by
  unfold kyL
  rw [List.pairwise_map]
  exact (List.pairwise_lt_range.filter _).imp fun h => by omega
theorem csG_ky (c : Nat → Int) : ∀ m : Nat, csG c m = (kyL c m).flatMap fun k => [k, c k.toNat]
  | 0 => rfl
  | m + 1 => by
    rw [csG_succ, csG_ky c m]
    unfold kyL
    rw [List.range_succ, List.filter_append, List.map_append, List.flatMap_append]
    congr 1
    by_cases h : 0 < c m
    · rw [if_pos h]; simp [h]
    · rw [if_neg h]; simp [h]
/-- The sorted keys. -/
theorem keys_eq {L ks S : List Int} {ms : List (Int × Int)} {js : List Nat} {N : Nat} (h : CntI L ms) (hL : ∀ x ∈ L, 0 ≤ x ∧ x ≤ (N : Int)) (hnd : js.Nodup) (hb : ∀ j ∈ js, j < ms.length) (hall : ∀ j, j < ms.length → j ∈ js)
    (hk : ks = js.map fun j => keyN ms j) (hS : S = ks.mergeSort fun x y => decide (x ≤ y)) : S = kyL (cntK L) (N + 1) := by
  have hget : ∀ j (hj : j < ms.length), keyN ms j = ms[j].1 := fun j hj => (keyN_at hj).1.symm
  have hperm : S.Perm ks := by rw [hS]; exact List.mergeSort_perm _ _
  have hle : S.Pairwise (fun x y => x ≤ y) := by
    have := List.pairwise_mergeSort (le := fun x y : Int => decide (x ≤ y)) (fun a b c h1 h2 => by simp only [decide_eq_true_eq] at *; omega) (fun a b => by simp only [Bool.or_eq_true, decide_eq_true_eq]; omega) ks
    rw [hS]
    exact this.imp fun h => by simpa using h
  have hnk : ks.Nodup := by
    rw [hk]
    unfold List.Nodup
    rw [List.pairwise_map]
    refine (List.Pairwise.and_mem.mp hnd).imp fun {a b} hab e => ?_
    obtain ⟨ha, hb', hne⟩ := hab
    have h1 := hb a ha
    have h2 := hb b hb'
    rw [hget a h1, hget b h2] at e
    rcases Nat.lt_or_gt_of_ne hne with g | g
    · exact h.nd a b g h2 e
    · exact h.nd b a g h1 e.symm
  have hnS : S.Nodup := hperm.nodup_iff.mpr hnk
  refine rise_eq ?_ (kyL_rise _ _) (fun x => ?_)
  · exact (List.pairwise_and_iff.mpr ⟨hle, hnS⟩).imp fun {a b} hab => by
      have := hab.1; have := hab.2; omega
  · rw [hperm.mem_iff, hk]
    unfold kyL
    simp only [List.mem_map, List.mem_filter, List.mem_range, decide_eq_true_eq]
    constructor
    · rintro ⟨j, hj, rfl⟩
      have hj' := hb j hj
      rw [hget j hj']
      obtain ⟨a, b, c⟩ := h.ps j hj'
      have hm : ms[j].1 ∈ L := List.count_pos_iff.mp (by omega)
      have hb2 := hL _ hm
      refine ⟨ms[j].1.toNat, ⟨by omega, ?_⟩, by omega⟩
      unfold cntK
      rw [if_neg (by omega), Int.toNat_of_nonneg (by omega)]
      omega
    · rintro ⟨k, ⟨hk1, hk2⟩, rfl⟩
      unfold cntK at hk2
      split at hk2
      · omega
      · obtain ⟨j, hj, e⟩ := h.al (k : Int) (by omega) (by omega)
        exact ⟨j, hall j hj, by rw [hget j hj]; exact e⟩
theorem flatMap_same {α β : Type} {f g : α → List β} : ∀ {l : List α}, (∀ x ∈ l, f x = g x) → l.flatMap f = l.flatMap g
  | [], _ => rfl
  | a :: l, h => by
    rw [List.flatMap_cons, List.flatMap_cons, h a (by simp), flatMap_same (fun x hx => h x (by simp [hx]))]
/-- Lengths and counts out of a map, one length after the other. -/
theorem cyc_out {L S : List Int} {ms : List (Int × Int)} {N : Nat} (h : CntI L ms) (hS : S = kyL (cntK L) (N + 1)) : S.flatMap (fun k => [k, entV k ms]) = csG (cntK L) (N + 1) := by
  rw [csG_ky, ← hS]
  refine flatMap_same (fun k hk => ?_)
  rw [hS] at hk
  unfold kyL at hk
  simp only [List.mem_map, List.mem_filter, List.mem_range, decide_eq_true_eq] at hk
  obtain ⟨i, ⟨_, hi⟩, rfl⟩ := hk
  unfold cntK at hi
  split at hi
  · omega
  · rename_i h0
    rw [entV_at h (by omega)]
    unfold cntK
    rw [Int.toNat_natCast, if_neg h0]
/-! ### whole numbers of rings -/
theorem nd_le : ∀ {A B : List Nat}, A.Nodup → (∀ x ∈ A, x ∈ B) → A.length ≤ B.length
  | [], B, _, _ => by simp
  | a :: A, B, h, hs => by
    have h' := List.nodup_cons.mp h
    have := nd_le (A := A) (B := B.erase a) h'.2 (fun x hx => (List.mem_erase_of_ne (fun e => h'.1 (by rw [← e]; exact hx))).mpr (hs x (by simp [hx])))
    rw [List.length_erase_of_mem (hs a (by simp))] at this
    have hp : 0 < B.length := List.length_pos_of_mem (hs a (by simp))
    rw [List.length_cons]; omega
/-! ### sums -/
theorem cyL_in {nx : List Int} : ∀ x ∈ cyL nx, 0 ≤ x ∧ x ≤ (nx.length : Int) := fun x hx => by
  unfold cyL at hx
  obtain ⟨k, _, rfl⟩ := List.mem_map.mp hx
  have := perN_le (F := nxF nx) (N := nx.length) k
  omega
/-! ### images -/
end Go.Proofs.Ythmdmbbdjbhcoaa
/- Steps of all rings, how long each one's cycle is, how deep it lies. -/
namespace Go.Proofs.Ythmdmbbdjbhcoaa
open HL
set_option maxRecDepth 100000
/-- A rule whose rings of n cells are few. -/
def smlP (st rc : Int) (T : List Int) (n : Int) : Prop := ruleP st rc T ∧ 2 * rc + 1 ≤ n ∧ n ≤ (if st = 2 then 12 else 8)
instance (st rc : Int) (T : List Int) (n : Int) : Decidable (smlP st rc T n) := by unfold smlP; infer_instance
theorem sml_pw {st rc n : Int} {T : List Int} (h : smlP st rc T n) : 1 ≤ pwr st n ∧ pwr st n ≤ 6561 ∧ 1 ≤ n ∧ n ≤ 12 := by
  obtain ⟨⟨h1, h2, _⟩, h3, h4⟩ := h
  have e2 : ∀ k : Fin 13, 1 ≤ (2 : Int) ^ (k : Nat) ∧ (2 : Int) ^ (k : Nat) ≤ 6561 := by decide
  have e3 : ∀ k : Fin 9, 1 ≤ (3 : Int) ^ (k : Nat) ∧ (3 : Int) ^ (k : Nat) ≤ 6561 := by decide
  rcases h1 with rfl | rfl
  · rw [if_pos rfl] at h4
    have := e2 ⟨n.toNat, by omega⟩
    exact ⟨this.1, this.2, by omega, by omega⟩
  · rw [if_neg (by omega)] at h4
    have := e3 ⟨n.toNat, by omega⟩
    exact ⟨this.1, this.2, by omega, by omega⟩
/-- The next ring of a ring, by their numbers. -/
def nsF (st rc : Int) (T : List Int) (n : Int) (k : Nat) : Int := numL st (stpL st rc T (digL (k : Int) st n.toNat))
def nsG (st rc : Int) (T : List Int) (n : Int) (m : Nat) : List Int := (List.range m).map (nsF st rc T n)
def nsL (st rc : Int) (T : List Int) (n : Int) : List Int := nsG st rc T n (pwr st n).toNat
section
variable {st rc n : Int} {T : List Int} {m : Nat}
theorem nsG_succ : nsG st rc T n m ++ [nsF st rc T n m] = nsG st rc T n (m + 1) := by simp [nsG, List.range_succ]
theorem nsG_len : (nsG st rc T n m).length = m := by simp [nsG]
theorem nsL_len : (nsL st rc T n).length = (pwr st n).toNat := nsG_len
theorem stp_in (h : smlP st rc T n) (k : Nat) : ∀ x ∈ stpL st rc T (digL (k : Int) st n.toNat), 0 ≤ x ∧ x ≤ st - 1 := by
  have := (sml_pw h).2.2
  have hl : 0 < (digL (k : Int) st n.toNat).length := by rw [digL_len]; omega
  exact stpF_in h.1 (digL_in (by have := h.1.1; omega)) hl _
theorem nsF_bnd (h : smlP st rc T n) (k : Nat) : 0 ≤ nsF st rc T n k ∧ nsF st rc T n k < pwr st n := by
  have hb := numL_bnd (b := st) (by have := h.1.1; omega) (stp_in h k)
  rw [stpL_len, digL_len] at hb
  exact hb
theorem nsL_nx (h : smlP st rc T n) : nxP (nsL st rc T n) := fun x hx => by
  have hp := sml_pw h
  unfold nsL nsG at hx
  obtain ⟨k, _, rfl⟩ := List.mem_map.mp hx
  have := nsF_bnd h k
  rw [nsL_len]
  omega
end
theorem place_at {nx P : List Int} {s n p : Nat} (h : plP nx s n P) (hp : p < n) (he : itF (nxF nx) n s = itF (nxF nx) p s) : at_ 0 P ((itF (nxF nx) n s : Nat) : Int) = (p : Int) := by
  rw [he]; exact h.2 p hp
theorem cyS_ends {nx F0 F L0 lo : List Int} {s n p j : Nat} (hx : nxP nx) (hs : s < nx.length) (hI : CyI nx s F0 L0) (hW : CyW nx s n F0 F) (he : itF (nxF nx) n s = itF (nxF nx) p s) (hj : p + j < n) (h : CyS nx s n p (j + 1) L0 lo) : (at_ 0 lo (at_ 0 nx ((itF (nxF nx) (p + j) s : Nat) : Int)) ≠ 0 ↔ j + 1 = n - p) := by
  rw [nxW_at hx hs (p + j), show p + j + 1 = p + (j + 1) by omega]
  constructor
  · intro h1
    by_cases g : p + (j + 1) < n
    · exact absurd (h.zero hx hs hI hW g) h1
    · omega
  · intro e
    exact h.full he e (by omega)
theorem place_bnd {nx F0 F L0 P : List Int} {s n : Nat} (hx : nxP nx) (hs : s < nx.length) (hI : CyI nx s F0 L0) (hW : CyW nx s n F0 F) (hP : plP nx s n P) : at_ 0 F ((itF (nxF nx) n s : Nat) : Int) ≠ (s : Int) + 1 ∨ (0 ≤ at_ 0 P ((itF (nxF nx) n s : Nat) : Int) ∧ at_ 0 P ((itF (nxF nx) n s : Nat) : Int) ≤ (n : Int)) := by
  by_cases g : at_ 0 F ((itF (nxF nx) n s : Nat) : Int) = (s : Int) + 1
  · obtain ⟨p, hp, he⟩ := hW.back hx hs hI g
    rw [place_at hP hp he]; omega
  · exact .inl g
theorem round_at {nx : List Int} {s n p : Nat} (hx : nxP nx) (hs : s < nx.length) (he : itF (nxF nx) n s = itF (nxF nx) p s) : at_ 0 nx ((itF (nxF nx) n s : Nat) : Int) = ((itF (nxF nx) (p + 1 + 0) s : Nat) : Int) := by
  rw [nxW_at hx hs n]
  show ((nxF nx (itF (nxF nx) n s) : Nat) : Int) = ((nxF nx (itF (nxF nx) p s) : Nat) : Int)
  rw [he]
theorem C.impl_Rule_mostCells {vt : Value} {st rc a b : Int} {T : List Int}  {H : Hp} {K : Value → Hp → Prop} (hvt0 : Sl eI H vt T)
    (hk : ∀ H', Le H H' → K (.int .i64 (if st = 2 then a else b)) H') : HT prg I.impl_Rule_mostCells [(.agg #[(.int .i64 (st)), (.int .i64 (rc)), vt]), (.int .i64 (a)), (.int .i64 (b))].toArray H K := by
 have lE := Le.refl H
 refine R.impl_Rule_mostCells ?_
 unfold F.impl_Rule_mostCells
 refine nw_i (fun p1 H2 op1 nn3 le4 => ?_)
 replace lE := lE.trans le4
 replace op1 : Cel H2 p1 [(.int .i64 (st)), (.int .i64 (rc)), vt] := op1
 refine ob_i (op1.fa 0) ?_
 refine ob_i (op1.ld 0 rfl) ?_
 refine ob_i (vInt_eql _ _ _) ?_
 refine cnd_d (fun hg5 => ?_) (fun hg5 => ?_)
 ·skip
  skip
  exact keq (K := K) (by rw [show ((if st = 2 then a else b) : Int) = (a) from by rw [if_pos hg5]]) (hk   _    lE)
 ·skip
  skip
  exact keq (K := K) (by rw [show ((if st = 2 then a else b) : Int) = (b) from by rw [if_neg hg5]]) (hk   _    lE)
theorem C.impl_small {vt : Value} {st rc n : Int} {T : List Int}  {H : Hp} {K : Value → Hp → Prop} (hvt0 : Sl eI H vt T) (k1 : T.length ≤ 9223372036854775807)
    (hk : ∀ H', Le H H' → K (.bool (decide (smlP st rc T n))) H') : HT prg I.impl_small [(.agg #[(.int .i64 (st)), (.int .i64 (rc)), vt]), (.int .i64 (n))].toArray H K := by
 have lE := Le.refl H
 have hvt := hvt0
 refine R.impl_small ?_
 unfold F.impl_small
 refine nw_i (fun p1 H2 op1 nn3 le4 => ?_)
 replace hvt := hvt.le le4
 replace lE := lE.trans le4
 replace op1 : Cel H2 p1 [(.int .i64 (st)), (.int .i64 (rc)), vt] := op1
 refine ob_i (op1.ldn rfl) ?_
 refine C.impl_ValidRule hvt (by first | omega | assumption) (fun   H5    le6 => ?_)
 replace op1 := op1.le le6
 replace hvt := hvt.le le6
 replace lE := lE.trans le6
 refine ⟨le6, ?_⟩
 by_cases hc7 : ruleP st rc T
 ·skip
  have hru := hc7
  have hr1 := hru.1
  have hr2 := hru.2.1
  refine gop_e (decide_eq_true hc7) ?_
  refine gop_rt ?_
  refine gop_e (decide_eq_true hc7) ?_
  refine gop_rt ?_
  refine ob_i (op1.ldn rfl) ?_
  refine gop_e (decide_eq_true hc7) ?_
  refine gop_rt ?_
  refine ob_i (op1.ldn rfl) ?_
  refine gop_e (decide_eq_true hc7) ?_
  refine gop_rt ?_
  refine C.impl_Rule_cells hvt (by first | omega | assumption) (by first | omega | assumption) (fun   H8    le9 => ?_)
  replace hvt := hvt.le le9
  replace lE := lE.trans le9
  refine ⟨le9, ?_⟩
  refine gop_e (decide_eq_true hc7) ?_
  refine gop_rt ?_
  refine C.impl_Rule_mostCells hvt (fun   H10    le11 => ?_)
  replace lE := lE.trans le11
  refine ⟨le11, ?_⟩
  refine gop_e (decide_eq_true hc7) ?_
  refine gop_rt ?_
  refine C.impl_within  ?_
  refine ⟨Le.refl _, ?_⟩
  refine ob_i (vPick_et (decide_eq_true hc7) _ _) ?_
  skip
  exact keq (K := K) (by rw [show decide ((2 * rc + 1) ≤ n ∧ n ≤ (if st = 2 then 12 else 8)) = decide (smlP st rc T n) from decide_eq_decide.mpr (by exact ⟨fun h => ⟨by assumption, h⟩, fun h => h.2⟩)]) (hk   _    lE)
 ·skip
  refine gop_e (decide_eq_false hc7) ?_
  refine gop_sf ?_
  refine gop_e (decide_eq_false hc7) ?_
  refine gop_sf ?_
  refine gop_e (decide_eq_false hc7) ?_
  refine gop_sf ?_
  refine gop_e (decide_eq_false hc7) ?_
  refine gop_sf ?_
  refine gop_e (decide_eq_false hc7) ?_
  refine gop_sf ?_
  refine gop_e (decide_eq_false hc7) ?_
  refine gop_sf ?_
  refine ob_i (vPick_ef (decide_eq_false hc7) _ _) ?_
  skip
  exact keq (K := K) (by rw [decide_eq_false (show ¬ (smlP st rc T n) from by exact fun h => absurd h.1 (by assumption))]) (hk   _    lE)
theorem C.spec_l03Small {p vt : Value} {n st rc : Int} {T : List Int}  {H : Hp} {K : Value → Hp → Prop} (hp0 : Cel H p [(.int .i64 (st)), (.int .i64 (rc)), vt]) (hvt0 : Sl eI H vt T) (k1 : T.length ≤ 9223372036854775807)
    (hk : ∀ H', Le H H' → K (.bool (decide (smlP st rc T n))) H') : HT prg I.spec_l03Small [p, (.int .i64 (n)), (.int .i64 (12)), (.int .i64 (8))].toArray H K := by
 have lE := Le.refl H
 have hp := hp0
 have hvt := hvt0
 refine R.spec_l03Small ?_
 unfold F.spec_l03Small
 refine C.spec_l02Is hp hvt (by first | omega | assumption) (fun   H1    le2 => ?_)
 replace hp := hp.le le2
 replace hvt := hvt.le le2
 replace lE := lE.trans le2
 refine ob_nd (fun hc3 => ?_) (fun hc3 => ?_)
 ·skip
  have hru := hc3
  have hr1 := hru.1
  have hr2 := hru.2.1
  refine cnd_f1 ?_
  refine ob_i (hp.nilC) ?_
  refine ob_i (hp.fa 0) ?_
  refine ob_i (hp.ld 0 rfl) ?_
  refine ob_i (vInt_eql _ _ _) ?_
  refine cnd_d (fun hg4 => ?_) (fun hg4 => ?_)
  ·skip
   refine C.spec_l03Wide hp hvt (by first | omega | assumption) (by first | omega | assumption) ?_
   refine C.spec_l00In  ?_
   skip
   exact keq (K := K) (by rw [show decide ((2 * rc + 1) ≤ n ∧ n ≤ 8) = decide (smlP st rc T n) from decide_eq_decide.mpr (by first | exact ⟨fun h => ⟨hru, h.1, by rw [if_neg (by omega)]; exact h.2⟩, fun h => ⟨h.2.1, by have h9 := h.2.2; rw [if_neg (by omega)] at h9; exact h9⟩⟩ | exact ⟨fun h => ⟨hru, h.1, by rw [if_pos (by omega)]; exact h.2⟩, fun h => ⟨h.2.1, by have h9 := h.2.2; rw [if_pos (by omega)] at h9; exact h9⟩⟩)]) (hk   _    lE)
  ·skip
   refine C.spec_l03Wide hp hvt (by first | omega | assumption) (by first | omega | assumption) ?_
   refine C.spec_l00In  ?_
   skip
   exact keq (K := K) (by rw [show decide ((2 * rc + 1) ≤ n ∧ n ≤ 12) = decide (smlP st rc T n) from decide_eq_decide.mpr (by first | exact ⟨fun h => ⟨hru, h.1, by rw [if_neg (by omega)]; exact h.2⟩, fun h => ⟨h.2.1, by have h9 := h.2.2; rw [if_neg (by omega)] at h9; exact h9⟩⟩ | exact ⟨fun h => ⟨hru, h.1, by rw [if_pos (by omega)]; exact h.2⟩, fun h => ⟨h.2.1, by have h9 := h.2.2; rw [if_pos (by omega)] at h9; exact h9⟩⟩)]) (hk   _    lE)
 ·skip
  refine cnd_t1 ?_
  skip
  exact keq (K := K) (by rw [decide_eq_false (show ¬ (smlP st rc T n) from by exact fun h => absurd h.1 (by assumption))]) (hk   _    lE)
theorem C.impl_Rule_steps {vt : Value} {st rc n : Int} {T : List Int}  {H : Hp} {K : Value → Hp → Prop} (hvt0 : Sl eI H vt T) (hS : smlP st rc T n)
    (hk : ∀ u1 H', Own eI H' u1 (nsL st rc T n) → Nw H u1 → Le H H' → K u1 H') : HT prg I.impl_Rule_steps [(.agg #[(.int .i64 (st)), (.int .i64 (rc)), vt]), (.int .i64 (n))].toArray H K := by
 have lE := Le.refl H
 have hvt := hvt0
 refine R.impl_Rule_steps ?_
 unfold F.impl_Rule_steps
 have hr := hS.1
 have hr1 := hr.1
 have hr2 := hr.2.1
 have hr4 := hr.2.2.2
 have hpw := sml_pw hS
 refine nw_i (fun p1 H2 op1 nn3 le4 => ?_)
 replace hvt := hvt.le le4
 replace lE := lE.trans le4
 replace op1 : Cel H2 p1 [(.int .i64 (st)), (.int .i64 (rc)), vt] := op1
 refine bS_nil (enc := eI) (fun u5 H6 ou5 nn7 kk8 le9 => ?_)
 have ap1Xu5 : Apart p1 u5 := op1.apart nn7
 have nu5 : Nw H u5 := nn7.le lE
 replace op1 := op1.le le9
 replace hvt := hvt.le le9
 replace lE := lE.trans le9
 refine jn_i (fun σ' H' => ∃ u, σ' 5 = u ∧ Cel H' p1 [(.int .i64 (st)), (.int .i64 (rc)), vt] ∧ Own eI H' u (nsL st rc T n) ∧ Nw H u ∧ Apart p1 u ∧ Le H H') (fun σ10 H10 hP => ?_) (fun J10 hJ10 => ?_)
 ·skip
  obtain ⟨u, g5L10, op1, ou, nu, ap1Xu, lE⟩ := hP
  try simp only [g5L10]
  skip
  exact hk  u _ ou nu  lE
 refine ob_i (op1.fa 0) ?_
 refine ob_i (op1.ld 0 rfl) ?_
 refine C.impl_raised (by first | omega | assumption) (by first | omega | assumption) (by first | omega | assumption) (by first | omega | assumption) (fun   H11    le12 => ?_)
 replace op1 := op1.le le12
 replace ou5 := ou5.le le12
 replace hvt := hvt.le le12
 replace lE := lE.trans le12
 refine ⟨fun n' σ' H' => ∃ i : Nat, n' = (pwr st n).toNat - i ∧ i ≤ (pwr st n).toNat ∧ ∃ u, σ' 1 = (.int .i64 (n)) ∧ σ' 2 = p1 ∧ σ' 5 = u ∧ σ' 11 = (.int .i64 (pwr st n)) ∧ σ' 12 = (.int .i64 ((i : Int))) ∧ Cel H' p1 [(.int .i64 (st)), (.int .i64 (rc)), vt] ∧ Own eI H' u (nsG st rc T n i) ∧ Nw H u ∧ Apart p1 u ∧ Le H H',
  ⟨_, 0, rfl, by omega, u5, rfl, rfl, rfl, rfl, (congrArg (Value.int .i64) (by first | omega | rfl | (simp; done))), op1, (Own.cast (by first | rfl | (simp; done)) ou5), nu5, ap1Xu5, lE⟩, ?_⟩
 rintro n13 σ13 H13 ⟨i, rfl, hiN, u, g1L13, g2L13, g5L13, g11L13, g12L13, op1, ou, nu, ap1Xu, lE⟩
 have hvt := hvt0.le lE
 try simp only [g1L13, g2L13, g5L13, g11L13, g12L13]
 have dl := digL_len (i : Int) st n.toNat
 have di := digL_in (n := (i : Int)) (b := st) (k := n.toNat) (by omega)
 have sl := stpL_len st rc T (digL (i : Int) st n.toNat)
 have si := stp_in hS i
 have gl := nsG_len (st := st) (rc := rc) (T := T) (n := n) (m := i)
 have nb := nsF_bnd hS i
 refine ob_i (vInt_lss _ _ _) ?_
 refine cnd_d (fun hg14 => ?_) (fun hg14 => ?_)
 ·skip
  have ti := hg14
  refine ob_i (op1.ldn rfl) ?_
  refine ob_i (op1.fa 0) ?_
  refine ob_i (op1.ld 0 rfl) ?_
  refine ob_i (op1.fa 0) ?_
  refine ob_i (op1.ld 0 rfl) ?_
  refine C.impl_digitsOf (by first | omega | assumption) (by first | omega | assumption) (by first | omega | assumption) (by first | omega | assumption) (by first | omega | assumption) (by first | omega | assumption) (fun  u17 H15 ou17 nn18  le16 => ?_)
  replace op1 := op1.le le16
  replace ou := ou.le le16
  replace hvt := hvt.le le16
  replace lE := lE.trans le16
  refine ⟨le16, ?_⟩
  refine C.impl_Rule_step hvt ou17.sl (by first | omega | assumption) (by first | omega | assumption) (by first | omega | assumption) (by exact di) (fun  u21 H19 ou21 nn22  le20 => ?_)
  replace op1 := op1.le le20
  replace ou := ou.le le20
  replace hvt := hvt.le le20
  replace lE := lE.trans le20
  refine ⟨le20, ?_⟩
  refine C.impl_numberOf ou21.sl (by first | omega | assumption) (by first | omega | assumption) (by exact si) (by first | omega | assumption) (fun   H23    le24 => ?_)
  replace op1 := op1.le le24
  replace ou := ou.le le24
  replace hvt := hvt.le le24
  replace lE := lE.trans le24
  refine ⟨le24, ?_⟩
  refine bS_i (enc := eI) (l := [numL st (stpL st rc T (digL (i : Int) st n.toNat))]) (by omega) rfl (by kernel_rfl) (fun u25 H26 ou25 nn27 le29 => ?_)
  replace op1 := op1.le le29
  replace ou := ou.le le29
  replace hvt := hvt.le le29
  replace lE := lE.trans le29
  refine apd_any ou ou25.sl (fun _ => rfl) (by omega) (by first | omega | (simp only [List.length_cons, List.length_nil, List.length_append, List.length_replicate, List.length_map, List.length_range]; omega)) (fun u33 H30 ou33 off31 hb32 => ?_)
  have ap1Xu33 : Apart p1 u33 := Apart.ap2 op1.known ap1Xu hb32
  have nu33 : Nw H u33 := Nw.ap2 nu lE hb32
  replace op1 := op1.off off31 ap1Xu
  replace hvt := hvt0.le (off31.le lE nu)
  replace lE := off31.le lE nu
  refine ob_i (vInt_add (by omega) (by omega)) ?_
  exact nxt ((pwr st n).toNat - (i + 1)) (by omega) ⟨i + 1, rfl, by omega, u33, g1L13, g2L13, rfl, g11L13, (congrArg (Value.int .i64) (by first | omega | rfl | (simp; done))), op1, (Own.cast nsG_succ ou33), nu33, ap1Xu33, lE⟩
 ·skip
  have ti := hg14
  obtain rfl : i = (pwr st n).toNat := by omega
  exact hJ10 _ _ ⟨u, g5L13, op1, ou, nu, ap1Xu, lE⟩
theorem C.spec_l03Steps {p vt : Value} {n st rc : Int} {T : List Int}  {H : Hp} {K : Value → Hp → Prop} (hp0 : Cel H p [(.int .i64 (st)), (.int .i64 (rc)), vt]) (hvt0 : Sl eI H vt T) (hS : smlP st rc T n)
    (hk : ∀ u1 H', Own eI H' u1 (nsL st rc T n) → Nw H u1 → Le H H' → K u1 H') : HT prg I.spec_l03Steps [p, (.int .i64 (n))].toArray H K := by
 have lE := Le.refl H
 have hp := hp0
 have hvt := hvt0
 refine R.spec_l03Steps ?_
 unfold F.spec_l03Steps
 have hr := hS.1
 have hr1 := hr.1
 have hr2 := hr.2.1
 have hr4 := hr.2.2.2
 have hpw := sml_pw hS
 refine bS_nil (enc := eI) (fun u1 H2 ou1 nn3 kk4 le5 => ?_)
 have nu1 : Nw H u1 := nn3.le lE
 replace hp := hp.le le5
 replace hvt := hvt.le le5
 replace lE := lE.trans le5
 refine jn_i (fun σ' H' => ∃ u, σ' 5 = u ∧ Own eI H' u (nsL st rc T n) ∧ Nw H u ∧ Le H H') (fun σ6 H6 hP => ?_) (fun J6 hJ6 => ?_)
 ·skip
  obtain ⟨u, g5L6, ou, nu, lE⟩ := hP
  try simp only [g5L6]
  skip
  exact hk  u _ ou nu  lE
 refine ⟨fun n' σ' H' => ∃ i : Nat, n' = (pwr st n).toNat - i ∧ i ≤ (pwr st n).toNat ∧ ∃ u, σ' 0 = p ∧ σ' 1 = (.int .i64 (n)) ∧ σ' 5 = u ∧ σ' 6 = (.int .i64 ((i : Int))) ∧ Own eI H' u (nsG st rc T n i) ∧ Nw H u ∧ Le H H',
  ⟨_, 0, rfl, by omega, u1, rfl, rfl, rfl, (congrArg (Value.int .i64) (by first | omega | rfl | (simp; done))), (Own.cast (by first | rfl | (simp; done)) ou1), nu1, lE⟩, ?_⟩
 rintro n7 σ7 H7 ⟨i, rfl, hiN, u, g0L7, g1L7, g5L7, g6L7, ou, nu, lE⟩
 have hp := hp0.le lE
 have hvt := hvt0.le lE
 try simp only [g0L7, g1L7, g5L7, g6L7]
 have dl := digL_len (i : Int) st n.toNat
 have di := digL_in (n := (i : Int)) (b := st) (k := n.toNat) (by omega)
 have sl := stpL_len st rc T (digL (i : Int) st n.toNat)
 have si := stp_in hS i
 have gl := nsG_len (st := st) (rc := rc) (T := T) (n := n) (m := i)
 have nb := nsF_bnd hS i
 refine ob_i (hp.nilC) ?_
 refine ob_i (hp.fa 0) ?_
 refine ob_i (hp.ld 0 rfl) ?_
 refine C.spec_l03Power (by first | omega | assumption) (by first | omega | assumption) (by first | omega | assumption) (by first | omega | assumption) (fun   H8    le9 => ?_)
 replace ou := ou.le le9
 replace hp := hp.le le9
 replace hvt := hvt.le le9
 replace lE := lE.trans le9
 refine ob_i (vInt_lss _ _ _) ?_
 refine cnd_d (fun hg10 => ?_) (fun hg10 => ?_)
 ·skip
  have ti := hg10
  refine ob_i (hp.nilC) ?_
  refine ob_i (hp.fa 0) ?_
  refine ob_i (hp.ld 0 rfl) ?_
  refine ob_i (hp.nilC) ?_
  refine ob_i (hp.fa 0) ?_
  refine ob_i (hp.ld 0 rfl) ?_
  refine C.spec_l03Cells (by first | omega | assumption) (by first | omega | assumption) (by first | omega | assumption) (by first | omega | assumption) (by first | omega | assumption) (by first | omega | assumption) (fun  u13 H11 ou13 nn14  le12 => ?_)
  replace ou := ou.le le12
  replace hp := hp.le le12
  replace hvt := hvt.le le12
  replace lE := lE.trans le12
  refine ⟨le12, ?_⟩
  refine C.spec_l02Step hp hvt ou13.sl (by first | omega | assumption) (by first | omega | assumption) (by first | omega | assumption) (by exact di) (fun  u17 H15 ou17 nn18  le16 => ?_)
  replace ou := ou.le le16
  replace hp := hp.le le16
  replace hvt := hvt.le le16
  replace lE := lE.trans le16
  refine ⟨le16, ?_⟩
  refine C.spec_l03Number ou17.sl (by first | omega | assumption) (by first | omega | assumption) (by exact si) (by first | omega | assumption) (fun   H19    le20 => ?_)
  replace ou := ou.le le20
  replace hp := hp.le le20
  replace hvt := hvt.le le20
  replace lE := lE.trans le20
  refine ⟨le20, ?_⟩
  refine bS_i (enc := eI) (l := [numL st (stpL st rc T (digL (i : Int) st n.toNat))]) (by omega) rfl (by kernel_rfl) (fun u21 H22 ou21 nn23 le25 => ?_)
  replace ou := ou.le le25
  replace hp := hp.le le25
  replace hvt := hvt.le le25
  replace lE := lE.trans le25
  refine apd_any ou ou21.sl (fun _ => rfl) (by omega) (by first | omega | (simp only [List.length_cons, List.length_nil, List.length_append, List.length_replicate, List.length_map, List.length_range]; omega)) (fun u29 H26 ou29 off27 hb28 => ?_)
  have nu29 : Nw H u29 := Nw.ap2 nu lE hb28
  replace hp := hp0.le (off27.le lE nu)
  replace hvt := hvt0.le (off27.le lE nu)
  replace lE := off27.le lE nu
  refine ob_i (vInt_add (by omega) (by omega)) ?_
  exact nxt ((pwr st n).toNat - (i + 1)) (by omega) ⟨i + 1, rfl, by omega, u29, g0L7, g1L7, rfl, (congrArg (Value.int .i64) (by first | omega | rfl | (simp; done))), (Own.cast nsG_succ ou29), nu29, lE⟩
 ·skip
  have ti := hg10
  obtain rfl : i = (pwr st n).toNat := by omega
  exact hJ6 _ _ ⟨u, g5L7, ou, nu, lE⟩
theorem C.impl_Rule_inCycles {vt va : Value} {st rc : Int} {T : List Int} {nx : List Int}  {H : Hp} {K : Value → Hp → Prop} (hvt0 : Sl eI H vt T) (hva0 : Sl eI H va nx) (hx : nxP nx) (ln : nx.length ≤ 100000)
    (hk : ∀ u1 H', Own eI H' u1 (cyL nx) → Nw H u1 → Le H H' → K u1 H') : HT prg I.impl_Rule_inCycles [(.agg #[(.int .i64 (st)), (.int .i64 (rc)), vt]), va].toArray H K := by
 have lE := Le.refl H
 have hvt := hvt0
 have hva := hva0
 refine R.impl_Rule_inCycles ?_
 unfold F.impl_Rule_inCycles
 refine nw_i (fun p1 H2 op1 nn3 le4 => ?_)
 replace hvt := hvt.le le4
 replace hva := hva.le le4
 replace lE := lE.trans le4
 replace op1 : Cel H2 p1 [(.int .i64 (st)), (.int .i64 (rc)), vt] := op1
 refine ob_i (hva.len) ?_
 refine Own.mk_ (z := (0 : Int)) (by omega) (by omega) (by omega) (by omega) (fun lo H5 olo nn6 le7 => ?_)
 have ap1Xlo : Apart p1 lo := op1.apart nn6
 have nlo : Nw H lo := nn6.le lE
 replace op1 := op1.le le7
 replace hvt := hvt.le le7
 replace hva := hva.le le7
 replace lE := lE.trans le7
 refine ob_i (hva.len) ?_
 refine ob_i (hva.len) ?_
 refine Own.mk_ (z := (0 : Int)) (by omega) (by omega) (by omega) (by omega) (fun fi H8 ofi nn9 le10 => ?_)
 have ap1Xfi : Apart p1 fi := op1.apart nn9
 have aloXfi : Apart lo fi := olo.apart nn9
 have nfi : Nw H fi := nn9.le lE
 replace op1 := op1.le le10
 replace olo := olo.le le10
 replace hvt := hvt.le le10
 replace hva := hva.le le10
 replace lE := lE.trans le10
 refine Own.mk_ (z := (0 : Int)) (by omega) (by omega) (by omega) (by omega) (fun pl H11 opl nn12 le13 => ?_)
 have ap1Xpl : Apart p1 pl := op1.apart nn12
 have aloXpl : Apart lo pl := olo.apart nn12
 have afiXpl : Apart fi pl := ofi.apart nn12
 have npl : Nw H pl := nn12.le lE
 replace op1 := op1.le le13
 replace olo := olo.le le13
 replace ofi := ofi.le le13
 replace hvt := hvt.le le13
 replace hva := hva.le le13
 replace lE := lE.trans le13
 refine jn_i (fun σ' H' => σ' 5 = lo ∧ Cel H' p1 [(.int .i64 (st)), (.int .i64 (rc)), vt] ∧ Own eI H' lo (cyL nx) ∧ Le H H') (fun σ14 H14 hP => ?_) (fun J14 hJ14 => ?_)
 ·skip
  obtain ⟨g5L14, op1, olo, lE⟩ := hP
  try simp only [g5L14]
  skip
  exact hk  lo _ olo nlo  lE
 refine ob_i (hva.len) ?_
 refine ⟨fun n' σ' H' => ∃ s : Nat, n' = nx.length - s ∧ s ≤ nx.length ∧ ∃ F0, ∃ L0, ∃ P0, σ' 1 = va ∧ σ' 5 = lo ∧ σ' 6 = fi ∧ σ' 7 = pl ∧ σ' 22 = (.int .i64 (((nx).length : Int))) ∧ σ' 23 = (.int .i64 ((s : Int))) ∧ Cel H' p1 [(.int .i64 (st)), (.int .i64 (rc)), vt] ∧ Own eI H' lo (L0) ∧ Own eI H' fi (F0) ∧ Own eI H' pl (P0) ∧ Le H H' ∧ CyI nx s F0 L0 ∧ P0.length = nx.length,
  ⟨_, 0, rfl, by omega, _, _, _, rfl, rfl, rfl, rfl, rfl, (congrArg (Value.int .i64) (by first | omega | rfl | (simp; done))), op1, by simpa using olo, by simpa using ofi, by simpa using opl, lE, (CyI.start nx (by omega)), (by simp)⟩, ?_⟩
 rintro n15 σ15 H15 ⟨s, rfl, hsN, F0, L0, P0, g1L15, g5L15, g6L15, g7L15, g22L15, g23L15, op1, olo, ofi, opl, lE, hI, hp0⟩
 have hvt := hvt0.le lE
 have hva := hva0.le lE
 try simp only [g1L15, g5L15, g6L15, g7L15, g22L15, g23L15]
 have hlf := hI.lf
 have hll := hI.ll
 refine ob_i (vInt_lss _ _ _) ?_
 refine cnd_d (fun hg16 => ?_) (fun hg16 => ?_)
 ·skip
  have ts := hg16
  have hs : s < nx.length := by omega
  refine jn_i (fun σ' H' => ∃ F1, ∃ L1, ∃ P1, σ' 1 = va ∧ σ' 5 = lo ∧ σ' 6 = fi ∧ σ' 7 = pl ∧ σ' 22 = (.int .i64 (((nx).length : Int))) ∧ σ' 23 = (.int .i64 ((s : Int))) ∧ Cel H' p1 [(.int .i64 (st)), (.int .i64 (rc)), vt] ∧ Own eI H' lo (L1) ∧ Own eI H' fi (F1) ∧ Own eI H' pl (P1) ∧ Le H H' ∧ CyI nx (s + 1) F1 L1 ∧ P1.length = nx.length) (fun σ17 H17 hP => ?_) (fun J17 hJ17 => ?_)
  ·skip
   obtain ⟨F1, L1, P1, g1L17, g5L17, g6L17, g7L17, g22L17, g23L17, op1, olo, ofi, opl, lE, hI1, hp1⟩ := hP
   try simp only [g23L17]
   refine ob_i (vInt_add (by omega) (by omega)) ?_
   exact nxt (nx.length - (s + 1)) (by omega) ⟨s + 1, rfl, by omega, F1, L1, P1, g1L17, g5L17, g6L17, g7L17, g22L17, (congrArg (Value.int .i64) (by first | omega | rfl | (simp; done))), op1, olo, ofi, opl, lE, hI1, hp1⟩
  refine jn_i (fun σ' H' => ∃ F2, ∃ P2, ∃ n, σ' 1 = va ∧ σ' 5 = lo ∧ σ' 6 = fi ∧ σ' 7 = pl ∧ σ' 8 = (.int .i64 ((s : Int))) ∧ σ' 9 = (.int .i64 (((itF (nxF nx) n s : Nat) : Int))) ∧ σ' 10 = (.int .i64 ((n : Int))) ∧ σ' 22 = (.int .i64 (((nx).length : Int))) ∧ σ' 23 = (.int .i64 ((s : Int))) ∧ Cel H' p1 [(.int .i64 (st)), (.int .i64 (rc)), vt] ∧ Own eI H' lo (L0) ∧ Own eI H' fi (F2) ∧ Own eI H' pl (P2) ∧ Le H H' ∧ CyW nx s n F0 F2 ∧ plP nx s n P2 ∧ at_ 0 F2 ((itF (nxF nx) n s : Nat) : Int) ≠ 0 ∧ n ≤ nx.length) (fun σ18 H18 hP => ?_) (fun J18 hJ18 => ?_)
  ·skip
   obtain ⟨F2, P2, n, g1L18, g5L18, g6L18, g7L18, g8L18, g9L18, g10L18, g22L18, g23L18, op1, olo, ofi, opl, lE, hW, hP, hz, hnN⟩ := hP
   have hvt := hvt0.le lE
   have hva := hva0.le lE
   try simp only [g1L18, g5L18, g6L18, g7L18, g8L18, g9L18, g10L18]
   have wl := itF_lt (nxF_lt hx) hs n
   have wf := hW.lf
   have hpl := hP.1
   have hpn := place_bnd hx hs hI hW hP
   refine ob_i (ofi.sl.ix (by omega) (by omega)) ?_
   refine ob_i (ofi.sl.ld 0 (by omega) (by omega)) ?_
   refine ob_i (vInt_add (by omega) (by omega)) ?_
   refine ob_i (vInt_neq _ _ _) ?_
   refine cnd_d (fun hg19 => ?_) (fun hg19 => ?_)
   ·skip
    exact hJ17 _ _ ⟨_, _, _, g1L18, g5L18, g6L18, g7L18, g22L18, g23L18, op1, olo, ofi, opl, lE, (hI.skip hx hs hW hz hg19), hP.1⟩
   ·skip
    refine ob_i (opl.sl.ix (by omega) (by omega)) ?_
    refine ob_i (opl.sl.ld 0 (by omega) (by omega)) ?_
    refine ob_i (vInt_sub (by omega) (by omega)) ?_
    obtain ⟨kk, hkk⟩ : ∃ x : Int, x = (n : Int) - (at_ 0 (P2) (((itF (nxF nx) n s : Nat) : Int))) := ⟨_, rfl⟩
    rw [← hkk]
    obtain ⟨p, hp, he⟩ := hW.back hx hs hI (Decidable.not_not.mp hg19)
    have hpa := place_at hP hp he
    have hk2 : kk = ((n - p : Nat) : Int) := by omega
    refine ⟨fun n' σ' H' => ∃ j : Nat, n' = (n - p) - j ∧ j ≤ (n - p) ∧ ∃ L2, σ' 1 = va ∧ σ' 5 = lo ∧ σ' 6 = fi ∧ σ' 7 = pl ∧ σ' 9 = (.int .i64 (((itF (nxF nx) (p + j) s : Nat) : Int))) ∧ σ' 11 = (.int .i64 (kk)) ∧ σ' 22 = (.int .i64 (((nx).length : Int))) ∧ σ' 23 = (.int .i64 ((s : Int))) ∧ Cel H' p1 [(.int .i64 (st)), (.int .i64 (rc)), vt] ∧ Own eI H' lo (L2) ∧ Own eI H' fi (F2) ∧ Own eI H' pl (P2) ∧ Le H H' ∧ CyS nx s n p j L0 L2 ∧ j < n - p,
     ⟨_, 0, rfl, by omega, _, g1L18, g5L18, g6L18, g7L18, (g9L18.trans (congrArg (Value.int .i64) (by rw [he]; rfl))), rfl, g22L18, g23L18, op1, by simpa using olo, ofi, opl, lE, (CyS.start hll), (by omega)⟩, ?_⟩
    rintro n20 σ20 H20 ⟨j, rfl, hjN, L2, g1L20, g5L20, g6L20, g7L20, g9L20, g11L20, g22L20, g23L20, op1, olo, ofi, opl, lE, hC, hjn⟩
    have hvt := hvt0.le lE
    have hva := hva0.le lE
    try simp only [g1L20, g5L20, g9L20, g11L20]
    have wl2 := itF_lt (nxF_lt hx) hs (p + j)
    have wl3 := itF_lt (nxF_lt hx) hs (p + j + 1)
    have wn := nxW_at hx hs (p + j)
    have hl2 := hC.ll
    have hl3 : (L2.set (((itF (nxF nx) (p + j) s : Nat) : Int)).toNat kk).length = L2.length := List.length_set
    refine ob_i (olo.sl.ix (by omega) (by omega)) ?_
    refine olo.st (x := kk) (by omega) (by omega) rfl rfl (fun H21 olo off22 => ?_)
    replace op1 := op1.off off22 ap1Xlo
    replace ofi := ofi.off off22 aloXfi.symm
    replace opl := opl.off off22 aloXpl.symm
    replace hvt := hvt0.le (off22.le lE nlo)
    replace hva := hva0.le (off22.le lE nlo)
    replace lE := off22.le lE nlo
    refine ob_i (hva.ix (by omega) (by omega)) ?_
    refine ob_i (hva.ld 0 (by omega) (by omega)) ?_
    refine ob_i (olo.sl.ix (by omega) (by omega)) ?_
    refine ob_i (olo.sl.ld 0 (by omega) (by omega)) ?_
    refine ob_i (vInt_neq _ _ _) ?_
    refine cnd_d (fun hg23 => ?_) (fun hg23 => ?_)
    ·skip
     have tj := hg23
     have hS' := CyS.next hx hs hW hC (by omega) (i := (((itF (nxF nx) (p + j) s : Nat) : Int)).toNat) (Int.toNat_natCast _)
     have hS'' : CyS nx s n p (j + 1) L0 ((L2).set (((itF (nxF nx) (p + j) s : Nat) : Int)).toNat (kk)) := by rw [hk2]; exact hS'
     have hj1 := (cyS_ends hx hs hI hW he (by omega) hS'').mp hg23
     exact hJ17 _ _ ⟨_, _, _, g1L20, g5L20, g6L20, g7L20, g22L20, g23L20, op1, olo, ofi, opl, lE, (hI.told hx hs hW hp he hS'' (by omega)), hP.1⟩
    ·skip
     have tj := hg23
     have hS' := CyS.next hx hs hW hC (by omega) (i := (((itF (nxF nx) (p + j) s : Nat) : Int)).toNat) (Int.toNat_natCast _)
     have hS'' : CyS nx s n p (j + 1) L0 ((L2).set (((itF (nxF nx) (p + j) s : Nat) : Int)).toNat (kk)) := by rw [hk2]; exact hS'
     have hj0 : ¬ (j + 1 = n - p) := fun e => hg23 ((cyS_ends hx hs hI hW he (by omega) hS'').mpr e)
     have hj1 : j + 1 < n - p := by omega
     exact nxt ((n - p) - (j + 1)) (by omega) ⟨j + 1, rfl, by omega, ((L2).set (((itF (nxF nx) (p + j) s : Nat) : Int)).toNat (kk)), g1L20, g5L20, g6L20, g7L20, (congrArg (Value.int .i64) (nxW_at hx hs (p + j))), g11L20, g22L20, g23L20, op1, olo, ofi, opl, lE, hS'', hj1⟩
  refine ⟨fun n' σ' H' => ∃ n : Nat, n' = nx.length - n ∧ n ≤ nx.length ∧ ∃ F2, ∃ P2, σ' 1 = va ∧ σ' 5 = lo ∧ σ' 6 = fi ∧ σ' 7 = pl ∧ σ' 8 = (.int .i64 ((s : Int))) ∧ σ' 9 = (.int .i64 (((itF (nxF nx) n s : Nat) : Int))) ∧ σ' 10 = (.int .i64 ((n : Int))) ∧ σ' 22 = (.int .i64 (((nx).length : Int))) ∧ σ' 23 = (.int .i64 ((s : Int))) ∧ Cel H' p1 [(.int .i64 (st)), (.int .i64 (rc)), vt] ∧ Own eI H' lo (L0) ∧ Own eI H' fi (F2) ∧ Own eI H' pl (P2) ∧ Le H H' ∧ CyW nx s n F0 F2 ∧ plP nx s n P2,
   ⟨_, 0, rfl, by omega, _, _, g1L15, g5L15, g6L15, g7L15, rfl, rfl, (congrArg (Value.int .i64) (by first | omega | rfl | (simp; done))), g22L15, g23L15, op1, olo, by simpa using ofi, by simpa using opl, lE, (CyW.start hlf), (plP.start hp0)⟩, ?_⟩
  rintro n24 σ24 H24 ⟨n, rfl, hnN, F2, P2, g1L24, g5L24, g6L24, g7L24, g8L24, g9L24, g10L24, g22L24, g23L24, op1, olo, ofi, opl, lE, hW, hP⟩
  have hvt := hvt0.le lE
  have hva := hva0.le lE
  try simp only [g1L24, g6L24, g7L24, g8L24, g9L24, g10L24]
  have wl := itF_lt (nxF_lt hx) hs n
  have wf := hW.lf
  have hpl := hP.1
  refine ob_i (ofi.sl.ix (by omega) (by omega)) ?_
  refine ob_i (ofi.sl.ld 0 (by omega) (by omega)) ?_
  refine ob_i (vInt_eql _ _ _) ?_
  refine cnd_d (fun hg25 => ?_) (fun hg25 => ?_)
  ·skip
   have tn := hg25
   refine ob_i (vInt_add (by omega) (by omega)) ?_
   refine ob_i (ofi.sl.ix (by omega) (by omega)) ?_
   refine ofi.st (x := (s : Int) + 1) (by omega) (by omega) rfl rfl (fun H26 ofi off27 => ?_)
   replace op1 := op1.off off27 ap1Xfi
   replace olo := olo.off off27 aloXfi
   replace opl := opl.off off27 afiXpl.symm
   replace hvt := hvt0.le (off27.le lE nfi)
   replace hva := hva0.le (off27.le lE nfi)
   replace lE := off27.le lE nfi
   refine ob_i (opl.sl.ix (by omega) (by omega)) ?_
   refine opl.st (x := (n : Int)) (by omega) (by omega) rfl rfl (fun H28 opl off29 => ?_)
   replace op1 := op1.off off29 ap1Xpl
   replace olo := olo.off off29 aloXpl
   replace ofi := ofi.off off29 afiXpl
   replace hvt := hvt0.le (off29.le lE npl)
   replace hva := hva0.le (off29.le lE npl)
   replace lE := off29.le lE npl
   refine ob_i (hva.ix (by omega) (by omega)) ?_
   refine ob_i (hva.ld 0 (by omega) (by omega)) ?_
   refine ob_i (vInt_add (by omega) (by omega)) ?_
   have hlt := hW.lt' hx hs hg25
   exact nxt (nx.length - (n + 1)) (by omega) ⟨n + 1, rfl, by omega, ((F2).set (((itF (nxF nx) n s : Nat) : Int)).toNat ((s : Int) + 1)), ((P2).set (((itF (nxF nx) n s : Nat) : Int)).toNat ((n : Int))), g1L24, g5L24, g6L24, g7L24, g8L24, (congrArg (Value.int .i64) (nxW_at hx hs n)), (congrArg (Value.int .i64) (by first | omega | rfl | (simp; done))), g22L24, g23L24, op1, olo, ofi, opl, lE, (hW.next hx hs hg25 (Int.toNat_natCast _)), (hP.next hx hs hW hg25 (Int.toNat_natCast _))⟩
  ·skip
   have tn := hg25
   exact hJ18 _ _ ⟨_, _, _, g1L24, g5L24, g6L24, g7L24, g8L24, g9L24, g10L24, g22L24, g23L24, op1, olo, ofi, opl, lE, hW, hP, hg25, (by omega)⟩
 ·skip
  have ts := hg16
  obtain rfl : s = nx.length := by omega
  rw [hI.done] at olo
  exact hJ14 _ _ ⟨g5L15, op1, olo, lE⟩
theorem C.spec_l03Cycles {va : Value} {nx : List Int}  {H : Hp} {K : Value → Hp → Prop} (hva0 : Sl eI H va nx) (hx : nxP nx) (ln : nx.length ≤ 100000)
    (hk : ∀ u1 H', Own eI H' u1 (cyL nx) → Nw H u1 → Le H H' → K u1 H') : HT prg I.spec_l03Cycles [va].toArray H K := by
 have lE := Le.refl H
 have hva := hva0
 refine R.spec_l03Cycles ?_
 unfold F.spec_l03Cycles
 refine ob_i (hva.len) ?_
 refine Own.mk_ (z := (0 : Int)) (by omega) (by omega) (by omega) (by omega) (fun lo H1 olo nn2 le3 => ?_)
 have nlo : Nw H lo := nn2.le lE
 replace hva := hva.le le3
 replace lE := lE.trans le3
 refine ob_i (hva.len) ?_
 refine Own.mk_ (z := (0 : Int)) (by omega) (by omega) (by omega) (by omega) (fun fi H4 ofi nn5 le6 => ?_)
 have aloXfi : Apart lo fi := olo.apart nn5
 have nfi : Nw H fi := nn5.le lE
 replace olo := olo.le le6
 replace hva := hva.le le6
 replace lE := lE.trans le6
 refine jn_i (fun σ' H' => σ' 3 = lo ∧ Own eI H' lo (cyL nx) ∧ Le H H') (fun σ7 H7 hP => ?_) (fun J7 hJ7 => ?_)
 ·skip
  obtain ⟨g3L7, olo, lE⟩ := hP
  try simp only [g3L7]
  skip
  exact hk  lo _ olo nlo  lE
 refine ob_i (hva.len) ?_
 refine ⟨fun n' σ' H' => ∃ s : Nat, n' = nx.length - s ∧ s ≤ nx.length ∧ ∃ F0, ∃ L0, σ' 0 = va ∧ σ' 3 = lo ∧ σ' 4 = fi ∧ σ' 17 = (.int .i64 (((nx).length : Int))) ∧ σ' 18 = (.int .i64 ((s : Int))) ∧ Own eI H' lo (L0) ∧ Own eI H' fi (F0) ∧ Le H H' ∧ CyI nx s F0 L0,
  ⟨_, 0, rfl, by omega, _, _, rfl, rfl, rfl, rfl, (congrArg (Value.int .i64) (by first | omega | rfl | (simp; done))), by simpa using olo, by simpa using ofi, lE, (CyI.start nx (by omega))⟩, ?_⟩
 rintro n8 σ8 H8 ⟨s, rfl, hsN, F0, L0, g0L8, g3L8, g4L8, g17L8, g18L8, olo, ofi, lE, hI⟩
 have hva := hva0.le lE
 try simp only [g0L8, g3L8, g4L8, g17L8, g18L8]
 have hlf := hI.lf
 have hll := hI.ll
 refine ob_i (vInt_lss _ _ _) ?_
 refine cnd_d (fun hg9 => ?_) (fun hg9 => ?_)
 ·skip
  have ts := hg9
  have hs : s < nx.length := by omega
  refine jn_i (fun σ' H' => ∃ F1, ∃ L1, σ' 0 = va ∧ σ' 3 = lo ∧ σ' 4 = fi ∧ σ' 17 = (.int .i64 (((nx).length : Int))) ∧ σ' 18 = (.int .i64 ((s : Int))) ∧ Own eI H' lo (L1) ∧ Own eI H' fi (F1) ∧ Le H H' ∧ CyI nx (s + 1) F1 L1) (fun σ10 H10 hP => ?_) (fun J10 hJ10 => ?_)
  ·skip
   obtain ⟨F1, L1, g0L10, g3L10, g4L10, g17L10, g18L10, olo, ofi, lE, hI1⟩ := hP
   try simp only [g18L10]
   refine ob_i (vInt_add (by omega) (by omega)) ?_
   exact nxt (nx.length - (s + 1)) (by omega) ⟨s + 1, rfl, by omega, F1, L1, g0L10, g3L10, g4L10, g17L10, (congrArg (Value.int .i64) (by first | omega | rfl | (simp; done))), olo, ofi, lE, hI1⟩
  refine jn_i (fun σ' H' => ∃ F2, ∃ n, σ' 0 = va ∧ σ' 3 = lo ∧ σ' 4 = fi ∧ σ' 5 = (.int .i64 ((s : Int))) ∧ σ' 6 = (.int .i64 (((itF (nxF nx) n s : Nat) : Int))) ∧ σ' 17 = (.int .i64 (((nx).length : Int))) ∧ σ' 18 = (.int .i64 ((s : Int))) ∧ Own eI H' lo (L0) ∧ Own eI H' fi (F2) ∧ Le H H' ∧ CyW nx s n F0 F2 ∧ at_ 0 F2 ((itF (nxF nx) n s : Nat) : Int) ≠ 0 ∧ n ≤ nx.length) (fun σ11 H11 hP => ?_) (fun J11 hJ11 => ?_)
  ·skip
   obtain ⟨F2, n, g0L11, g3L11, g4L11, g5L11, g6L11, g17L11, g18L11, olo, ofi, lE, hW, hz, hnN⟩ := hP
   have hva := hva0.le lE
   try simp only [g0L11, g3L11, g4L11, g5L11, g6L11]
   have wl := itF_lt (nxF_lt hx) hs n
   have wf := hW.lf
   refine ob_i (ofi.sl.ix (by omega) (by omega)) ?_
   refine ob_i (ofi.sl.ld 0 (by omega) (by omega)) ?_
   refine ob_i (vInt_add (by omega) (by omega)) ?_
   refine ob_i (vInt_neq _ _ _) ?_
   refine cnd_d (fun hg12 => ?_) (fun hg12 => ?_)
   ·skip
    exact hJ10 _ _ ⟨_, _, g0L11, g3L11, g4L11, g17L11, g18L11, olo, ofi, lE, (hI.skip hx hs hW hz hg12)⟩
   ·skip
    refine jn_i (fun σ' H' => ∃ p, σ' 0 = va ∧ σ' 3 = lo ∧ σ' 4 = fi ∧ σ' 6 = (.int .i64 (((itF (nxF nx) n s : Nat) : Int))) ∧ σ' 7 = (.int .i64 (((n - p : Nat) : Int))) ∧ σ' 17 = (.int .i64 (((nx).length : Int))) ∧ σ' 18 = (.int .i64 ((s : Int))) ∧ Own eI H' lo (L0) ∧ Own eI H' fi (F2) ∧ Le H H' ∧ p < n ∧ itF (nxF nx) n s = itF (nxF nx) p s ∧ n ≤ nx.length) (fun σ13 H13 hP => ?_) (fun J13 hJ13 => ?_)
    ·skip
     obtain ⟨p, g0L13, g3L13, g4L13, g6L13, g7L13, g17L13, g18L13, olo, ofi, lE, hp, he, hpN⟩ := hP
     have hva := hva0.le lE
     try simp only [g0L13, g3L13, g6L13, g7L13]
     refine ⟨fun n' σ' H' => ∃ j : Nat, n' = (n - p) - j ∧ j ≤ (n - p) ∧ ∃ L2, σ' 0 = va ∧ σ' 3 = lo ∧ σ' 4 = fi ∧ σ' 6 = (.int .i64 (((itF (nxF nx) (p + j) s : Nat) : Int))) ∧ σ' 7 = (.int .i64 (((n - p : Nat) : Int))) ∧ σ' 9 = (.int .i64 ((j : Int))) ∧ σ' 17 = (.int .i64 (((nx).length : Int))) ∧ σ' 18 = (.int .i64 ((s : Int))) ∧ Own eI H' lo (L2) ∧ Own eI H' fi (F2) ∧ Le H H' ∧ CyS nx s n p j L0 L2,
      ⟨_, 0, rfl, by omega, _, g0L13, g3L13, g4L13, (g6L13.trans (congrArg (Value.int .i64) (by rw [he]; rfl))), g7L13, (congrArg (Value.int .i64) (by first | omega | rfl | (simp; done))), g17L13, g18L13, by simpa using olo, ofi, lE, (CyS.start hll)⟩, ?_⟩
     rintro n14 σ14 H14 ⟨j, rfl, hjN, L2, g0L14, g3L14, g4L14, g6L14, g7L14, g9L14, g17L14, g18L14, olo, ofi, lE, hC⟩
     have hva := hva0.le lE
     try simp only [g0L14, g3L14, g6L14, g7L14, g9L14]
     have wl2 := itF_lt (nxF_lt hx) hs (p + j)
     have hl2 := hC.ll
     refine ob_i (vInt_lss _ _ _) ?_
     refine cnd_d (fun hg15 => ?_) (fun hg15 => ?_)
     ·skip
      have tj := hg15
      refine ob_i (olo.sl.ix (by omega) (by omega)) ?_
      refine olo.st (x := ((n - p : Nat) : Int)) (by omega) (by omega) rfl rfl (fun H16 olo off17 => ?_)
      replace ofi := ofi.off off17 aloXfi.symm
      replace hva := hva0.le (off17.le lE nlo)
      replace lE := off17.le lE nlo
      refine ob_i (hva.ix (by omega) (by omega)) ?_
      refine ob_i (hva.ld 0 (by omega) (by omega)) ?_
      refine ob_i (vInt_add (by omega) (by omega)) ?_
      have hS' := CyS.next hx hs hW hC (by omega) (i := (((itF (nxF nx) (p + j) s : Nat) : Int)).toNat) (Int.toNat_natCast _)
      exact nxt ((n - p) - (j + 1)) (by omega) ⟨j + 1, rfl, by omega, ((L2).set (((itF (nxF nx) (p + j) s : Nat) : Int)).toNat (((n - p : Nat) : Int))), g0L14, g3L14, g4L14, (congrArg (Value.int .i64) (nxW_at hx hs (p + j))), g7L14, (congrArg (Value.int .i64) (by first | omega | rfl | (simp; done))), g17L14, g18L14, olo, ofi, lE, hS'⟩
     ·skip
      have tj := hg15
      exact hJ10 _ _ ⟨_, _, g0L14, g3L14, g4L14, g17L14, g18L14, olo, ofi, lE, (hI.told hx hs hW hp he hC (by omega))⟩
    refine ob_i (hva.ix (by omega) (by omega)) ?_
    refine ob_i (hva.ld 0 (by omega) (by omega)) ?_
    obtain ⟨p, hp, he⟩ := hW.back hx hs hI (Decidable.not_not.mp hg12)
    have hpN := hW.lt hx hs
    refine ⟨fun n' σ' H' => ∃ m : Nat, n' = (n - p) - m ∧ m ≤ (n - p) ∧ σ' 0 = va ∧ σ' 3 = lo ∧ σ' 4 = fi ∧ σ' 6 = (.int .i64 (((itF (nxF nx) n s : Nat) : Int))) ∧ σ' 7 = (.int .i64 ((m : Int) + 1)) ∧ σ' 8 = (.int .i64 (((itF (nxF nx) (p + 1 + m) s : Nat) : Int))) ∧ σ' 17 = (.int .i64 (((nx).length : Int))) ∧ σ' 18 = (.int .i64 ((s : Int))) ∧ Own eI H' lo (L0) ∧ Own eI H' fi (F2) ∧ Le H H' ∧ m + 1 ≤ n - p,
     ⟨_, 0, rfl, by omega, g0L11, g3L11, g4L11, g6L11, (congrArg (Value.int .i64) (by first | omega | rfl | (simp; done))), (congrArg (Value.int .i64) (round_at hx hs he)), g17L11, g18L11, olo, ofi, lE, (by omega)⟩, ?_⟩
    rintro n18 σ18 H18 ⟨m, rfl, hmN, g0L18, g3L18, g4L18, g6L18, g7L18, g8L18, g17L18, g18L18, olo, ofi, lE, hm1⟩
    have hva := hva0.le lE
    try simp only [g0L18, g6L18, g7L18, g8L18]
    have wl2 := itF_lt (nxF_lt hx) hs (p + 1 + m)
    have hce := cyc_ne hW he hm1
    refine ob_i (vInt_neq _ _ _) ?_
    refine cnd_d (fun hg19 => ?_) (fun hg19 => ?_)
    ·skip
     have tm := hg19
     refine ob_i (vInt_add (by omega) (by omega)) ?_
     refine ob_i (hva.ix (by omega) (by omega)) ?_
     refine ob_i (hva.ld 0 (by omega) (by omega)) ?_
     have hj0 : ¬ (m + 1 = n - p) := fun e => absurd (hce.mpr e) (by omega)
     exact nxt ((n - p) - (m + 1)) (by omega) ⟨m + 1, rfl, by omega, g0L18, g3L18, g4L18, g6L18, (congrArg (Value.int .i64) (by first | omega | rfl | (simp; done))), (congrArg (Value.int .i64) (nxW_at hx hs (p + 1 + m))), g17L18, g18L18, olo, ofi, lE, (by omega)⟩
    ·skip
     have tm := hg19
     have hmn := hce.mp (by omega)
     exact hJ13 _ _ ⟨p, g0L18, g3L18, g4L18, g6L18, (g7L18.trans (congrArg (Value.int .i64) (by first | omega | rfl | (simp; done)))), g17L18, g18L18, olo, ofi, lE, hp, he, hpN⟩
  refine ⟨fun n' σ' H' => ∃ n : Nat, n' = nx.length - n ∧ n ≤ nx.length ∧ ∃ F2, σ' 0 = va ∧ σ' 3 = lo ∧ σ' 4 = fi ∧ σ' 5 = (.int .i64 ((s : Int))) ∧ σ' 6 = (.int .i64 (((itF (nxF nx) n s : Nat) : Int))) ∧ σ' 17 = (.int .i64 (((nx).length : Int))) ∧ σ' 18 = (.int .i64 ((s : Int))) ∧ Own eI H' lo (L0) ∧ Own eI H' fi (F2) ∧ Le H H' ∧ CyW nx s n F0 F2,
   ⟨_, 0, rfl, by omega, _, g0L8, g3L8, g4L8, rfl, rfl, g17L8, g18L8, olo, by simpa using ofi, lE, (CyW.start hlf)⟩, ?_⟩
  rintro n20 σ20 H20 ⟨n, rfl, hnN, F2, g0L20, g3L20, g4L20, g5L20, g6L20, g17L20, g18L20, olo, ofi, lE, hW⟩
  have hva := hva0.le lE
  try simp only [g0L20, g4L20, g5L20, g6L20]
  have wl := itF_lt (nxF_lt hx) hs n
  have wf := hW.lf
  refine ob_i (ofi.sl.ix (by omega) (by omega)) ?_
  refine ob_i (ofi.sl.ld 0 (by omega) (by omega)) ?_
  refine ob_i (vInt_eql _ _ _) ?_
  refine cnd_d (fun hg21 => ?_) (fun hg21 => ?_)
  ·skip
   have tn := hg21
   refine ob_i (vInt_add (by omega) (by omega)) ?_
   refine ob_i (ofi.sl.ix (by omega) (by omega)) ?_
   refine ofi.st (x := (s : Int) + 1) (by omega) (by omega) rfl rfl (fun H22 ofi off23 => ?_)
   replace olo := olo.off off23 aloXfi
   replace hva := hva0.le (off23.le lE nfi)
   replace lE := off23.le lE nfi
   refine ob_i (hva.ix (by omega) (by omega)) ?_
   refine ob_i (hva.ld 0 (by omega) (by omega)) ?_
   have hlt := hW.lt' hx hs hg21
   exact nxt (nx.length - (n + 1)) (by omega) ⟨n + 1, rfl, by omega, ((F2).set (((itF (nxF nx) n s : Nat) : Int)).toNat ((s : Int) + 1)), g0L20, g3L20, g4L20, g5L20, (congrArg (Value.int .i64) (nxW_at hx hs n)), g17L20, g18L20, olo, ofi, lE, (hW.next hx hs hg21 (Int.toNat_natCast _))⟩
  ·skip
   have tn := hg21
   exact hJ11 _ _ ⟨_, _, g0L20, g3L20, g4L20, g5L20, g6L20, g17L20, g18L20, olo, ofi, lE, hW, hg21, (by omega)⟩
 ·skip
  have ts := hg9
  obtain rfl : s = nx.length := by omega
  rw [hI.done] at olo
  exact hJ7 _ _ ⟨g3L8, olo, lE⟩
end Go.Proofs.Ythmdmbbdjbhcoaa
/- The library's sort: from the given contract to what a partial heap knows. -/
namespace Go.Proofs.Ythmdmbbdjbhcoaa
open HL
set_option maxRecDepth 100000
namespace HL
open Go.Sort in
theorem HT_sort {α : Type} [Inhabited α] {P : Program} {f : FuncId} {enc : α → Value} {v : Value} {l m : List α} {H : Hp} {K : Value → Hp → Prop} (ho : Own enc H v l) (hl : 0 < l.length) (hm : m.length = l.length)
    (hc : ∀ (blk off cap : Nat) (w : World), Holds enc w blk off l.toArray → blk < w.heap.size → Calls P f #[.slice (some ⟨blk, off, none⟩) l.length cap] w fun e w' =>
      e = .returned (.tuple #[]) ∧ ∃ n os, w' = grow (putRow enc (Go.Sort.ahead w n) blk off m.toArray) os)
    (hk : ∀ H', Own enc H' v m → Off v H H' → K (.tuple #[]) H') : HT P f #[v] H K := by
  obtain ⟨a, c, rfl, hlc, hr⟩ := ho
  obtain ⟨b, off, cs, e, rfl, hb, hs, hcs⟩ := hr (by omega)
  intro w hw
  have hwb := hw b _ hb
  have hbs : b < w.heap.size := by
    rcases Nat.lt_or_ge b w.heap.size with h | h
    · exact h
    · rw [Array.getElem?_eq_none h] at hwb; exact absurd hwb (by simp)
  have hH : Holds enc w b off l.toArray := fun j hj => by
    have hj' : j < l.length := by simpa using hj
    refine ⟨?_, ?_⟩
    · simp only [World.cell?, hwb]
      rw [getElem!_pos _ j hj]
      simpa using hcs j hj'
    · rw [hw.frozen (a := ⟨b, off + j, none⟩) hb]
      simp only [Hp.frozen?, hb]
      rfl
  refine (hc b off c w hH hbs).mono fun e' w' ⟨he, n, os, hw'⟩ => ?_
  subst hw'
  have hmod : ∀ x, x < w.heap.size → (grow (putRow enc (Go.Sort.ahead w n) b off m.toArray) os).heap[x]? = if b = x then (w.heap[x]?).map (onCells (putCells enc off m.toArray)) else w.heap[x]? := fun x hx => by
    simp only [grow, putRow, mapBlock, Go.Sort.ahead]
    rw [Array.getElem?_append_left (by simpa using hx), Array.getElem?_modify]
  have hsz : (grow (putRow enc (Go.Sort.ahead w n) b off m.toArray) os).heap.size = w.heap.size + os.size := by
    simp only [grow, putRow, mapBlock, Go.Sort.ahead, Array.size_append, Array.size_modify]
  refine ⟨.tuple #[], H.put b (.cells (putCells enc off m.toArray cs) e (0, 0)), he, fun x o hx => ?_, ⟨by omega, fun x hx hn => ?_, rfl, rfl, rfl⟩, hk _ ⟨_, c, by rw [hm], by omega, fun _ => ⟨b, off, _, e, rfl, Hp.put_same _ _ _, by simpa [putCells] using hs, fun i hi => ?_⟩⟩ (fun x o hx hv => ?_)⟩
  · by_cases hxb : x = b
    · subst hxb
      rw [Hp.put_same] at hx
      rw [hmod x hbs, if_pos rfl, hwb]
      simpa [onCells] using hx
    · rw [Hp.put_ne _ _ hxb] at hx
      have hwx := hw x o hx
      have hxs : x < w.heap.size := by
        rcases Nat.lt_or_ge x w.heap.size with h | h
        · exact h
        · rw [Array.getElem?_eq_none h] at hwx; exact absurd hwx (by simp)
      rw [hmod x hxs, if_neg (Ne.symm hxb)]
      exact hwx
  · have hxb : x ≠ b := by rintro rfl; rw [hb] at hn; exact absurd hn (by simp)
    rw [Hp.put_ne _ _ hxb, hmod x hx, if_neg (Ne.symm hxb)]
    exact ⟨hn, rfl⟩
  · have : off + i < cs.size := by omega
    simp only [putCells, Array.getElem?_mapIdx, Array.getElem?_eq_getElem this, Option.map_some]
    rw [if_pos ⟨by omega, by simp; omega⟩, show off + i - off = i by omega, getElem!_pos _ i (by simpa using hi)]
    simp
  · have hxb : x ≠ b := by
      rintro rfl
      refine hv ?_
      simp only [bk]
      rw [if_neg (by omega)]
    rw [Hp.put_ne _ _ hxb]
    exact hx
end HL
end Go.Proofs.Ythmdmbbdjbhcoaa
/- Cycles, told by their lengths. -/
namespace Go.Proofs.Ythmdmbbdjbhcoaa
open HL
set_option maxRecDepth 100000
theorem HL.Apt.ap2 {α : Type} [Bks α] {z : α} {u u' : Value} {H : Hp} (hz : Kn H z) (ha : Apt z u) (hb : ∀ b, bk u' = some b → bk u = some b ∨ H b = none) : Apt z u' := fun b h1 h2 => by
  rcases hb b h2 with h | h
  · exact ha b h1 h
  · obtain ⟨o, ho⟩ := hz b h1
    rw [h] at ho; simp at ho
def srtI (l : List Int) : List Int := l.mergeSort fun x y => decide (x ≤ y)
theorem srtI_len (l : List Int) : (srtI l).length = l.length := (List.mergeSort_perm l _).length_eq
theorem C.slices_Sort_I {v : Value} {l : List Int} {H : Hp} {K : Value → Hp → Prop} (ho : Own eI H v l) (h0 : 0 < l.length) (hl : l.length ≤ 1000000) (hk : ∀ H', Own eI H' v (srtI l) → Off v H H' → K (.tuple #[]) H') : HT prg I.slices_Sort_int64Zint64 [v].toArray H K :=
  HT_sort ho h0 (srtI_len l) (fun blk off cap w hH hb => sortI_calls blk off cap l w hH hb (by omega)) hk
/-- Lengths and counts of a rule's cycles. -/
def csL (st rc : Int) (T : List Int) (n : Int) : List Int := csG (cntK (cyL (nsL st rc T n))) ((nsL st rc T n).length + 1)
theorem csL_len {st rc n : Int} {T : List Int} (h : smlP st rc T n) : (csL st rc T n).length ≤ 20000 := by
  have := csG_len (c := cntK (cyL (nsL st rc T n))) (m := (nsL st rc T n).length + 1)
  have hp := sml_pw h
  rw [nsL_len] at this
  unfold csL
  rw [nsL_len]
  omega
theorem csP_len {st rc n : Int} {T : List Int} : (selL (smlP st rc T n) (csL st rc T n)).length ≤ 20000 := selL_len csL_len
theorem keys_pos {nx : List Int} {ms : List (Int × Int)} {js : List Nat} (hx : nxP nx) (h0 : 0 < nx.length) (hC : CntI (cyL nx) ms) (hall : ∀ j, j < ms.length → j ∈ js) : 0 < js.length := by
  obtain ⟨t, ht, hp⟩ := comes_round (nxF_lt hx) h0
  have hw := itF_lt (nxF_lt hx) h0 t
  have hm := at_mem 0 (cyL nx) (i := ((itF (nxF nx) t 0 : Nat) : Int)) (by omega) (by rw [cyL_len]; omega)
  rw [cyL_at hw] at hm
  obtain ⟨j, hj, _⟩ := hC.al _ (show (0 : Int) < ((perN (nxF nx) nx.length (itF (nxF nx) t 0) : Nat) : Int) by omega) (List.count_pos_iff.mpr hm)
  exact List.length_pos_of_mem (hall j hj)
theorem nd_range {js : List Nat} {n : Nat} (h : js.Nodup) (hb : ∀ j ∈ js, j < n) : js.length ≤ n := by
  have := nd_le (B := List.range n) h (fun x hx => List.mem_range.mpr (hb x hx))
  simpa using this
theorem nd_snocN {js : List Nat} {j : Nat} (h : js.Nodup) (hn : j ∉ js) : (js ++ [j]).Nodup := by
  unfold List.Nodup at *
  rw [List.pairwise_append]
  exact ⟨h, List.pairwise_singleton _ _, fun a ha b hb e => hn (by rw [List.mem_singleton] at hb; rw [← hb, ← e]; exact ha)⟩
theorem all_snocN {js : List Nat} {j n : Nat} (h : ∀ x ∈ js, x < n) (hj : j < n) : ∀ x ∈ js ++ [j], x < n := fun x hx => by
  rcases List.mem_append.mp hx with hx | hx
  · exact h x hx
  · rw [List.mem_singleton] at hx; omega
/-- What is told so far. -/
def outF (ms : List (Int × Int)) (S : List Int) (t : Nat) : List Int := (S.take t).flatMap fun k => [k, entV k ms]
theorem outF_succ {ms : List (Int × Int)} {S : List Int} {t : Nat} (h : t < S.length) : outF ms S t ++ [at_ 0 S (t : Int), entV (at_ 0 S (t : Int)) ms] = outF ms S (t + 1) := by
  unfold outF
  rw [take_at 0 S h, List.flatMap_append]; simp
theorem outF_len (ms : List (Int × Int)) (S : List Int) (t : Nat) : (outF ms S t).length ≤ 2 * t := by
  unfold outF
  have : ∀ l : List Int, (l.flatMap fun k => [k, entV k ms]).length = 2 * l.length := fun l => by
    induction l with
    | nil => rfl
    | cons a l ih => rw [List.flatMap_cons, List.length_append, ih]; simp; omega
  rw [this, List.length_take]; omega
theorem outF_all {ms : List (Int × Int)} {L S : List Int} {N : Nat} (h : CntI L ms) (hS : S = kyL (cntK L) (N + 1)) : outF ms S S.length = csG (cntK L) (N + 1) := by
  unfold outF
  rw [List.take_length]
  exact cyc_out h hS
theorem entV_bnd {L : List Int} {ms : List (Int × Int)} (h : CntI L ms) {k : Int} (k0 : 0 < k) : 0 ≤ entV k ms ∧ entV k ms ≤ L.length := by
  rw [entV_at h k0]
  have := List.count_le_length (a := k) (l := L)
  omega
theorem kyL_len (c : Nat → Int) (m : Nat) : (kyL c m).length ≤ m := by
  unfold kyL
  rw [List.length_map]
  have := List.length_filter_le (fun k => decide (0 < c k)) (List.range m)
  simpa using this
theorem C.spec_CyclesOf {vt : Value} {st rc n : Int} {T : List Int}  {H : Hp} {K : Value → Hp → Prop} (hvt0 : Sl eI H vt T) (k1 : T.length ≤ 9223372036854775807)
    (hk : ∀ u1 H', Own eI H' u1 (selL (smlP st rc T n) (csL st rc T n)) → Nw H u1 → Le H H' → K (.tuple #[u1, (.int .i64 (selI (smlP st rc T n) (posC (cyL (nsL st rc T n))))), (.bool (decide (smlP st rc T n)))]) H') : HT prg I.spec_CyclesOf [(.agg #[(.int .i64 (st)), (.int .i64 (rc)), vt]), (.int .i64 (n))].toArray H K := by
 have lE := Le.refl H
 have hvt := hvt0
 refine R.spec_CyclesOf ?_
 unfold F.spec_CyclesOf
 obtain ⟨nx, hnx⟩ : ∃ x : List Int, x = nsL st rc T n := ⟨_, rfl⟩
 obtain ⟨cy, hcy⟩ : ∃ x : List Int, x = cyL nx := ⟨_, rfl⟩
 have hnl : nx.length = (pwr st n).toNat := by rw [hnx]; exact nsL_len
 have hcl : cy.length = nx.length := by rw [hcy]; exact cyL_len nx
 have hcb : ∀ x ∈ cy, 0 ≤ x ∧ x ≤ (nx.length : Int) := by rw [hcy]; exact cyL_in
 refine nw_i (fun p1 H2 op1 nn3 le4 => ?_)
 replace hvt := hvt.le le4
 replace lE := lE.trans le4
 replace op1 : Cel H2 p1 [(.int .i64 (st)), (.int .i64 (rc)), vt] := op1
 refine C.spec_l03Small op1 hvt (by first | omega | assumption) (fun   H5    le6 => ?_)
 replace op1 := op1.le le6
 replace hvt := hvt.le le6
 replace lE := lE.trans le6
 refine ob_nd (fun hc7 => ?_) (fun hc7 => ?_)
 ·skip
  have hS0 := hc7
  have hpw := sml_pw hS0
  have hx : nxP nx := by rw [hnx]; exact nsL_nx hS0
  refine cnd_f1 ?_
  refine C.spec_l03Steps op1 hvt (by first | omega | assumption) (fun  u10 H8 ou10 nn11  le9 => ?_)
  replace op1 := op1.le le9
  replace hvt := hvt.le le9
  replace lE := lE.trans le9
  rw [← hnx] at ou10
  refine C.spec_l03Cycles ou10.sl (by first | omega | assumption) (by first | omega | assumption) (fun  u14 H12 ou14 nn15  le13 => ?_)
  replace op1 := op1.le le13
  replace ou10 := ou10.le le13
  replace hvt := hvt.le le13
  replace lE := lE.trans le13
  rw [← hcy] at ou14
  refine ob_i (ou14.len) ?_
  refine ob_i (vInt_add (by omega) (by omega)) ?_
  refine Own.mk_ (z := (0 : Int)) (by omega) (by omega) (by omega) (by omega) (fun vk H16 ovk nn17 le18 => ?_)
  have ap1Xvk : Apart p1 vk := op1.apart nn17
  have au10Xvk : Apart u10 vk := ou10.apart nn17
  have au14Xvk : Apart u14 vk := ou14.apart nn17
  have nvk : Nw H vk := nn17.le lE
  replace op1 := op1.le le18
  replace ou10 := ou10.le le18
  replace ou14 := ou14.le le18
  replace hvt := hvt.le le18
  replace lE := lE.trans le18
  refine jn_i (fun σ' H' => σ' 8 = vk ∧ σ' 9 = (.int .i64 (posC cy)) ∧ Cel H' p1 [(.int .i64 (st)), (.int .i64 (rc)), vt] ∧ Own eI H' u10 (nx) ∧ Own eI H' u14 (cy) ∧ Own eI H' vk (cnL cy (cy.length + 1)) ∧ Le H H') (fun σ19 H19 hP => ?_) (fun J19 hJ19 => ?_)
  ·skip
   obtain ⟨g8L19, g9L19, op1, ou10, ou14, ovk, lE⟩ := hP
   have hvt := hvt0.le lE
   try simp only [g8L19, g9L19]
   refine bS_nil (enc := eI) (fun u20 H21 ou20 nn22 kk23 le24 => ?_)
   have ap1Xu20 : Apart p1 u20 := op1.apart nn22
   have au10Xu20 : Apart u10 u20 := ou10.apart nn22
   have au14Xu20 : Apart u14 u20 := ou14.apart nn22
   have avkXu20 : Apart vk u20 := ovk.apart nn22
   have nu20 : Nw H u20 := nn22.le lE
   replace op1 := op1.le le24
   replace ou10 := ou10.le le24
   replace ou14 := ou14.le le24
   replace ovk := ovk.le le24
   replace hvt := hvt.le le24
   replace lE := lE.trans le24
   refine jn_i (fun σ' H' => ∃ vo, σ' 9 = (.int .i64 (posC cy)) ∧ σ' 11 = vo ∧ Cel H' p1 [(.int .i64 (st)), (.int .i64 (rc)), vt] ∧ Own eI H' u10 (nx) ∧ Own eI H' u14 (cy) ∧ Own eI H' vk (cnL cy (cy.length + 1)) ∧ Own eI H' vo (csG (cntK cy) (nx.length + 1)) ∧ Nw H vo ∧ Apart p1 vo ∧ Apart u10 vo ∧ Apart u14 vo ∧ Apart vk vo ∧ Le H H') (fun σ25 H25 hP => ?_) (fun J25 hJ25 => ?_)
   ·skip
    obtain ⟨vo, g9L25, g11L25, op1, ou10, ou14, ovk, ovo, nvo, ap1Xvo, au10Xvo, au14Xvo, avkXvo, lE⟩ := hP
    try simp only [g9L25, g11L25]
    skip
    have hok : smlP st rc T n := by assumption
    exact keq (K := K) (by rw [show ((selI (smlP st rc T n) (posC (cyL (nsL st rc T n)))) : Int) = (posC cy) from by first | (rw [← hnx, ← hcy]; exact selI_t hok) | (rw [hcy, hnx]; exact selI_t hok) | exact selI_t hok | exact selI_f hok]; rw [decide_eq_true (show (smlP st rc T n) from by exact hok)]) (hk  vo _ (Own.cast (show csG (cntK cy) (nx.length + 1) = selL (smlP st rc T n) (csL st rc T n) by first | (rw [selL_t hok]; unfold csL; rw [← hnx, ← hcy]) | exact (selL_f hok).symm) ovo) nvo  lE)
   refine ob_i (ovk.len) ?_
   refine ⟨fun n' σ' H' => ∃ k : Nat, n' = (cy.length + 1) - k ∧ k ≤ (cy.length + 1) ∧ ∃ vo, σ' 8 = vk ∧ σ' 9 = (.int .i64 (posC cy)) ∧ σ' 11 = vo ∧ σ' 47 = (.int .i64 (((cnL cy (cy.length + 1)).length : Int))) ∧ σ' 48 = (.int .i64 ((k : Int))) ∧ Cel H' p1 [(.int .i64 (st)), (.int .i64 (rc)), vt] ∧ Own eI H' u10 (nx) ∧ Own eI H' u14 (cy) ∧ Own eI H' vk (cnL cy (cy.length + 1)) ∧ Own eI H' vo (csG (cntK cy) k) ∧ Nw H vo ∧ Apart p1 vo ∧ Apart u10 vo ∧ Apart u14 vo ∧ Apart vk vo ∧ Le H H',
    ⟨_, 0, rfl, by omega, u20, g8L19, g9L19, rfl, rfl, (congrArg (Value.int .i64) (by first | omega | rfl | (simp; done))), op1, ou10, ou14, ovk, (Own.cast (by rfl) ou20), nu20, ap1Xu20, au10Xu20, au14Xu20, avkXu20, lE⟩, ?_⟩
   rintro n26 σ26 H26 ⟨k, rfl, hkN, vo, g8L26, g9L26, g11L26, g47L26, g48L26, op1, ou10, ou14, ovk, ovo, nvo, ap1Xvo, au10Xvo, au14Xvo, avkXvo, lE⟩
   have hvt := hvt0.le lE
   try simp only [g8L26, g11L26, g47L26, g48L26]
   have hkl := cnL_len cy (cy.length + 1)
   have hgl := csG_len (c := cntK cy) (m := k)
   refine ob_i (vInt_lss _ _ _) ?_
   refine cnd_d (fun hg27 => ?_) (fun hg27 => ?_)
   ·skip
    have tk := hg27
    have hca := cnL_at (L := cy) (N := cy.length + 1) (k := k) (by omega)
    have hcc := cnt_bnd cy k
    refine ob_i (ovk.sl.ix (by omega) (by omega)) ?_
    refine ob_i (ovk.sl.ld 0 (by omega) (by omega)) ?_
    refine ob_i (vInt_gtr _ _ _) ?_
    refine cnd_d (fun hg28 => ?_) (fun hg28 => ?_)
    ·skip
     refine ob_i (ovk.sl.ix (by omega) (by omega)) ?_
     refine ob_i (ovk.sl.ld 0 (by omega) (by omega)) ?_
     refine bS_i (enc := eI) (l := [(k : Int), at_ 0 (cnL cy (cy.length + 1)) ((k : Int))]) (by omega) rfl (by kernel_rfl) (fun u29 H30 ou29 nn31 le33 => ?_)
     replace op1 := op1.le le33
     replace ou10 := ou10.le le33
     replace ou14 := ou14.le le33
     replace ovk := ovk.le le33
     replace ovo := ovo.le le33
     replace hvt := hvt.le le33
     replace lE := lE.trans le33
     refine apd_any ovo ou29.sl (fun _ => rfl) (by omega) (by first | omega | (simp only [List.length_cons, List.length_nil, List.length_append, List.length_replicate, List.length_map, List.length_range]; omega)) (fun u37 H34 ou37 off35 hb36 => ?_)
     have ap1Xu37 : Apart p1 u37 := Apart.ap2 op1.known ap1Xvo hb36
     have au10Xu37 : Apart u10 u37 := Apart.ap2 ou10.known au10Xvo hb36
     have au14Xu37 : Apart u14 u37 := Apart.ap2 ou14.known au14Xvo hb36
     have avkXu37 : Apart vk u37 := Apart.ap2 ovk.known avkXvo hb36
     have nu37 : Nw H u37 := Nw.ap2 nvo lE hb36
     replace op1 := op1.off off35 ap1Xvo
     replace ou10 := ou10.off off35 au10Xvo
     replace ou14 := ou14.off off35 au14Xvo
     replace ovk := ovk.off off35 avkXvo
     replace hvt := hvt0.le (off35.le lE nvo)
     replace lE := off35.le lE nvo
     refine ob_i (vInt_add (by omega) (by omega)) ?_
     exact nxt ((cy.length + 1) - (k + 1)) (by omega) ⟨k + 1, rfl, by omega, u37, g8L26, g9L26, rfl, g47L26, (congrArg (Value.int .i64) (by first | omega | rfl | (simp; done))), op1, ou10, ou14, ovk, (Own.cast (by rw [hca]; exact csG_yes (by omega)) ou37), nu37, ap1Xu37, au10Xu37, au14Xu37, avkXu37, lE⟩
    ·skip
     refine ob_i (vInt_add (by omega) (by omega)) ?_
     exact nxt ((cy.length + 1) - (k + 1)) (by omega) ⟨k + 1, rfl, by omega, vo, g8L26, g9L26, g11L26, g47L26, (congrArg (Value.int .i64) (by first | omega | rfl | (simp; done))), op1, ou10, ou14, ovk, (Own.cast (csG_no (by omega)) ovo), nvo, ap1Xvo, au10Xvo, au14Xvo, avkXvo, lE⟩
   ·skip
    have tk := hg27
    rw [show k = nx.length + 1 by omega] at ovo
    exact hJ25 _ _ ⟨vo, g9L26, g11L26, op1, ou10, ou14, ovk, ovo, nvo, ap1Xvo, au10Xvo, au14Xvo, avkXvo, lE⟩
  refine ob_i (ou14.len) ?_
  refine ⟨fun n' σ' H' => ∃ t : Nat, n' = cy.length - t ∧ t ≤ cy.length ∧ σ' 7 = u14 ∧ σ' 8 = vk ∧ σ' 9 = (.int .i64 (posC (cy.take t))) ∧ σ' 24 = (.int .i64 (((cy).length : Int))) ∧ σ' 25 = (.int .i64 ((t : Int))) ∧ Cel H' p1 [(.int .i64 (st)), (.int .i64 (rc)), vt] ∧ Own eI H' u10 (nx) ∧ Own eI H' u14 (cy) ∧ Own eI H' vk (cnL (cy.take t) (cy.length + 1)) ∧ Le H H',
   ⟨_, 0, rfl, by omega, rfl, rfl, rfl, rfl, (congrArg (Value.int .i64) (by first | omega | rfl | (simp; done))), op1, ou10, ou14, (Own.cast (by rw [List.take_zero, ← cnL_nil]; first | (congr 1; done) | (congr 1; omega)) ovk), lE⟩, ?_⟩
  rintro n38 σ38 H38 ⟨t, rfl, htN, g7L38, g8L38, g9L38, g24L38, g25L38, op1, ou10, ou14, ovk, lE⟩
  have hvt := hvt0.le lE
  try simp only [g7L38, g8L38, g9L38, g24L38, g25L38]
  have hpb := posC_bnd (cy.take t)
  rw [List.length_take] at hpb
  have hkl := cnL_len (cy.take t) (cy.length + 1)
  refine ob_i (vInt_lss _ _ _) ?_
  refine cnd_d (fun hg39 => ?_) (fun hg39 => ?_)
  ·skip
   have tt := hg39
   have hcx := hcb _ (at_mem 0 cy (i := (t : Int)) (by omega) (by omega))
   have hca := cnL_at (L := cy.take t) (N := cy.length + 1) (k := (at_ 0 cy (t : Int)).toNat) (by omega)
   rw [Int.toNat_of_nonneg hcx.1] at hca
   have hcc := cnt_bnd (cy.take t) (at_ 0 cy (t : Int)).toNat
   rw [List.length_take] at hcc
   refine ob_i (ou14.sl.ix (by omega) (by omega)) ?_
   refine ob_i (ou14.sl.ld 0 (by omega) (by omega)) ?_
   refine ob_i (vInt_gtr _ _ _) ?_
   refine cnd_d (fun hg40 => ?_) (fun hg40 => ?_)
   ·skip
    refine ob_i (ou14.sl.ix (by omega) (by omega)) ?_
    refine ob_i (ou14.sl.ld 0 (by omega) (by omega)) ?_
    refine ob_i (ovk.sl.ix (by omega) (by omega)) ?_
    refine ob_i (ovk.sl.ld 0 (by omega) (by omega)) ?_
    refine ob_i (vInt_add (by omega) (by omega)) ?_
    refine ob_i (ovk.sl.ix (by omega) (by omega)) ?_
    refine ovk.st (x := (at_ 0 (cnL (cy.take t) (cy.length + 1)) (at_ 0 (cy) ((t : Int)))) + 1) (by omega) (by omega) rfl rfl (fun H41 ovk off42 => ?_)
    replace op1 := op1.off off42 ap1Xvk
    replace ou10 := ou10.off off42 au10Xvk
    replace ou14 := ou14.off off42 au14Xvk
    replace hvt := hvt0.le (off42.le lE nvk)
    replace lE := off42.le lE nvk
    refine ob_i (vInt_add (by omega) (by omega)) ?_
    refine ob_i (vInt_add (by omega) (by omega)) ?_
    have hpt := posC_take (L := cy) (t := t) (by omega)
    rw [if_pos hg40] at hpt
    exact nxt (cy.length - (t + 1)) (by omega) ⟨t + 1, rfl, by omega, g7L38, g8L38, (congrArg (Value.int .i64) (by first | omega | rfl | (simp; done))), g24L38, (congrArg (Value.int .i64) (by first | omega | rfl | (simp; done))), op1, ou10, ou14, (Own.cast (by rw [hca]; exact cnL_set (by omega) (by omega) (by omega)) ovk), lE⟩
   ·skip
    refine ob_i (vInt_add (by omega) (by omega)) ?_
    have hpt := posC_take (L := cy) (t := t) (by omega)
    rw [if_neg hg40] at hpt
    exact nxt (cy.length - (t + 1)) (by omega) ⟨t + 1, rfl, by omega, g7L38, g8L38, (g9L38.trans (congrArg (Value.int .i64) (by first | omega | rfl | (simp; done)))), g24L38, (congrArg (Value.int .i64) (by first | omega | rfl | (simp; done))), op1, ou10, ou14, (Own.cast (cnL_skip (by omega) hg40) ovk), lE⟩
  ·skip
   have tt := hg39
   rw [List.take_of_length_le (by omega)] at *
   exact hJ19 _ _ ⟨g8L38, (g9L38.trans (congrArg (Value.int .i64) (by first | omega | rfl | (simp; done)))), op1, ou10, ou14, ovk, lE⟩
 ·skip
  refine cnd_t1 ?_
  skip
  have hok : ¬ (smlP st rc T n) := by assumption
  exact keq (K := K) (by rw [show ((selI (smlP st rc T n) (posC (cyL (nsL st rc T n)))) : Int) = (0) from by first | (rw [← hnx, ← hcy]; exact selI_t hok) | (rw [hcy, hnx]; exact selI_t hok) | exact selI_t hok | exact selI_f hok]; rw [decide_eq_false (show ¬ (smlP st rc T n) from by exact hok)]) (hk  (.slice none 0 0) _ (Own.cast (show [] = selL (smlP st rc T n) (csL st rc T n) by exact (selL_f hok).symm) (Own.nil_of none)) (fun b hb => by simp [bk] at hb)  lE)
theorem C.impl_CyclesOf {vt : Value} {st rc n : Int} {T : List Int}  {H : Hp} {K : Value → Hp → Prop} (hvt0 : Sl eI H vt T) (k1 : T.length ≤ 9223372036854775807)
    (hk : ∀ u1 H', Own eI H' u1 (selL (smlP st rc T n) (csL st rc T n)) → Nw H u1 → Le H H' → K (.tuple #[u1, (.int .i64 (selI (smlP st rc T n) (posC (cyL (nsL st rc T n))))), (.bool (decide (smlP st rc T n)))]) H') : HT prg I.impl_CyclesOf [(.agg #[(.int .i64 (st)), (.int .i64 (rc)), vt]), (.int .i64 (n))].toArray H K := by
 have lE := Le.refl H
 have hvt := hvt0
 refine R.impl_CyclesOf ?_
 unfold F.impl_CyclesOf
 obtain ⟨nx, hnx⟩ : ∃ x : List Int, x = nsL st rc T n := ⟨_, rfl⟩
 obtain ⟨cy, hcy⟩ : ∃ x : List Int, x = cyL nx := ⟨_, rfl⟩
 have hnl : nx.length = (pwr st n).toNat := by rw [hnx]; exact nsL_len
 have hcl : cy.length = nx.length := by rw [hcy]; exact cyL_len nx
 have hcb : ∀ x ∈ cy, 0 ≤ x ∧ x ≤ (nx.length : Int) := by rw [hcy]; exact cyL_in
 refine nw_i (fun p1 H2 op1 nn3 le4 => ?_)
 replace hvt := hvt.le le4
 replace lE := lE.trans le4
 replace op1 : Cel H2 p1 [(.int .i64 (st)), (.int .i64 (rc)), vt] := op1
 refine ob_i (op1.ldn rfl) ?_
 refine C.impl_small hvt (by first | omega | assumption) (fun   H5    le6 => ?_)
 replace op1 := op1.le le6
 replace hvt := hvt.le le6
 replace lE := lE.trans le6
 refine ob_nd (fun hc7 => ?_) (fun hc7 => ?_)
 ·skip
  have hS0 := hc7
  have hpw := sml_pw hS0
  have hx : nxP nx := by rw [hnx]; exact nsL_nx hS0
  refine cnd_f1 ?_
  refine MpC.new_ (fun mp Smp H8 omp nn9 le10 => ?_)
  have ap1Xmp : Apt p1 Smp := Apt.of_nws op1.known nn9
  have nmp : Nws H Smp := nn9.le lE
  replace op1 := op1.le le10
  replace hvt := hvt.le le10
  replace lE := lE.trans le10
  refine jn_i (fun σ' H' => ∃ M : List (Int × Int), σ' 7 = mp ∧ σ' 8 = (.int .i64 (posC cy)) ∧ Cel H' p1 [(.int .i64 (st)), (.int .i64 (rc)), vt] ∧ MpC H' mp Smp (M) ∧ Le H H' ∧ CntI cy M ∧ M.length ≤ cy.length) (fun σ11 H11 hP => ?_) (fun J11 hJ11 => ?_)
  ·skip
   obtain ⟨M, g7L11, g8L11, op1, omp, lE, hC, hMl⟩ := hP
   have hvt := hvt0.le lE
   try simp only [g7L11, g8L11]
   refine bS_nil (enc := eI) (fun u12 H13 ou12 nn14 kk15 le16 => ?_)
   have ap1Xu12 : Apart p1 u12 := op1.apart nn14
   have ampXu12 : Apt Smp u12 := Apt.of_nw omp.known nn14
   have nu12 : Nw H u12 := nn14.le lE
   replace op1 := op1.le le16
   replace omp := omp.le le16
   replace hvt := hvt.le le16
   replace lE := lE.trans le16
   refine jn_i (fun σ' H' => ∃ vk, ∃ js : List Nat, σ' 7 = mp ∧ σ' 8 = (.int .i64 (posC cy)) ∧ σ' 11 = vk ∧ Cel H' p1 [(.int .i64 (st)), (.int .i64 (rc)), vt] ∧ MpC H' mp Smp (M) ∧ Own eI H' vk (js.map (fun j => keyN M j)) ∧ Nw H vk ∧ Apart p1 vk ∧ Apt Smp vk ∧ Le H H' ∧ js.Nodup ∧ (∀ j ∈ js, j < M.length) ∧ (∀ j, j < M.length → j ∈ js)) (fun σ17 H17 hP => ?_) (fun J17 hJ17 => ?_)
   ·skip
    obtain ⟨vk, js, g7L17, g8L17, g11L17, op1, omp, ovk, nvk, ap1Xvk, ampXvk, lE, hnd, hjb, hall⟩ := hP
    have hvt := hvt0.le lE
    try simp only [g7L17, g8L17, g11L17]
    have hkp : 0 < (js.map (fun j => keyN M j)).length := by rw [List.length_map]; exact keys_pos hx (by omega) (hcy ▸ hC) hall
    have hkl : (js.map (fun j => keyN M j)).length = js.length := by rw [List.length_map]
    have hjn := nd_range hnd hjb
    refine C.slices_Sort_I ovk hkp (by omega) (fun H18 ovk off19 => ?_)
    replace op1 := op1.off off19 ap1Xvk
    replace omp := omp.off off19 ampXvk
    replace hvt := hvt0.le (off19.le lE nvk)
    replace lE := off19.le lE nvk
    have hS := keys_eq (N := nx.length) hC hcb hnd hjb hall rfl (show srtI (js.map (fun j => keyN M j)) = _ from rfl)
    rw [hS] at ovk
    have hyl := kyL_len (cntK cy) (nx.length + 1)
    refine bS_nil (enc := eI) (fun u20 H21 ou20 nn22 kk23 le24 => ?_)
    have ap1Xu20 : Apart p1 u20 := op1.apart nn22
    have ampXu20 : Apt Smp u20 := Apt.of_nw omp.known nn22
    have avkXu20 : Apart vk u20 := ovk.apart nn22
    have nu20 : Nw H u20 := nn22.le lE
    replace op1 := op1.le le24
    replace omp := omp.le le24
    replace ovk := ovk.le le24
    replace hvt := hvt.le le24
    replace lE := lE.trans le24
    refine jn_i (fun σ' H' => ∃ vo, σ' 8 = (.int .i64 (posC cy)) ∧ σ' 13 = vo ∧ Cel H' p1 [(.int .i64 (st)), (.int .i64 (rc)), vt] ∧ MpC H' mp Smp (M) ∧ Own eI H' vk (kyL (cntK cy) (nx.length + 1)) ∧ Own eI H' vo (csG (cntK cy) (nx.length + 1)) ∧ Nw H vo ∧ Apart p1 vo ∧ Apt Smp vo ∧ Apart vk vo ∧ Le H H') (fun σ25 H25 hP => ?_) (fun J25 hJ25 => ?_)
    ·skip
     obtain ⟨vo, g8L25, g13L25, op1, omp, ovk, ovo, nvo, ap1Xvo, ampXvo, avkXvo, lE⟩ := hP
     try simp only [g8L25, g13L25]
     skip
     have hok : smlP st rc T n := by assumption
     exact keq (K := K) (by rw [show ((selI (smlP st rc T n) (posC (cyL (nsL st rc T n)))) : Int) = (posC cy) from by first | (rw [← hnx, ← hcy]; exact selI_t hok) | (rw [hcy, hnx]; exact selI_t hok) | exact selI_t hok | exact selI_f hok]; rw [decide_eq_true (show (smlP st rc T n) from by exact hok)]) (hk  vo _ (Own.cast (show csG (cntK cy) (nx.length + 1) = selL (smlP st rc T n) (csL st rc T n) by first | (rw [selL_t hok]; unfold csL; rw [← hnx, ← hcy]) | exact (selL_f hok).symm) ovo) nvo  lE)
    refine ob_i (ovk.len) ?_
    refine ⟨fun n' σ' H' => ∃ t : Nat, n' = (kyL (cntK cy) (nx.length + 1)).length - t ∧ t ≤ (kyL (cntK cy) (nx.length + 1)).length ∧ ∃ vo, σ' 7 = mp ∧ σ' 8 = (.int .i64 (posC cy)) ∧ σ' 13 = vo ∧ σ' 54 = vk ∧ σ' 55 = (.int .i64 (((kyL (cntK cy) (nx.length + 1)).length : Int))) ∧ σ' 56 = (.int .i64 ((t : Int))) ∧ Cel H' p1 [(.int .i64 (st)), (.int .i64 (rc)), vt] ∧ MpC H' mp Smp (M) ∧ Own eI H' vk (kyL (cntK cy) (nx.length + 1)) ∧ Own eI H' vo (outF M (kyL (cntK cy) (nx.length + 1)) t) ∧ Nw H vo ∧ Apart p1 vo ∧ Apt Smp vo ∧ Apart vk vo ∧ Le H H',
     ⟨_, 0, rfl, by omega, u20, g7L17, g8L17, rfl, rfl, rfl, (congrArg (Value.int .i64) (by first | omega | rfl | (simp; done))), op1, omp, ovk, (Own.cast (by rfl) ou20), nu20, ap1Xu20, ampXu20, avkXu20, lE⟩, ?_⟩
    rintro n26 σ26 H26 ⟨t, rfl, htN, vo, g7L26, g8L26, g13L26, g54L26, g55L26, g56L26, op1, omp, ovk, ovo, nvo, ap1Xvo, ampXvo, avkXvo, lE⟩
    have hvt := hvt0.le lE
    try simp only [g7L26, g13L26, g54L26, g55L26, g56L26]
    have hol := outF_len M (kyL (cntK cy) (nx.length + 1)) t
    refine ob_i (vInt_lss _ _ _) ?_
    refine cnd_d (fun hg27 => ?_) (fun hg27 => ?_)
    ·skip
     have tt := hg27
     refine ob_i (ovk.sl.ix (by omega) (by omega)) ?_
     refine ob_i (ovk.sl.ld 0 (by omega) (by omega)) ?_
     refine MpC.look1 (k := at_ 0 (kyL (cntK cy) (nx.length + 1)) ((t : Int))) omp (by kernel_rfl) ?_
     refine bS_i (enc := eI) (l := [at_ 0 (kyL (cntK cy) (nx.length + 1)) ((t : Int)), entV (at_ 0 (kyL (cntK cy) (nx.length + 1)) ((t : Int))) (M)]) (by omega) rfl (by kernel_rfl) (fun u28 H29 ou28 nn30 le32 => ?_)
     replace op1 := op1.le le32
     replace omp := omp.le le32
     replace ovk := ovk.le le32
     replace ovo := ovo.le le32
     replace hvt := hvt.le le32
     replace lE := lE.trans le32
     refine apd_any ovo ou28.sl (fun _ => rfl) (by omega) (by first | omega | (simp only [List.length_cons, List.length_nil, List.length_append, List.length_replicate, List.length_map, List.length_range]; omega)) (fun u36 H33 ou36 off34 hb35 => ?_)
     have ap1Xu36 : Apart p1 u36 := Apart.ap2 op1.known ap1Xvo hb35
     have ampXu36 : Apt Smp u36 := Apt.ap2 omp.known ampXvo hb35
     have avkXu36 : Apart vk u36 := Apart.ap2 ovk.known avkXvo hb35
     have nu36 : Nw H u36 := Nw.ap2 nvo lE hb35
     replace op1 := op1.off off34 ap1Xvo
     replace omp := omp.off off34 ampXvo
     replace ovk := ovk.off off34 avkXvo
     replace hvt := hvt0.le (off34.le lE nvo)
     replace lE := off34.le lE nvo
     refine ob_i (vInt_add (by omega) (by omega)) ?_
     exact nxt ((kyL (cntK cy) (nx.length + 1)).length - (t + 1)) (by omega) ⟨t + 1, rfl, by omega, u36, g7L26, g8L26, rfl, g54L26, g55L26, (congrArg (Value.int .i64) (by first | omega | rfl | (simp; done))), op1, omp, ovk, (Own.cast (outF_succ (by omega)) ou36), nu36, ap1Xu36, ampXu36, avkXu36, lE⟩
    ·skip
     have tt := hg27
     rw [show t = (kyL (cntK cy) (nx.length + 1)).length by omega, outF_all hC rfl] at ovo
     exact hJ25 _ _ ⟨vo, g8L26, g13L26, op1, omp, ovk, ovo, nvo, ap1Xvo, ampXvo, avkXvo, lE⟩
   refine ItC.new_ omp (by kernel_rfl) (fun it H37 oit nn38 le39 => ?_)
   have ap1Xit : Apart p1 it := op1.apart nn38
   have ampXit : Apt Smp it := Apt.of_nw omp.known nn38
   have au12Xit : Apart u12 it := ou12.apart nn38
   have nit : Nw H it := nn38.le lE
   replace op1 := op1.le le39
   replace omp := omp.le le39
   replace ou12 := ou12.le le39
   replace hvt := hvt.le le39
   replace lE := lE.trans le39
   refine ⟨fun n' σ' H' => ∃ q : Nat, n' = M.length - q ∧ q ≤ M.length ∧ ∃ vk, ∃ js : List Nat, σ' 7 = mp ∧ σ' 8 = (.int .i64 (posC cy)) ∧ σ' 11 = vk ∧ σ' 42 = it ∧ Cel H' p1 [(.int .i64 (st)), (.int .i64 (rc)), vt] ∧ MpC H' mp Smp (M) ∧ ItC H' it mp (M).length (js) ∧ Own eI H' vk (js.map (fun j => keyN M j)) ∧ Nw H vk ∧ Apart p1 vk ∧ Apt Smp vk ∧ Apart it vk ∧ Le H H' ∧ js.Nodup ∧ (∀ j ∈ js, j < M.length) ∧ js.length = q,
    ⟨_, 0, rfl, by omega, u12, [], g7L11, g8L11, rfl, rfl, op1, omp, oit, (Own.cast (by rfl) ou12), nu12, ap1Xu12, ampXu12, au12Xit.symm, lE, List.Pairwise.nil, (by simp), rfl⟩, ?_⟩
   rintro n40 σ40 H40 ⟨q, rfl, hqN, vk, js, g7L40, g8L40, g11L40, g42L40, op1, omp, oit, ovk, nvk, ap1Xvk, ampXvk, aitXvk, lE, hnd, hjb, hjl⟩
   have hvt := hvt0.le lE
   try simp only [g11L40, g42L40]
   have hkl : (js.map (fun j => keyN M j)).length = js.length := by rw [List.length_map]
   refine ItC.next oit omp (fun j41 hj42 H43 hn44 oit off45 => ?_) (fun hall46 => ?_)
   ·skip
    replace op1 := op1.off off45 ap1Xit
    replace omp := omp.off off45 ampXit
    replace ovk := ovk.off off45 aitXvk.symm
    replace hvt := hvt0.le (off45.le lE nit)
    replace lE := off45.le lE nit
    refine ob_i (vExt_30 _ _ _) ?_
    refine cnd_t1 ?_
    refine ItC.entry oit omp hj42 ?_
    refine ob_i (vExt_20 _ _) ?_
    refine bS_i (enc := eI) (l := [keyN (M) j41]) (by omega) rfl (by kernel_rfl) (fun u47 H48 ou47 nn49 le51 => ?_)
    replace op1 := op1.le le51
    replace omp := omp.le le51
    replace oit := oit.le le51
    replace ovk := ovk.le le51
    replace hvt := hvt.le le51
    replace lE := lE.trans le51
    refine apd_any ovk ou47.sl (fun _ => rfl) (by omega) (by first | omega | (simp only [List.length_cons, List.length_nil, List.length_append, List.length_replicate, List.length_map, List.length_range]; omega)) (fun u55 H52 ou55 off53 hb54 => ?_)
    have ap1Xu55 : Apart p1 u55 := Apart.ap2 op1.known ap1Xvk hb54
    have ampXu55 : Apt Smp u55 := Apt.ap2 omp.known ampXvk hb54
    have aitXu55 : Apart it u55 := Apart.ap2 oit.known aitXvk hb54
    have nu55 : Nw H u55 := Nw.ap2 nvk lE hb54
    replace op1 := op1.off off53 ap1Xvk
    replace omp := omp.off off53 ampXvk
    replace oit := oit.off off53 aitXvk
    replace hvt := hvt0.le (off53.le lE nvk)
    replace lE := off53.le lE nvk
    have hnd' := nd_snocN hnd hn44
    have hjb' := all_snocN hjb hj42
    have hjl' : (js ++ [j41]).length = q + 1 := by rw [List.length_append, hjl]; rfl
    have hjr := nd_range hnd' hjb'
    exact nxt (M.length - (q + 1)) (by omega) ⟨q + 1, rfl, by omega, u55, (js ++ [j41]), g7L40, g8L40, rfl, g42L40, op1, omp, oit, (Own.cast (by simp) ou55), nu55, ap1Xu55, ampXu55, aitXu55, lE, hnd', hjb', hjl'⟩
   ·skip
    refine ob_i (vExt_10 _) ?_
    refine cnd_f1 ?_
    exact hJ17 _ _ ⟨vk, js, g7L40, g8L40, g11L40, op1, omp, ovk, nvk, ap1Xvk, ampXvk, lE, hnd, hjb, hall46⟩
  refine ob_i (op1.ldn rfl) ?_
  refine ob_i (op1.ldn rfl) ?_
  refine C.impl_Rule_steps hvt (by first | omega | assumption) (fun  u58 H56 ou58 nn59  le57 => ?_)
  have ampXu58 : Apt Smp u58 := Apt.of_nw omp.known nn59
  replace op1 := op1.le le57
  replace omp := omp.le le57
  replace hvt := hvt.le le57
  replace lE := lE.trans le57
  refine ⟨le57, ?_⟩
  rw [← hnx] at ou58
  refine C.impl_Rule_inCycles hvt ou58.sl (by first | omega | assumption) (by first | omega | assumption) (fun  u62 H60 ou62 nn63  le61 => ?_)
  have ampXu62 : Apt Smp u62 := Apt.of_nw omp.known nn63
  replace op1 := op1.le le61
  replace omp := omp.le le61
  replace ou58 := ou58.le le61
  replace hvt := hvt.le le61
  replace lE := lE.trans le61
  refine ⟨le61, ?_⟩
  rw [← hcy] at ou62
  refine ob_i (ou62.len) ?_
  refine ⟨fun n' σ' H' => ∃ t : Nat, n' = cy.length - t ∧ t ≤ cy.length ∧ ∃ M : List (Int × Int), σ' 7 = mp ∧ σ' 8 = (.int .i64 (posC (cy.take t))) ∧ σ' 25 = u62 ∧ σ' 26 = (.int .i64 (((cy).length : Int))) ∧ σ' 27 = (.int .i64 ((t : Int))) ∧ Cel H' p1 [(.int .i64 (st)), (.int .i64 (rc)), vt] ∧ MpC H' mp Smp (M) ∧ Own eI H' u58 (nx) ∧ Own eI H' u62 (cy) ∧ Le H H' ∧ CntI (cy.take t) M ∧ M.length ≤ t,
   ⟨_, 0, rfl, by omega, [], rfl, rfl, rfl, rfl, (congrArg (Value.int .i64) (by first | omega | rfl | (simp; done))), op1, omp, ou58, ou62, lE, CntI.nil, (by simp)⟩, ?_⟩
  rintro n64 σ64 H64 ⟨t, rfl, htN, M, g7L64, g8L64, g25L64, g26L64, g27L64, op1, omp, ou58, ou62, lE, hC, hMl⟩
  have hvt := hvt0.le lE
  try simp only [g7L64, g8L64, g25L64, g26L64, g27L64]
  have hpb := posC_bnd (cy.take t)
  rw [List.length_take] at hpb
  refine ob_i (vInt_lss _ _ _) ?_
  refine cnd_d (fun hg65 => ?_) (fun hg65 => ?_)
  ·skip
   have tt := hg65
   have hcx := hcb _ (at_mem 0 cy (i := (t : Int)) (by omega) (by omega))
   refine ob_i (ou62.sl.ix (by omega) (by omega)) ?_
   refine ob_i (ou62.sl.ld 0 (by omega) (by omega)) ?_
   refine ob_i (vInt_gtr _ _ _) ?_
   refine cnd_d (fun hg66 => ?_) (fun hg66 => ?_)
   ·skip
    have hev := entV_bnd hC hg66
    rw [List.length_take] at hev
    refine MpC.look1 (k := at_ 0 (cy) ((t : Int))) omp (by kernel_rfl) ?_
    refine ob_i (vInt_add (by omega) (by omega)) ?_
    refine MpC.upd (k := at_ 0 (cy) ((t : Int))) (x := (entV (at_ 0 (cy) ((t : Int))) (M)) + 1) omp (by kernel_rfl) (fun H67 omp off68 => ?_)
    replace op1 := op1.offS off68 ap1Xmp
    replace ou58 := ou58.offS off68 ampXu58.symm
    replace ou62 := ou62.offS off68 ampXu62.symm
    replace hvt := hvt0.le (off68.le lE nmp)
    replace lE := off68.le lE nmp
    refine ob_i (vInt_add (by omega) (by omega)) ?_
    refine ob_i (vInt_add (by omega) (by omega)) ?_
    have hpt := posC_take (L := cy) (t := t) (by omega)
    rw [if_pos hg66] at hpt
    exact nxt (cy.length - (t + 1)) (by omega) ⟨t + 1, rfl, by omega, (updK (at_ 0 (cy) ((t : Int))) ((entV (at_ 0 (cy) ((t : Int))) (M)) + 1) (M)), g7L64, (congrArg (Value.int .i64) (by first | omega | rfl | (simp; done))), g25L64, g26L64, (congrArg (Value.int .i64) (by first | omega | rfl | (simp; done))), op1, omp, ou58, ou62, lE, (hC.take (by omega) hg66), (by have := updK_len (at_ 0 cy (t : Int)) (entV (at_ 0 cy (t : Int)) M + 1) M; omega)⟩
   ·skip
    refine ob_i (vInt_add (by omega) (by omega)) ?_
    have hpt := posC_take (L := cy) (t := t) (by omega)
    rw [if_neg hg66] at hpt
    exact nxt (cy.length - (t + 1)) (by omega) ⟨t + 1, rfl, by omega, (M), g7L64, (g8L64.trans (congrArg (Value.int .i64) (by first | omega | rfl | (simp; done)))), g25L64, g26L64, (congrArg (Value.int .i64) (by first | omega | rfl | (simp; done))), op1, omp, ou58, ou62, lE, (hC.pass (by omega) hg66), (by omega)⟩
  ·skip
   have tt := hg65
   rw [List.take_of_length_le (by omega)] at *
   exact hJ11 _ _ ⟨M, g7L64, (g8L64.trans (congrArg (Value.int .i64) (by first | omega | rfl | (simp; done)))), op1, omp, lE, hC, (by omega)⟩
 ·skip
  refine cnd_t1 ?_
  skip
  have hok : ¬ (smlP st rc T n) := by assumption
  exact keq (K := K) (by rw [show ((selI (smlP st rc T n) (posC (cyL (nsL st rc T n)))) : Int) = (0) from by first | (rw [← hnx, ← hcy]; exact selI_t hok) | (rw [hcy, hnx]; exact selI_t hok) | exact selI_t hok | exact selI_f hok]; rw [decide_eq_false (show ¬ (smlP st rc T n) from by exact hok)]) (hk  (.slice none 0 0) _ (Own.cast (show [] = selL (smlP st rc T n) (csL st rc T n) by exact (selL_f hok).symm) (Own.nil_of none)) (fun b hb => by simp [bk] at hb)  lE)
end Go.Proofs.Ythmdmbbdjbhcoaa
/- What the small functions of structs come to: copies, sizes, what is alike. -/
namespace Go.Proofs.Ythmdmbbdjbhcoaa
open HL
set_option maxRecDepth 100000
theorem C.laws_toRule {xa : Int} {xb : Int} {xc : Value} {sxc : List Int} {H : Hp} {K : Value → Hp → Prop} (hxc0 : Sl eI H xc sxc) (msxc : (sxc).length ≤ 17592186044416)
    (hk : ∀ uc H', Own eI H' uc sxc → Nw H uc → Le H H' → K (.agg #[(.int .i64 (xa)), (.int .i64 (xb)), uc]) H') : HT prg I.laws_toRule [(.agg #[(.int .i64 (xa)), (.int .i64 (xb)), xc])].toArray H K := by
 have lE := Le.refl H
 have hxc := hxc0
 refine R.laws_toRule ?_
 unfold F.laws_toRule
 refine nw_i (fun p1 H2 op1 nn3 le4 => ?_)
 replace hxc := hxc.le le4
 replace lE := lE.trans le4
 replace op1 : Cel H2 p1 [(.int .i64 (xa)), (.int .i64 (xb)), xc] := op1
 refine nw_i (fun p5 H6 op5 nn7 le8 => ?_)
 have np5 : Nw H p5 := nn7.le lE
 replace op1 := op1.le le8
 replace hxc := hxc.le le8
 replace lE := lE.trans le8
 replace op5 : Cel H6 p5 [(.int .i64 (0)), (.int .i64 (0)), (.slice none 0 0)] := op5
 refine nw_i (fun p9 H10 op9 nn11 le12 => ?_)
 have ap1Xp9 : Apart p1 p9 := op1.apart nn11
 have ap5Xp9 : Apart p5 p9 := op5.apart nn11
 have np9 : Nw H p9 := nn11.le lE
 replace op1 := op1.le le12
 replace op5 := op5.le le12
 replace hxc := hxc.le le12
 replace lE := lE.trans le12
 replace op9 : Cel H10 p9 [(.int .i64 (0)), (.int .i64 (0)), (.slice none 0 0)] := op9
 refine ob_i (op1.fa 0) ?_
 refine ob_i (op1.ld 0 rfl) ?_
 refine ob_i (op9.fa 0) ?_
 refine op9.st (by simp) rfl rfl (fun H13 op9 off14 => ?_)
 replace op1 := op1.off off14 ap1Xp9
 replace op5 := op5.off off14 ap5Xp9
 replace hxc := hxc0.le (off14.le lE np9)
 replace lE := off14.le lE np9
 replace op9 : Cel H13 p9 [(.int .i64 (xa)), (.int .i64 (0)), (.slice none 0 0)] := op9
 refine ob_i (op1.fa 1) ?_
 refine ob_i (op1.ld 1 rfl) ?_
 refine ob_i (op9.fa 1) ?_
 refine op9.st (by simp) rfl rfl (fun H15 op9 off16 => ?_)
 replace op1 := op1.off off16 ap1Xp9
 replace op5 := op5.off off16 ap5Xp9
 replace hxc := hxc0.le (off16.le lE np9)
 replace lE := off16.le lE np9
 replace op9 : Cel H15 p9 [(.int .i64 (xa)), (.int .i64 (xb)), (.slice none 0 0)] := op9
 refine ob_i (op1.fa 2) ?_
 refine ob_i (op1.ld 2 rfl) ?_
 refine C.laws_toInt64S hxc (by omega) (fun u17 H18 ou17 nn19 le20 => ?_)
 have ap5Xu17 : Apart p5 u17 := op5.apart nn19
 have ap9Xu17 : Apart p9 u17 := op9.apart nn19
 have nu17 : Nw H u17 := nn19.le lE
 replace op5 := op5.le le20
 replace op9 := op9.le le20
 replace hxc := hxc.le le20
 replace lE := lE.trans le20
 refine ob_i (op9.fa 2) ?_
 refine op9.st (by simp) ou17.one ou17.cells (fun H21 op9 off22 => ?_)
 replace op5 := op5.off off22 ap5Xp9
 replace ou17 := ou17.off off22 ap9Xu17.symm
 replace hxc := hxc0.le (off22.le lE np9)
 replace lE := off22.le lE np9
 replace op9 : Cel H21 p9 [(.int .i64 (xa)), (.int .i64 (xb)), u17] := op9
 refine ob_i (op9.ldn rfl) ?_
 refine op5.stn (ws := [(.int .i64 (xa)), (.int .i64 (xb)), u17]) rfl rfl (oc1 rfl (oc1 rfl (oc1 ou17.one oc0))) (fun H23 op5 off24 => ?_)
 replace ou17 := ou17.off off24 ap5Xu17.symm
 replace hxc := hxc0.le (off24.le lE np5)
 replace lE := off24.le lE np5
 replace op5 : Cel H23 p5 [(.int .i64 (xa)), (.int .i64 (xb)), u17] := op5
 refine ob_i (op5.ldn rfl) ?_
 exact hk u17 _ ou17 nu17  lE

theorem C.laws_szRule {xa : Int} {xb : Int} {xc : Value} {sxc : List Int} {k : Int} {H : Hp} {K : Value → Hp → Prop} (hxc0 : Sl eI H xc sxc) (msxc : (sxc).length ≤ 9223372036854775807) (hk0 : 0 ≤ k) (hk1 : k < 9223372036854775808) (h1 : ∀ H', Le H H' → K (.int .i64 (-1)) H')
    (h2 : ∀ H', Le H H' → 0 ≤ k - (sxc).length → K (.int .i64 (k - (sxc).length)) H') : HT prg I.laws_szRule [(.agg #[(.int .i64 (xa)), (.int .i64 (xb)), xc]), .int .i64 k].toArray H K := by
 have lE := Le.refl H
 have hxc := hxc0
 refine R.laws_szRule ?_
 unfold F.laws_szRule
 refine nw_i (fun p1 H2 op1 nn3 le4 => ?_)
 replace hxc := hxc.le le4
 replace lE := lE.trans le4
 replace op1 : Cel H2 p1 [(.int .i64 (xa)), (.int .i64 (xb)), xc] := op1
 refine ob_i (op1.fa 2) ?_
 refine ob_i (op1.ld 2 rfl) ?_
 refine C.laws_szInt64S hxc.len (by omega) (by omega) (fun hz5 => ?_) (fun hz5 => ?_)
 ·skip
  refine ob_i (vInt_lss_t (by omega)) ?_
  refine cnd_t1 ?_
  exact h1 _ lE
 refine ob_i (vInt_lss_f (by omega)) ?_
 refine cnd_f1 ?_
 exact h2 _ lE (by omega)

theorem C.laws_eqRule {xa : Int} {xb : Int} {xc : Value} {sxc : List Int} {yc : Value} {H : Hp} {K : Value → Hp → Prop} (hxc0 : Sl eI H xc sxc) (hyc0 : Sl eI H yc sxc) (msxc : (sxc).length ≤ 9223372036854775807)
    (hk : ∀ H', Le H H' → K (.bool true) H') : HT prg I.laws_eqRule [(.agg #[(.int .i64 (xa)), (.int .i64 (xb)), xc]), (.agg #[(.int .i64 (xa)), (.int .i64 (xb)), yc])].toArray H K := by
 have lE := Le.refl H
 have hxc := hxc0
 have hyc := hyc0
 refine R.laws_eqRule ?_
 unfold F.laws_eqRule
 refine nw_i (fun p1 H2 op1 nn3 le4 => ?_)
 replace hxc := hxc.le le4
 replace hyc := hyc.le le4
 replace lE := lE.trans le4
 replace op1 : Cel H2 p1 [(.int .i64 (xa)), (.int .i64 (xb)), xc] := op1
 refine nw_i (fun p5 H6 op5 nn7 le8 => ?_)
 replace op1 := op1.le le8
 replace hxc := hxc.le le8
 replace hyc := hyc.le le8
 replace lE := lE.trans le8
 replace op5 : Cel H6 p5 [(.int .i64 (xa)), (.int .i64 (xb)), yc] := op5
 refine ob_i (op1.fa 0) ?_
 refine ob_i (op1.ld 0 rfl) ?_
 refine ob_i (op5.fa 0) ?_
 refine ob_i (op5.ld 0 rfl) ?_
 refine ob_i (vInt_neq_same _ _) ?_
 refine cnd_f1 ?_
 refine ob_i (op1.fa 1) ?_
 refine ob_i (op1.ld 1 rfl) ?_
 refine ob_i (op5.fa 1) ?_
 refine ob_i (op5.ld 1 rfl) ?_
 refine ob_i (vInt_neq_same _ _) ?_
 refine cnd_f1 ?_
 refine ob_i (op1.fa 2) ?_
 refine ob_i (op1.ld 2 rfl) ?_
 refine ob_i (op5.fa 2) ?_
 refine ob_i (op5.ld 2 rfl) ?_
 refine C.laws_eqInt64S hxc hyc (by omega) ?_
 rw [decide_eq_true rfl]
 refine ob_i (a := .bool false) rfl ?_
 refine cnd_f1 ?_
 exact hk _ lE
end Go.Proofs.Ythmdmbbdjbhcoaa
/- From a contract over a whole heap to a call's end: what the statement asks. -/
namespace Go.Proofs.Ythmdmbbdjbhcoaa.HL
open Go.RowKit
/-- All of a world's blocks. -/
def whole (W : World) : Hp := fun b => W.heap[b]?
theorem whole_sub (W : World) : Sub (whole W) W := fun _ _ h => h

theorem calls_true {P : Program} {f : FuncId} {args : Array Value} {W : World} (h : HT P f args (whole W) (fun v H' => v = .bool true ∧ Le (whole W) H')) :
    Calls P f args W (fun e W' => e = .returned (.bool true) ∧ Below W.heap.size W W') := by
  refine (h W (whole_sub W)).mono ?_
  rintro e W' ⟨v, H', rfl, hs, fr, rfl, hle⟩
  refine ⟨rfl, fr.os, fr.tape, fr.output, fr.size, fun k hk => ?_⟩
  have h1 : whole W k = some W.heap[k] := by unfold whole; exact Array.getElem?_eq_getElem hk
  have h2 := hs k _ (hle k _ h1)
  rw [h2, Array.getElem?_eq_getElem hk]

theorem addr_zero (a : Addr) : a.add 0 = a := by unfold Addr.add; simp
theorem list_of {α : Type} : ∀ (n : Nat) (Q : Nat → α → Prop), (∀ i, i < n → ∃ b, Q i b) → ∃ l : List α, l.length = n ∧ ∀ i (h : i < l.length), Q i l[i]
  | 0, _, _ => ⟨[], rfl, fun i h => absurd h (by simp)⟩
  | n + 1, Q, h => by
    obtain ⟨l, hl, hq⟩ := list_of n Q (fun i hi => h i (by omega))
    obtain ⟨b, hb⟩ := h n (by omega)
    refine ⟨l ++ [b], by simp [hl], fun i hi => ?_⟩
    by_cases e : i < l.length
    · rw [List.getElem_append_left e]; exact hq i e
    · have : i = l.length := by simp at hi; omega
      subst this
      rw [List.getElem_append_right (by omega)]
      simp only [Nat.sub_self, List.getElem_cons_zero]
      rw [hl]; exact hb
theorem arr3 {α : Type} {a : Array α} (h : a.size = 3) : ∃ x0 x1 x2, a = #[x0, x1, x2] := by
  obtain ⟨l⟩ := a
  match l, h with
  | [x0, x1, x2], _ => exact ⟨x0, x1, x2, rfl⟩
theorem int_wf {n : Int} (h : (Lit.int .i64 n).wf = true) : -9223372036854775808 ≤ n ∧ n < 9223372036854775808 := by
  unfold Lit.wf at h
  simp [IntKind.min, IntKind.max, IntKind.signed, IntKind.bits] at h
  omega
open Go.ChangeShapes Go.WideShapes Go.ChangeAt in
theorem sl_of_elems {α B : Type} {en : α → Value} {Pr : α → Prop} {enc : TypeId × Value → B} {P : Program} {W : World} {base : Nat} {sp : Nat → Bool} {held : Bool} {t e : TypeId} {fuel : Nat} {cs : List Value} {x : DataW B × List MemPlace}
    (ht : P.underlying t = some (.slice e)) (hc : P.cellsOf e = 1) (each : ∀ n v y, DataW.trod enc P W base sp held n e [v] = some y → ∃ a, v = en a ∧ Pr a)
    (h : DataW.trod enc P W base sp held fuel t cs = some x) : ∃ v l, cs = [v] ∧ Sl en (whole W) v l ∧ l.length ≤ 9223372036854775807 ∧ ∀ a ∈ l, Pr a := by
  rcases DataW.trod_slice ht h with ⟨h0, _⟩ | ⟨a, len, cap, elems, rest, n, _, rfl, _, _, hl, hm, hlen, hel, _, _⟩
  · exact ⟨_, [], h0, Sl.nil 0 none, by simp, by simp⟩
  · have one : ∀ i, i < len → ∃ b, W.cell? (a.add i) = some (en b) ∧ Pr b := by
      intro i hi
      have h1 := hel i hi
      rw [hc, Nat.mul_one] at h1
      have h2 : elems[i]? = some (elems[i]'(by omega)) := List.getElem?_eq_getElem _
      rw [h2, Option.bind_eq_some_iff] at h1
      obtain ⟨cs', hcs, hy⟩ := h1
      have h3 : ∃ v, W.cell? (a.add i) = some v ∧ cs' = [v] := by
        unfold World.cells? at hcs
        split at hcs
        · simp only [List.range_succ, List.range_zero, List.nil_append, List.mapM_cons, List.mapM_nil, addr_zero] at hcs
          cases hw : W.cell? (a.add i) with
          | none => simp [hw] at hcs
          | some v => simp [hw] at hcs; exact ⟨v, rfl, hcs.symm⟩
        · simp at hcs
      obtain ⟨v, hv, rfl⟩ := h3
      obtain ⟨b, rfl, hb⟩ := each n v _ hy
      exact ⟨b, hv, hb⟩
    obtain ⟨l, hll, hlc⟩ := list_of len (fun i b => W.cell? (a.add i) = some (en b) ∧ Pr b) one
    refine ⟨_, l, rfl, ⟨some a, cap, by rw [hll], by omega, fun i hi => ⟨a, rfl, (hlc i hi).1⟩⟩, ?_, ?_⟩
    · have : maxLen = 9223372036854775807 := by decide
      omega
    · intro b hb
      obtain ⟨i, hi, rfl⟩ := List.getElem_of_mem hb
      exact (hlc i hi).2
open Go.ChangeShapes Go.WideShapes Go.ChangeAt in
theorem sl_of_ints {B : Type} {enc : TypeId × Value → B} {P : Program} {W : World} {base : Nat} {sp : Nat → Bool} {held : Bool} {t e : TypeId} {fuel : Nat} {cs : List Value} {x : DataW B × List MemPlace}
    (ht : P.underlying t = some (.slice e)) (he : P.underlying e = some (.int .i64)) (hc : P.cellsOf e = 1) (h : DataW.trod enc P W base sp held fuel t cs = some x) :
    ∃ v l, cs = [v] ∧ Sl eI (whole W) v l ∧ l.length ≤ 9223372036854775807 ∧ ∀ a ∈ l, -9223372036854775808 ≤ a ∧ a < 9223372036854775808 :=
  sl_of_elems ht hc (fun n v y hy => by obtain ⟨m, hm, _, hw⟩ := DataW.trod_int he hy; exact ⟨m, by simpa using hm, int_wf hw⟩) h
end Go.Proofs.Ythmdmbbdjbhcoaa.HL
