/- Slices of fields that a statement hands over. -/
import Derived.Test.YthbffbpdoankjaaLA
import Derived.Test.YthbffbpdoankjaaKL
namespace Go.Proofs.Ythbffbpdoankjaa.HL
open Go.RowKit Go.ChangeShapes Go.WideShapes Go.ChangeAt
theorem cells3 {W : World} {base : Nat} {a : Addr} {cs : List Value} (h : W.cells? base a 3 = some cs) : ∃ v0 v1 v2, cs = [v0, v1, v2] ∧ W.cell? (a.add 0) = some v0 ∧ W.cell? (a.add 1) = some v1 ∧ W.cell? (a.add 2) = some v2 := by
  unfold World.cells? at h
  split at h
  · simp only [List.range_succ, List.range_zero, List.nil_append, List.cons_append, List.mapM_cons, List.mapM_nil] at h
    cases h0 : W.cell? (a.add 0) with
    | none => simp [h0] at h
    | some v0 =>
      cases h1 : W.cell? (a.add 1) with
      | none => simp [h0, h1] at h
      | some v1 =>
        cases h2 : W.cell? (a.add 2) with
        | none => simp [h0, h1, h2] at h
        | some v2 => simp [h0, h1, h2] at h; exact ⟨v0, v1, v2, h.symm, rfl, rfl, rfl⟩
  · simp at h
theorem RelF.of_pairs {P : Value → List Int → Prop} : ∀ (l : List (Fv × FdL)), (∀ p ∈ l, p.1.r = p.2.r ∧ p.1.c = p.2.c ∧ P p.1.v p.2.l) → RelF P (l.map Prod.fst) (l.map Prod.snd)
  | [], _ => trivial
  | p :: l, h => ⟨h p (by simp), RelF.of_pairs l (fun q hq => h q (by simp [hq]))⟩
theorem trod_field {B : Type} {enc : TypeId × Value → B} {P : Program} {W : World} {base : Nat} {sp : Nat → Bool} {held : Bool} {e e2 : TypeId} {f0 f1 f2 : Field} {n : Nat} {v0 v1 v2 : Value} {y : DataW B × List MemPlace}
    (he : P.underlying e = some (.struct #[f0, f1, f2])) (o0 : f0.offset = 0) (o1 : f1.offset = 1) (o2 : f2.offset = 2) (c0 : P.cellsOf f0.type = 1) (c1 : P.cellsOf f1.type = 1) (c2 : P.cellsOf f2.type = 1)
    (u0 : P.underlying f0.type = some (.int .i64)) (u1 : P.underlying f1.type = some (.int .i64)) (u2 : P.underlying f2.type = some (.slice e2)) (u3 : P.underlying e2 = some (.int .i64)) (c3 : P.cellsOf e2 = 1)
    (h : DataW.trod enc P W base sp held n e [v0, v1, v2] = some y) : ∃ r c l, v0 = .int .i64 r ∧ v1 = .int .i64 c ∧ Sl eI (whole W) v2 l ∧ l.length ≤ 9223372036854775807 := by
  obtain ⟨xs, m, _, _, _, hlen, hf⟩ := DataW.trod_struct he h
  match xs, hlen with
  | [y0, y1, y2], _ =>
    have t0 : DataW.trod enc P W base sp held m f0.type (([v0, v1, v2].drop f0.offset).take (P.cellsOf f0.type)) = some y0 := hf 0 f0 rfl
    have t1 : DataW.trod enc P W base sp held m f1.type (([v0, v1, v2].drop f1.offset).take (P.cellsOf f1.type)) = some y1 := hf 1 f1 rfl
    have t2 : DataW.trod enc P W base sp held m f2.type (([v0, v1, v2].drop f2.offset).take (P.cellsOf f2.type)) = some y2 := hf 2 f2 rfl
    rw [o0, c0] at t0
    rw [o1, c1] at t1
    rw [o2, c2] at t2
    obtain ⟨r, er, _⟩ := DataW.trod_int u0 t0
    obtain ⟨c, ec, _⟩ := DataW.trod_int u1 t1
    obtain ⟨v, l, el, hs, hl, _⟩ := sl_of_ints u2 u3 c3 t2
    have e0 : v0 = .int .i64 r := by simpa using er
    have e1 : v1 = .int .i64 c := by simpa using ec
    have e2' : v2 = v := by simpa using el
    subst e0 e1 e2'
    exact ⟨r, c, l, rfl, rfl, hs, hl⟩
theorem fam_of_rows {B : Type} {enc : TypeId × Value → B} {P : Program} {W : World} {base : Nat} {sp : Nat → Bool} {held : Bool} {t e : TypeId} {fuel : Nat} {cs : List Value} {x : DataW B × List MemPlace}
    (ht : P.underlying t = some (.slice e)) (hc : P.cellsOf e = 3)
    (each : ∀ n v0 v1 v2 y, DataW.trod enc P W base sp held n e [v0, v1, v2] = some y → ∃ r c l, v0 = .int .i64 r ∧ v1 = .int .i64 c ∧ Sl eI (whole W) v2 l ∧ l.length ≤ 9223372036854775807)
    (h : DataW.trod enc P W base sp held fuel t cs = some x) : ∃ v fs, cs = [v] ∧ FamS (whole W) v fs ∧ fs.length ≤ 9223372036854775807 ∧ ∀ f ∈ fs, f.l.length ≤ 9223372036854775807 := by
  rcases DataW.trod_slice ht h with ⟨h0, _⟩ | ⟨a, len, cap, elems, rest, n, _, rfl, _, _, hl, hm, hlen, hel, _, _⟩
  · exact ⟨_, [], h0, ⟨[], SlE.nil 0 none, trivial⟩, by simp, by simp⟩
  · have one : ∀ i, i < len → ∃ b : Fv × FdL, (W.cell? ((a.add (i * 3)).add 0) = some (.int .i64 b.1.r) ∧ W.cell? ((a.add (i * 3)).add 1) = some (.int .i64 b.1.c) ∧ W.cell? ((a.add (i * 3)).add 2) = some b.1.v) ∧ (b.1.r = b.2.r ∧ b.1.c = b.2.c ∧ Sl eI (whole W) b.1.v b.2.l) ∧ b.2.l.length ≤ 9223372036854775807 := by
      intro i hi
      have h1 := hel i hi
      rw [hc] at h1
      have h2 : elems[i]? = some (elems[i]'(by omega)) := List.getElem?_eq_getElem _
      rw [h2, Option.bind_eq_some_iff] at h1
      obtain ⟨cs', hcs, hy⟩ := h1
      obtain ⟨v0, v1, v2, rfl, g0, g1, g2⟩ := cells3 hcs
      obtain ⟨r, c, l, rfl, rfl, hs, hb⟩ := each n v0 v1 v2 _ hy
      exact ⟨(⟨r, c, v2⟩, ⟨r, c, l⟩), ⟨g0, g1, g2⟩, ⟨rfl, rfl, hs⟩, hb⟩
    obtain ⟨l, hll, hlc⟩ := list_of len _ one
    have hmax : maxLen = 9223372036854775807 := by decide
    refine ⟨_, l.map Prod.snd, rfl, ⟨l.map Prod.fst, ⟨some a, cap, by rw [List.length_map, hll], by rw [List.length_map]; omega, fun u hu => ⟨a, rfl, ?_⟩⟩, RelF.of_pairs l (fun p hp => ?_)⟩, by rw [List.length_map]; omega, fun f hf => ?_⟩
    · rw [flat_len encFv_n, List.length_map] at hu
      have hq : u / 3 < l.length := Nat.div_lt_of_lt_mul (by rw [Nat.mul_comm]; exact hu)
      have hm3 : u % 3 < 3 := Nat.mod_lt _ (by omega)
      have et : u = u / 3 * 3 + u % 3 := by rw [Nat.mul_comm]; exact (Nat.div_add_mod u 3).symm
      have q1 := flat_get encFv_n (l.map Prod.fst) (u / 3) (u % 3) (by rw [List.length_map]; exact hq) hm3
      rw [← et, List.getElem_map] at q1
      obtain ⟨⟨g0, g1, g2⟩, _⟩ := hlc (u / 3) hq
      have key : (whole W).cell? (a.add u) = W.cell? (a.add u) := rfl
      rw [key, ← List.getElem?_eq_getElem, q1]
      have ea : a.add u = (a.add (u / 3 * 3)).add (u % 3) := by rw [add_add, ← et]
      rw [ea]
      rcases (by omega : u % 3 = 0 ∨ u % 3 = 1 ∨ u % 3 = 2) with h | h | h <;> rw [h]
      · exact g0
      · exact g1
      · exact g2
    · obtain ⟨i, hi, rfl⟩ := List.getElem_of_mem hp
      exact (hlc i hi).2.1
    · obtain ⟨p, hp, rfl⟩ := List.mem_map.mp hf
      obtain ⟨i, hi, rfl⟩ := List.getElem_of_mem hp
      exact (hlc i hi).2.2
end Go.Proofs.Ythbffbpdoankjaa.HL
