/- What comes again: the first time that something is there a second time. -/
import Derived.Test.YthbffbpdoankjaaKT
import Derived.Test.YthbffbpdoankjaaUB
namespace Go.Proofs.Ythbffbpdoankjaa
open HL
set_option maxRecDepth 100000
/-- The first number, from one on, that has something. -/
def frst (p : Nat → Bool) : Nat → Nat → Nat
  | a, 0 => a
  | a, f + 1 => if p a = true then a else frst p (a + 1) f
theorem frst_at {p : Nat → Bool} : ∀ {f a m : Nat}, (∀ j, a ≤ j → j < m → p j = false) → p m = true → a ≤ m → m ≤ a + f → frst p a f = m
  | 0, a, m, _, _, h1, h2 => by unfold frst; omega
  | f + 1, a, m, h, hp, h1, h2 => by
    unfold frst
    by_cases e : a = m
    · subst e; rw [if_pos hp]
    · rw [if_neg (by rw [h a (by omega) (by omega)]; simp)]
      exact frst_at (fun j hj hm => h j (by omega) hm) hp (by omega) (by omega)
section
variable {G : Nat → List Int} {k i : Nat}
/-- Something alike was there before. -/
def dupP (G : Nat → List Int) (k : Nat) : Prop := ∃ i, i < k ∧ G i = G k
instance (G : Nat → List Int) (k : Nat) : Decidable (dupP G k) := by unfold dupP; infer_instance
def fsI (G : Nat → List Int) (k : Nat) : Nat := frst (fun i => decide (G i = G k)) 0 k
def ftK (G : Nat → List Int) (n : Nat) : Nat := frst (fun k => decide (dupP G k)) 0 n
def perP (G : Nat → List Int) (n : Nat) : Prop := ∃ k, k ≤ n ∧ dupP G k
instance (G : Nat → List Int) (n : Nat) : Decidable (perP G n) := decidable_of_iff (∃ k, k < n + 1 ∧ dupP G k) ⟨fun ⟨k, h1, h2⟩ => ⟨k, by omega, h2⟩, fun ⟨k, h1, h2⟩ => ⟨k, by omega, h2⟩⟩
theorem per_at {n : Nat} (hd : ∀ j, j < k → ¬ dupP G j) (hi : i < k) (he : G i = G k) (hf : ∀ j, j < i → G j ≠ G k) (hn : k ≤ n) : perP G n ∧ ftK G n = k ∧ fsI G (ftK G n) = i := by
  have h1 : ftK G n = k := frst_at (fun j _ hj => decide_eq_false (hd j hj)) (decide_eq_true ⟨i, hi, he⟩) (Nat.zero_le _) (by omega)
  refine ⟨⟨k, hn, i, hi, he⟩, h1, ?_⟩
  rw [h1]
  exact frst_at (fun j _ hj => decide_eq_false (hf j hj)) (decide_eq_true he) (Nat.zero_le _) (by omega)
theorem per_no {n : Nat} (hd : ∀ j, j ≤ n → ¬ dupP G j) : ¬ perP G n := fun ⟨k, h1, h2⟩ => hd k h1 h2
theorem dup_no (h : ∀ j, j < k → G j ≠ G k) : ¬ dupP G k := fun ⟨i, h1, h2⟩ => h i h1 h2
/-- The fields so far. -/
def famG (r c : Int) (G : Nat → List Int) (n : Nat) : List FdL := (List.range n).map fun i => ⟨r, c, G i⟩
theorem famG_len {r c : Int} {n : Nat} : (famG r c G n).length = n := by simp [famG]
theorem famG_at {r c : Int} {n : Nat} {i : Int} (h0 : 0 ≤ i) (h : i < n) : at_ fd0 (famG r c G n) i = ⟨r, c, G i.toNat⟩ := by
  obtain ⟨m, rfl⟩ := Int.eq_ofNat_of_zero_le h0
  rw [at_eq fd0 _ (by rw [famG_len]; omega)]
  simp [famG]
theorem famG_succ {r c : Int} {n : Nat} : famG r c G n ++ [⟨r, c, G n⟩] = famG r c G (n + 1) := by simp [famG, List.range_succ]
/-- The keys so far. -/
def mapG (G : Nat → List Int) (n : Nat) : List (ByteArray × Int) := (List.range n).map fun i => (bytesS .empty (G i), (i : Int))
theorem mapG_succ {n : Nat} : mapG G n ++ [(bytesS .empty (G n), (n : Int))] = mapG G (n + 1) := by simp [mapG, List.range_succ]
theorem mget_skip {x : ByteArray} : ∀ {ms ns : List (ByteArray × Int)}, (∀ m ∈ ms, x ≠ m.1) → mget x (ms ++ ns) = mget x ns
  | [], _, _ => rfl
  | m :: ms, ns, h => by
    show (bif x == m.1 then some m.2 else mget x (ms ++ ns)) = _
    rw [beq_bytes, decide_eq_false (h m (by simp)), cond_false]
    exact mget_skip (fun y hy => h y (by simp [hy]))
theorem range_split {n i : Nat} (h : i < n) : List.range n = List.range i ++ i :: (List.range (n - i - 1)).map (fun j => i + 1 + j) := by
  apply List.ext_getElem
  · simp; omega
  · intro j h1 h2
    simp only [List.length_range] at h1
    rw [List.getElem_range]
    by_cases g : j < i
    · rw [List.getElem_append_left (by simpa using g)]; simp
    · rw [List.getElem_append_right (by simpa using g)]
      simp only [List.length_range]
      by_cases e : j = i
      · subst e; simp
      · obtain ⟨d, rfl⟩ : ∃ d, j = i + 1 + d := ⟨j - i - 1, by omega⟩
        have e2 : i + 1 + d - i = d + 1 := by omega
        simp only [e2, List.getElem_cons_succ, List.getElem_map, List.getElem_range]
theorem mget_at {n i k : Nat} (hb : ∀ j, ∀ x ∈ G j, 0 ≤ x ∧ x ≤ 255) (hi : i < n) (he : G i = G k) (hf : ∀ j, j < i → G j ≠ G k) : mget (bytesS .empty (G k)) (mapG G n) = some (i : Int) := by
  unfold mapG
  rw [range_split hi, List.map_append, List.map_cons, mget_skip (fun m hm => by
    simp only [List.mem_map, List.mem_range] at hm
    obtain ⟨j, hj, rfl⟩ := hm
    intro h
    exact hf j hj (bytesS_inj (hb k) (hb j) h).symm)]
  show (bif bytesS .empty (G k) == bytesS .empty (G i) then some (i : Int) else _) = _
  rw [he, beq_bytes, decide_eq_true rfl, cond_true]
theorem mget_none {n k : Nat} (hb : ∀ j, ∀ x ∈ G j, 0 ≤ x ∧ x ≤ 255) (hf : ∀ j, j < n → G j ≠ G k) : mget (bytesS .empty (G k)) (mapG G n) = none := by
  have := mget_skip (x := bytesS .empty (G k)) (ms := mapG G n) (ns := []) (fun m hm => by
    simp only [mapG, List.mem_map, List.mem_range] at hm
    obtain ⟨j, hj, rfl⟩ := hm
    intro h
    exact hf j hj (bytesS_inj (hb k) (hb j) h).symm)
  rw [List.append_nil] at this
  exact this
theorem mget_some {n k : Nat} (hb : ∀ j, ∀ x ∈ G j, 0 ≤ x ∧ x ≤ 255) (h : (mget (bytesS .empty (G k)) (mapG G n)).isSome = true) : ∃ i, i < n ∧ G i = G k ∧ (∀ j, j < i → G j ≠ G k) ∧ (mget (bytesS .empty (G k)) (mapG G n)).getD 0 = (i : Int) := by
  by_cases hd : ∃ i, i < n ∧ G i = G k
  · have key : ∀ m, m ≤ n → (∀ j, j < m → G j ≠ G k) ∨ ∃ i, i < m ∧ G i = G k ∧ ∀ j, j < i → G j ≠ G k := by
      intro m
      induction m with
      | zero => intro _; exact .inl (fun j hj => by omega)
      | succ m ih =>
        intro hm
        rcases ih (by omega) with h1 | ⟨i, h1, h2, h3⟩
        · by_cases e : G m = G k
          · exact .inr ⟨m, by omega, e, h1⟩
          · exact .inl (fun j hj => by
              by_cases ej : j = m
              · subst ej; exact e
              · exact h1 j (by omega))
        · exact .inr ⟨i, by omega, h2, h3⟩
    rcases key n (Nat.le_refl _) with h1 | ⟨i, h1, h2, h3⟩
    · obtain ⟨i, h2, h3⟩ := hd
      exact absurd h3 (h1 i h2)
    · exact ⟨i, h1, h2, h3, by rw [mget_at hb h1 h2 h3]; rfl⟩
  · rw [mget_none hb (fun j hj e => hd ⟨j, hj, e⟩)] at h
    simp at h
theorem mget_not {n k : Nat} (hb : ∀ j, ∀ x ∈ G j, 0 ≤ x ∧ x ≤ 255) (h : (mget (bytesS .empty (G k)) (mapG G n)).isSome = false) : (∀ j, j < n → G j ≠ G k) ∧ mget (bytesS .empty (G k)) (mapG G n) = none := by
  have h2 : mget (bytesS .empty (G k)) (mapG G n) = none := by
    cases hm : mget (bytesS .empty (G k)) (mapG G n) with
    | none => rfl
    | some x => rw [hm] at h; simp at h
  refine ⟨fun j hj e => ?_, h2⟩
  have key : ∀ m, m ≤ j → (∀ i, i < m → G i ≠ G k) ∨ ∃ i, i < n ∧ G i = G k ∧ ∀ l, l < i → G l ≠ G k := by
    intro m
    induction m with
    | zero => intro _; exact .inl (fun i hi => by omega)
    | succ m ih =>
      intro hm
      rcases ih (by omega) with h1 | h1
      · by_cases e : G m = G k
        · exact .inr ⟨m, by omega, e, h1⟩
        · exact .inl (fun i hi => by
            by_cases ei : i = m
            · subst ei; exact e
            · exact h1 i (by omega))
      · exact .inr h1
  rcases key j (Nat.le_refl _) with h1 | ⟨i, h1, h3, h4⟩
  · rw [mget_at hb hj e h1] at h2; simp at h2
  · rw [mget_at hb h1 h3 h4] at h2; simp at h2
end
end Go.Proofs.Ythbffbpdoankjaa
