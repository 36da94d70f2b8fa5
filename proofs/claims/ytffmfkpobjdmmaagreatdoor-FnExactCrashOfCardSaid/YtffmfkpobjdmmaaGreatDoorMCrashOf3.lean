/- Several texts in one. -/
import Derived.Test.YtffmfkpobjdmmaaGreatDoorMCrashOf2
import Derived.Test.YtffmfkpobjdmmaaGreatDoorMCrashOf1
/- Names of fields: the least text of the trimmed field's images: plain law. -/
namespace Go.Proofs.YtffmfkpobjdmmaaGreatDoor
open HL
set_option maxRecDepth 100000
theorem bytesLess_tri : ∀ a b : List UInt8, Op.bytesLess b a = !(Op.bytesLess a b || a == b)
  | [], [] => rfl
  | [], _ :: _ => rfl
  | _ :: _, [] => rfl
  | x :: a, y :: b => by
    have ih := bytesLess_tri a b
    simp only [Op.bytesLess, ih, List.cons_beq_cons]
    rcases Nat.lt_trichotomy x.toNat y.toNat with h | h | h
    · have h1 : x < y := UInt8.lt_iff_toNat_lt.mpr h
      have h2 : ¬ y < x := fun g => by have := UInt8.lt_iff_toNat_lt.mp g; omega
      have h3 : ¬ y = x := fun g => by subst g; omega
      simp [h1, h2, h3]
    · obtain rfl : x = y := UInt8.toNat_inj.mp h
      have h2 : ¬ x < x := fun g => by have := UInt8.lt_iff_toNat_lt.mp g; omega
      simp [h2]
    · have h1 : y < x := UInt8.lt_iff_toNat_lt.mpr h
      have h2 : ¬ x < y := fun g => by have := UInt8.lt_iff_toNat_lt.mp g; omega
      have h3 : ¬ x = y := fun g => by subst g; omega
      simp [h1, h2, h3]
/-- The lesser of two texts. -/
def minT (m x : List UInt8) : List UInt8 := if Op.bytesLess x m = true then x else m
/-- The least of some texts. -/
def minF : List (List UInt8) → List UInt8
  | [] => []
  | a :: r => r.foldl minT a
theorem minF_snoc (ls : List (List UInt8)) (x : List UInt8) (h : ls ≠ []) : minF (ls ++ [x]) = minT (minF ls) x := by
  cases ls with
  | nil => exact absurd rfl h
  | cons a r => simp [minF]
theorem min_tr {P : Program} {H : Hp} {K : Value → Hp → Prop} {ts : Array TypeId} {t : TypeId} {bs : Array Bool} {m x : List UInt8} (h : K (vS (minT m x)) H) : hp P (builtin .min ts t bs #[vS m, vS x]) H (nextH P K) := by
  have e : hp P (builtin .min ts t bs #[vS m, vS x]) H (nextH P K) = K (.string (if (Op.bytesLess (tS m).toList (tS x).toList || (tS m).toList == (tS x).toList) = true then tS m else tS x)) H := rfl
  rw [e]
  simp only [tS_toList]
  have : (if (Op.bytesLess m x || m == x) = true then tS m else tS x) = tS (minT m x) := by
    unfold minT
    rw [bytesLess_tri m x]
    cases Op.bytesLess m x || m == x <;> rfl
  rw [this]
  exact h
section
variable {r c : Int} {l : List Int}
theorem trF_ok (h : fieldN 1 r c l) (hb : 0 ≤ (trm r c l).2.1) : fieldN 1 (trR r c l) (trC r c l) (trL r c l) := by
  obtain ⟨h1, h2, h3, h4, h5, h6⟩ := trm_bnd h.1 hb
  have hs := h.1
  obtain ⟨⟨_, _⟩, _, _⟩ := hs
  refine ⟨⟨⟨h3, by omega⟩, h4, by omega⟩, ?_, fun x hx => ?_⟩
  · unfold trL; exact mkL_len (by omega) (by omega)
  · simp only [trL, mkL, List.mem_map] at hx
    obtain ⟨t, _, rfl⟩ := hx
    exact at_01 h.2.2 _
end
/-- The text of a field. -/
def ftx (f : FdL) : List UInt8 := fieldT f.r f.c f.l
/-- The trimmed field. -/
def tmF (r c : Int) (l : List Int) : FdL := ⟨trR r c l, trC r c l, trL r c l⟩
def imF (f : FdL) (i : Nat) : FdL := imK (imB f (i / 4)) (i % 4)
theorem imF_ok {f : FdL} (h : okF f) (i : Nat) : okF (imF f i) := imK_ok (imB_ok h _) _
theorem imF_at {f : FdL} {n i : Nat} (h : i < n) : at_ fd0 (imgs f n) (i : Int) = ⟨(imF f i).r, (imF f i).c, (imF f i).l⟩ := by
  rw [at_eq fd0 (imgs f n) (by rw [imgs_len]; omega)]
  simp [imgs, imF]
def imT (f : FdL) (n : Nat) : List (List UInt8) := (List.range n).map fun i => ftx (imF f i)
theorem imT_len {f : FdL} {n : Nat} : (imT f n).length = n := by simp [imT]
theorem imT_succ {f : FdL} {n : Nat} : imT f (n + 1) = imT f n ++ [fieldT (imF f n).r (imF f n).c (imF f n).l] := by simp [imT, List.range_succ, ftx]
theorem minF_next {f : FdL} {n : Nat} (h : 0 < n) : minF (imT f (n + 1)) = minT (minF (imT f n)) (fieldT (imF f n).r (imF f n).c (imF f n).l) := by
  rw [imT_succ]
  exact minF_snoc _ _ (fun e => by have := congrArg List.length e; rw [imT_len] at this; simp at this; omega)
theorem minF_first {f : FdL} {n : Nat} (h : n = 0) : minF (imT f (n + 1)) = fieldT (imF f n).r (imF f n).c (imF f n).l := by
  subst h; rfl
theorem minT_t {m x : List UInt8} (h : Op.bytesLess x m = true) : minT m x = x := if_pos h
theorem minT_f {m x : List UInt8} (h : ¬ Op.bytesLess x m = true) : minT m x = m := if_neg h
/-- The least of the first texts. -/
theorem minF_take {ls : List (List UInt8)} {t : Nat} (h0 : 1 ≤ t) (h : t < ls.length) : minF (ls.take (t + 1)) = minT (minF (ls.take t)) (at_ [] ls (t : Int)) := by
  rw [take_at [] ls h]
  exact minF_snoc _ _ (fun e => by have := congrArg List.length e; simp only [List.length_take, List.length_nil] at this; omega)
theorem minF_take1 {ls : List (List UInt8)} (h : 1 ≤ ls.length) : minF (ls.take 1) = at_ [] ls 0 := by
  cases ls with
  | nil => simp at h
  | cons a r => rfl
/-- A field's name. -/
def nameT (r c : Int) (l : List Int) : List UInt8 := if 0 ≤ (trm r c l).2.1 then minF (imT (tmF r c l) 8) else []
theorem nameT_t {r c : Int} {l : List Int} (h : 0 ≤ (trm r c l).2.1) : nameT r c l = minF (imT (tmF r c l) 8) := if_pos h
theorem nameT_f {r c : Int} {l : List Int} (h : (trm r c l).2.1 < 0) : nameT r c l = [] := if_neg (by omega)
end Go.Proofs.YtffmfkpobjdmmaaGreatDoor
/- A census: plain law. Names in rising order, each with how often it stands. -/
namespace Go.Proofs.YtffmfkpobjdmmaaGreatDoor
open HL
set_option maxRecDepth 100000
abbrev Txt := List UInt8
def LtT (a b : Txt) : Prop := Op.bytesLess a b = true
theorem less_lt : ∀ a b : Txt, Op.bytesLess a b = decide (a < b)
  | [], [] => rfl
  | [], _ :: _ => rfl
  | _ :: _, [] => rfl
  | x :: a, y :: b => by
    have ih := less_lt a b
    simp only [Op.bytesLess, ih, List.cons_lt_cons_iff]
    by_cases h1 : x < y <;> by_cases h2 : x = y <;> simp [h1, h2]
theorem ltT_iff {a b : Txt} : LtT a b ↔ a < b := by unfold LtT; rw [less_lt]; simp
theorem ltT_irr (a : Txt) : ¬ LtT a a := fun h => List.lt_irrefl a (ltT_iff.mp h)
theorem ltT_trans {a b c : Txt} (h : LtT a b) (h' : LtT b c) : LtT a c := ltT_iff.mpr (List.lt_trans (ltT_iff.mp h) (ltT_iff.mp h'))
theorem ltT_tri {a b : Txt} (h : ¬ LtT a b) (h' : a ≠ b) : LtT b a := by
  unfold LtT at *
  rw [bytesLess_tri a b]
  simp [h, h']
theorem ltT_ne {a b : Txt} (h : LtT a b) : a ≠ b := fun e => ltT_irr a (e ▸ h)
/-- The names of a list, rising, with how often each stands there. -/
structure Cen (ns : List Txt) (cs : List Int) (L : List Txt) : Prop where
  srt : ns.Pairwise LtT
  mem : ∀ x, x ∈ ns ↔ x ∈ L
  cnt : cs = ns.map fun x => (L.count x : Int)
theorem cen_nil : Cen [] [] [] := ⟨List.Pairwise.nil, fun _ => Iff.rfl, rfl⟩
section
variable {A B : List Txt} {b x : Txt} {cs : List Int} {ns L : List Txt}
theorem Cen.len (h : Cen ns cs L) : cs.length = ns.length := by rw [h.cnt]; simp
theorem Cen.nodup (h : Cen ns cs L) : ns.Nodup := h.srt.imp fun hab => ltT_ne hab
theorem Cen.le (h : Cen ns cs L) : ns.length ≤ L.length := by
  have : ns ⊆ L := fun x hx => (h.mem x).mp hx
  exact h.nodup.length_le_of_subset this
theorem Cen.bnd (h : Cen ns cs L) {c : Int} (hc : c ∈ cs) : 0 ≤ c ∧ c ≤ L.length := by
  rw [h.cnt] at hc
  obtain ⟨x, _, rfl⟩ := List.mem_map.mp hc
  have := List.count_le_length (a := x) (l := L)
  omega
theorem map_ne {C : List Txt} (h : ∀ a ∈ C, a ≠ x) : (C.map fun y => (L.count y : Int)) = C.map fun y => ((L ++ [x]).count y : Int) := by
  refine List.map_congr_left fun a ha => ?_
  rw [List.count_append, List.count_singleton]
  have : ¬ x = a := fun e => h a ha e.symm
  simp [this]
theorem cen_hit (h : Cen (A ++ b :: B) cs L) (hb : b = x) : Cen (A ++ b :: B) (cs.set A.length (at_ 0 cs (A.length : Int) + 1)) (L ++ [x]) := by
  subst hb
  have hs := h.srt
  rw [List.pairwise_append] at hs
  obtain ⟨_, hB, hAB⟩ := hs
  rw [List.pairwise_cons] at hB
  have hA' : ∀ a ∈ A, a ≠ b := fun a ha => ltT_ne (hAB a ha b (by simp))
  have hB' : ∀ a ∈ B, a ≠ b := fun a ha => (ltT_ne (hB.1 a ha)).symm
  refine ⟨h.srt, fun y => ?_, ?_⟩
  · rw [h.mem y, List.mem_append, List.mem_singleton]
    refine ⟨.inl, fun hy => ?_⟩
    rcases hy with hy | rfl
    · exact hy
    · exact (h.mem y).mp (by simp)
  · have hat : at_ 0 cs (A.length : Int) = (L.count b : Int) := by
      rw [h.cnt, at_eq 0 _ (by simp)]
      simp
    rw [hat, h.cnt]
    simp only [List.map_append, List.map_cons]
    rw [map_ne hA', map_ne hB', List.set_append_right _ _ (by simp)]
    simp only [List.length_map, Nat.sub_self, List.set_cons_zero]
    congr 2
    rw [List.count_append, List.count_singleton]
    simp
theorem cen_new (h : Cen (A ++ B) cs L) (hA : ∀ a ∈ A, LtT a x) (hB : ∀ b ∈ B, LtT x b) : Cen (A ++ [x] ++ B) (cs.take A.length ++ [1] ++ cs.drop A.length) (L ++ [x]) := by
  have hs := h.srt
  rw [List.pairwise_append] at hs
  obtain ⟨h1, h2, h3⟩ := hs
  have hA' : ∀ a ∈ A, a ≠ x := fun a ha => ltT_ne (hA a ha)
  have hB' : ∀ a ∈ B, a ≠ x := fun a ha => (ltT_ne (hB a ha)).symm
  have hx : x ∉ L := fun hx => by
    rcases List.mem_append.mp ((h.mem x).mpr hx) with h | h
    · exact hA' x h rfl
    · exact hB' x h rfl
  refine ⟨?_, fun y => ?_, ?_⟩
  · rw [List.append_assoc, List.pairwise_append]
    refine ⟨h1, ?_, fun a ha y hy => ?_⟩
    · rw [List.singleton_append, List.pairwise_cons]; exact ⟨hB, h2⟩
    · rw [List.singleton_append, List.mem_cons] at hy
      rcases hy with rfl | hy
      · exact hA a ha
      · exact h3 a ha y hy
  · have := h.mem y
    simp only [List.mem_append, List.mem_singleton] at this ⊢
    rw [← this]
    constructor
    · rintro ((h | h) | h)
      · exact .inl (.inl h)
      · exact .inr h
      · exact .inl (.inr h)
    · rintro ((h | h) | h)
      · exact .inl (.inl h)
      · exact .inr h
      · exact .inl (.inr h)
  · rw [h.cnt]
    simp only [List.map_append, List.map_cons, List.map_nil]
    rw [List.take_append_of_le_length (by simp), List.take_of_length_le (by simp), List.drop_append_of_le_length (by simp), List.drop_of_length_le (by simp), List.nil_append, ← map_ne hA', ← map_ne hB']
    congr 2
    rw [List.count_append, List.count_singleton, List.count_eq_zero.mpr hx]
    simp
end
section
variable {x : Txt} {cs : List Int} {ns L : List Txt} {p : Nat}
/-- One more name, at its place. -/
theorem cen_at_hit (h : Cen ns cs L) (hp : p < ns.length) (hx : at_ [] ns (p : Int) = x) : Cen ns (cs.set p (at_ 0 cs (p : Int) + 1)) (L ++ [x]) := by
  have e : ns = ns.take p ++ at_ [] ns (p : Int) :: ns.drop (p + 1) := by rw [at_eq [] ns hp]; simp
  have hl : (ns.take p).length = p := by rw [List.length_take]; omega
  rw [e] at h ⊢
  have := cen_hit h hx
  rw [hl] at this
  exact this
theorem cen_at_new (h : Cen ns cs L) (hp : p ≤ ns.length) (hA : ∀ j, j < p → LtT (at_ [] ns (j : Int)) x) (hB : p < ns.length → ¬ LtT (at_ [] ns (p : Int)) x ∧ at_ [] ns (p : Int) ≠ x) : Cen (ns.take p ++ [x] ++ ns.drop p) (cs.take p ++ [1] ++ cs.drop p) (L ++ [x]) := by
  have hl : (ns.take p).length = p := by rw [List.length_take]; omega
  have hs := h.srt
  rw [← List.take_append_drop p ns] at h
  have := cen_new h (x := x) (fun a ha => ?_) (fun b hb => ?_)
  · rw [hl] at this; exact this
  · obtain ⟨j, hj, rfl⟩ := List.getElem_of_mem ha
    rw [hl] at hj
    have := hA j hj
    rw [at_eq [] ns (by omega)] at this
    rw [List.getElem_take]
    exact this
  · obtain ⟨j, hj, rfl⟩ := List.getElem_of_mem hb
    rw [List.length_drop] at hj
    obtain ⟨h1, h2⟩ := hB (by omega)
    have h3 := ltT_tri h1 h2
    rw [at_eq [] ns (by omega)] at h3
    rw [List.getElem_drop]
    rcases Nat.eq_zero_or_pos j with rfl | hj0
    · exact h3
    · exact ltT_trans h3 (List.pairwise_iff_getElem.mp hs p (p + j) (by omega) (by omega) (by omega))
/-- The names are told by what stands in the list, not by its order. -/
theorem cen_uni {ns' L' : List Txt} {cs' : List Int} (h : Cen ns cs L) (h' : Cen ns' cs' L') (hp : L.Perm L') : ns = ns' ∧ cs = cs' := by
  have e : ns = ns' := by
    refine List.Perm.eq_of_pairwise (le := LtT) (fun a b _ _ h1 h2 => absurd (ltT_trans h1 h2) (ltT_irr a)) h.srt h'.srt ?_
    rw [List.perm_ext_iff_of_nodup h.nodup h'.nodup]
    intro a
    rw [h.mem a, h'.mem a]
    exact hp.mem_iff
  subst e
  refine ⟨rfl, ?_⟩
  rw [h.cnt, h'.cnt]
  exact List.map_congr_left fun a _ => by rw [hp.count_eq]
end
theorem cen_ex : ∀ L : List Txt, ∃ ns cs, Cen ns cs L := by
  intro L
  induction hn : L.length generalizing L with
  | zero => obtain rfl := List.length_eq_zero_iff.mp hn; exact ⟨[], [], cen_nil⟩
  | succ n ih =>
    obtain ⟨M, x, rfl⟩ : ∃ M x, L = M ++ [x] := ⟨L.dropLast, L.getLast (by intro e; rw [e] at hn; simp at hn), (List.dropLast_concat_getLast _).symm⟩
    obtain ⟨ns, cs, h⟩ := ih M (by simpa using hn)
    have hp : ∃ p, p ≤ ns.length ∧ (∀ j, j < p → LtT (at_ [] ns (j : Int)) x) ∧ (p < ns.length → ¬ LtT (at_ [] ns (p : Int)) x) := by
      have : ∀ k, k ≤ ns.length → (∀ j, j < k → LtT (at_ [] ns (j : Int)) x) ∨ ∃ p, p ≤ ns.length ∧ (∀ j, j < p → LtT (at_ [] ns (j : Int)) x) ∧ (p < ns.length → ¬ LtT (at_ [] ns (p : Int)) x) := by
        intro k
        induction k with
        | zero => intro _; exact .inl (fun j hj => absurd hj (by omega))
        | succ k ihk =>
          intro hk
          rcases ihk (by omega) with h1 | h1
          · by_cases hx : LtT (at_ [] ns (k : Int)) x
            · exact .inl fun j hj => by
                rcases Nat.lt_or_ge j k with h2 | h2
                · exact h1 j h2
                · obtain rfl : j = k := by omega
                  exact hx
            · exact .inr ⟨k, by omega, h1, fun _ => hx⟩
          · exact .inr h1
      rcases this ns.length (Nat.le_refl _) with h1 | h1
      · exact ⟨ns.length, Nat.le_refl _, h1, fun h => absurd h (by omega)⟩
      · exact h1
    obtain ⟨p, hp1, hp2, hp3⟩ := hp
    by_cases hx : p < ns.length ∧ at_ [] ns (p : Int) = x
    · exact ⟨_, _, cen_at_hit h hx.1 hx.2⟩
    · exact ⟨_, _, cen_at_new h hp1 hp2 fun hp => ⟨hp3 hp, fun e => hx ⟨hp, e⟩⟩⟩
noncomputable def cenN (L : List Txt) : List Txt := Classical.choose (cen_ex L)
noncomputable def cenC (L : List Txt) : List Int := Classical.choose (Classical.choose_spec (cen_ex L))
theorem cen_of (L : List Txt) : Cen (cenN L) (cenC L) L := Classical.choose_spec (Classical.choose_spec (cen_ex L))
theorem cen_eq {ns : List Txt} {cs : List Int} {L M : List Txt} (h : Cen ns cs L) (hp : L.Perm M) : ns = cenN M ∧ cs = cenC M := cen_uni h (cen_of M) hp
/-- The sorted list. -/
def srtT (L : List Txt) : List Txt := L.mergeSort fun x y => decide (x ≤ y)
theorem srtT_perm (L : List Txt) : (srtT L).Perm L := List.mergeSort_perm L _
theorem srtT_len (L : List Txt) : (srtT L).length = L.length := (srtT_perm L).length_eq
theorem srtT_le (L : List Txt) {i j : Nat} (hi : i < j) (hj : j < (srtT L).length) : ¬ LtT (at_ [] (srtT L) (j : Int)) (at_ [] (srtT L) (i : Int)) := by
  have h := List.pairwise_mergeSort (le := fun x y : Txt => decide (x ≤ y)) (fun a b c h1 h2 => by simp only [decide_eq_true_eq] at *; exact List.le_trans h1 h2) (fun a b => by simp only [Bool.or_eq_true, decide_eq_true_eq]; exact List.le_total a b) L
  have := List.pairwise_iff_getElem.mp h i j (by show i < (srtT L).length; omega) hj hi
  rw [at_eq [] _ hj, at_eq [] _ (by omega), ltT_iff]
  simp only [decide_eq_true_eq] at this
  exact List.not_lt.mpr this
end Go.Proofs.YtffmfkpobjdmmaaGreatDoor
/- Parts of a field, by plain law: what can be reached, starts, numbers. -/
namespace Go.Proofs.YtffmfkpobjdmmaaGreatDoor
open HL
set_option maxRecDepth 100000
/-- Cells side by side, or corner by corner; a cell and itself too. -/
def nbP (c : Int) (x y : Nat) : Prop := ((x : Int) / c - (y : Int) / c ≤ 1 ∧ (y : Int) / c - (x : Int) / c ≤ 1) ∧ (x : Int) % c - (y : Int) % c ≤ 1 ∧ (y : Int) % c - (x : Int) % c ≤ 1
theorem nbP_symm {c : Int} {x y : Nat} (h : nbP c x y) : nbP c y x := ⟨⟨h.1.2, h.1.1⟩, h.2.2, h.2.1⟩
/-- A cell of 1. -/
def onP (l : List Int) (x : Nat) : Prop := x < l.length ∧ at_ 0 l (x : Int) = 1
instance (l : List Int) (x : Nat) : Decidable (onP l x) := by unfold onP; infer_instance
/-- What can be reached from a cell. -/
inductive Rch (c : Int) (l : List Int) (s : Nat) : Nat → Prop
  | base : onP l s → Rch c l s s
  | step {x y : Nat} : Rch c l s x → nbP c x y → onP l y → Rch c l s y
section
variable {c : Int} {l : List Int} {s : Nat}
theorem Rch.on {x : Nat} (h : Rch c l s x) : onP l x ∧ onP l s := by
  induction h with
  | base h => exact ⟨h, h⟩
  | step _ _ hy ih => exact ⟨hy, ih.2⟩
theorem Rch.trans {x y : Nat} (h : Rch c l s x) (h2 : Rch c l x y) : Rch c l s y := by
  induction h2 with
  | base _ => exact h
  | step _ hn hy ih => exact ih.step hn hy
theorem Rch.symm {x : Nat} (h : Rch c l s x) : Rch c l x s := by
  induction h with
  | base h => exact .base h
  | step hx hn hy ih => exact ((Rch.base hy).step (nbP_symm hn) hx.on.1).trans ih
/-- A set that holds a cell, is sound and closed, is what can be reached. -/
theorem Rch_set {C : Nat → Prop} (hs : C s) (sd : ∀ x, C x → Rch c l s x) (cl : ∀ x y, C x → nbP c x y → onP l y → C y) (x : Nat) : C x ↔ Rch c l s x := by
  constructor
  · exact sd x
  · intro h
    induction h with
    | base _ => exact hs
    | step _ hn hy ih => exact cl _ _ ih hn hy
end
open Classical in
/-- The starts among the first cells. -/
noncomputable def stsL (c : Int) (l : List Int) : Nat → List Nat
  | 0 => []
  | i + 1 => if onP l i ∧ ∀ s ∈ stsL c l i, ¬ Rch c l s i then stsL c l i ++ [i] else stsL c l i
open Classical in
/-- A part alone. -/
noncomputable def aloL (c : Int) (l : List Int) (s : Nat) : List Int := (List.range l.length).map fun x => if Rch c l s x then 1 else 0
open Classical in
/-- The number of a cell's part; 0: none. -/
noncomputable def nuN (c : Int) (l : List Int) : List Nat → Nat → Int
  | [], _ => 0
  | s :: L, x => if Rch c l s x then 1 else if nuN c l L x = 0 then 0 else nuN c l L x + 1
section
variable {c : Int} {l : List Int}
theorem aloL_len (s : Nat) : (aloL c l s).length = l.length := by simp [aloL]
theorem stsL_on : ∀ {i s : Nat}, s ∈ stsL c l i → onP l s ∧ s < i
  | 0, s, h => by simp [stsL] at h
  | i + 1, s, h => by
    unfold stsL at h
    split at h
    · rename_i hc
      rcases List.mem_append.mp h with h | h
      · have := stsL_on h; exact ⟨this.1, by omega⟩
      · simp only [List.mem_singleton] at h; subst h; exact ⟨hc.1, by omega⟩
    · have := stsL_on h; exact ⟨this.1, by omega⟩
theorem nuN_zero : ∀ {L : List Nat} {x : Nat}, nuN c l L x = 0 ↔ ∀ s ∈ L, ¬ Rch c l s x
  | [], x => by simp [nuN]
  | s :: L, x => by
    have ih := nuN_zero (L := L) (x := x)
    have pos : ∀ L : List Nat, 0 ≤ nuN c l L x := by
      intro L
      induction L with
      | nil => simp [nuN]
      | cons a L ih => unfold nuN; split <;> (try split) <;> omega
    have := pos L
    unfold nuN
    by_cases h : Rch c l s x
    · rw [if_pos h]
      constructor
      · intro g; omega
      · intro g; exact absurd h (g s (by simp))
    · rw [if_neg h]
      by_cases h2 : nuN c l L x = 0
      · rw [if_pos h2]
        constructor
        · intro _ a ha
          rcases List.mem_cons.mp ha with rfl | ha
          · exact h
          · exact ih.mp h2 a ha
        · intro _; rfl
      · rw [if_neg h2]
        constructor
        · intro g; omega
        · intro g; exact absurd (ih.mpr (fun a ha => g a (by simp [ha]))) h2
open Classical in
/-- One more start behind the others. -/
theorem nuN_snoc {x t : Nat} : ∀ {L : List Nat}, nuN c l (L ++ [t]) x = if nuN c l L x = 0 then (if Rch c l t x then (L.length : Int) + 1 else 0) else nuN c l L x
  | [] => by
    simp only [List.nil_append, nuN, if_true, List.length_nil]
    by_cases h : Rch c l t x
    · simp [h]
    · simp [h]
  | s :: L => by
    have ih := nuN_snoc (x := x) (t := t) (L := L)
    have p0 : 0 ≤ nuN c l L x := by
      clear ih
      induction L with
      | nil => simp [nuN]
      | cons a L ih => unfold nuN; split <;> (try split) <;> omega
    simp only [List.cons_append, nuN, List.length_cons]
    by_cases h : Rch c l s x
    · rw [if_pos h, if_pos h, if_neg (by omega)]
    · rw [if_neg h, if_neg h, ih]
      by_cases h2 : nuN c l L x = 0
      · rw [if_pos h2]
        simp only [h2, if_true]
        by_cases h3 : Rch c l t x
        · rw [if_pos h3, if_pos h3, if_neg (by omega)]; omega
        · rw [if_neg h3, if_neg h3, if_pos rfl]
      · rw [if_neg h2, if_neg h2, if_neg (by omega)]
end
theorem nodup_len : ∀ (N : Nat) (ls : List Int), ls.Nodup → (∀ x ∈ ls, 0 ≤ x ∧ x < (N : Int)) → ls.length ≤ N
  | 0, ls, _, h => by
    cases ls with
    | nil => simp
    | cons a ls => have := h a (by simp); omega
  | N + 1, ls, hn, h => by
    by_cases hm : (N : Int) ∈ ls
    · obtain ⟨a, b, rfl⟩ := List.append_of_mem hm
      have h1 : (a ++ b).Nodup := by
        have := List.nodup_append.mp hn
        have h2 := List.nodup_cons.mp this.2.1
        exact List.nodup_append.mpr ⟨this.1, h2.2, fun x hx y hy => this.2.2 x hx y (by simp [hy])⟩
      have h3 : ∀ x ∈ a ++ b, x ≠ (N : Int) := by
        have := List.nodup_append.mp hn
        have h2 := List.nodup_cons.mp this.2.1
        intro x hx e
        subst e
        rcases List.mem_append.mp hx with g | g
        · exact this.2.2 _ g _ (by simp) rfl
        · exact h2.1 g
      have := nodup_len N (a ++ b) h1 (fun x hx => by
        have g := h x (by rcases List.mem_append.mp hx with g | g <;> simp [g])
        have := h3 x hx
        omega)
      simp at this ⊢; omega
    · have := nodup_len N ls hn (fun x hx => by
        have g := h x hx
        have : x ≠ (N : Int) := fun e => hm (e ▸ hx)
        omega)
      omega
open Classical in
/-- Which cells are reached from a list of starts, or are in a list. -/
noncomputable def tkB (c : Int) (l : List Int) (L : List Nat) (ls : List Int) : List Bool := (List.range l.length).map fun x => decide ((∃ s ∈ L, Rch c l s x) ∨ (x : Int) ∈ ls)
open Classical in
noncomputable def indL (l ls : List Int) : List Int := (List.range l.length).map fun (x : Nat) => if (x : Int) ∈ ls then 1 else 0
section
variable {c : Int} {l : List Int}
theorem stsL_t {i : Nat} (h : onP l i) (hn : ∀ s ∈ stsL c l i, ¬ Rch c l s i) : stsL c l (i + 1) = stsL c l i ++ [i] := by
  conv => lhs; unfold stsL
  rw [if_pos ⟨h, hn⟩]
theorem stsL_f {i : Nat} (h : ¬ (onP l i ∧ ∀ s ∈ stsL c l i, ¬ Rch c l s i)) : stsL c l (i + 1) = stsL c l i := by
  conv => lhs; unfold stsL
  rw [if_neg h]
theorem tkB_len {L : List Nat} {ls : List Int} : (tkB c l L ls).length = l.length := by simp [tkB]
theorem indL_len {ls : List Int} : (indL l ls).length = l.length := by simp [indL]
/-- A flood that has come to its end. -/
theorem flood_end {i : Nat} {ls : List Int} (hi : (i : Int) ∈ ls) (sd : ∀ x ∈ ls, ∃ k : Nat, x = (k : Int) ∧ Rch c l i k) (cl : ∀ x y : Nat, (x : Int) ∈ ls → nbP c x y → onP l y → (y : Int) ∈ ls) (x : Nat) : (x : Int) ∈ ls ↔ Rch c l i x := by
  refine Rch_set (C := fun x : Nat => (x : Int) ∈ ls) hi (fun y hy => ?_) (fun y z h1 h2 h3 => cl y z h1 h2 h3) x
  obtain ⟨k, hk, hr⟩ := sd _ hy
  have : y = k := by omega
  subst this; exact hr
theorem tkB_end {i : Nat} {L : List Nat} {ls : List Int} (h : ∀ x : Nat, (x : Int) ∈ ls ↔ Rch c l i x) : tkB c l L ls = tkB c l (L ++ [i]) [] := by
  unfold tkB
  apply List.map_congr_left
  intro x _
  apply decide_eq_decide.mpr
  rw [h x]
  constructor
  · rintro (⟨s, h1, h2⟩ | h1)
    · exact .inl ⟨s, by simp [h1], h2⟩
    · exact .inl ⟨i, by simp, h1⟩
  · rintro (⟨s, h1, h2⟩ | h1)
    · rcases List.mem_append.mp h1 with h1 | h1
      · exact .inl ⟨s, h1, h2⟩
      · simp only [List.mem_singleton] at h1; subst h1; exact .inr h2
    · simp at h1
theorem indL_end {i : Nat} {ls : List Int} (h : ∀ x : Nat, (x : Int) ∈ ls ↔ Rch c l i x) : indL l ls = aloL c l i := by
  unfold indL aloL
  apply List.map_congr_left
  intro x _
  by_cases g : Rch c l i x
  · rw [if_pos ((h x).mpr g), if_pos g]
  · rw [if_neg (fun q => g ((h x).mp q)), if_neg g]
end
end Go.Proofs.YtffmfkpobjdmmaaGreatDoor
/- Parts of a field, by plain law: the rounds of a flood; parts and places. -/
namespace Go.Proofs.YtffmfkpobjdmmaaGreatDoor
open HL
set_option maxRecDepth 100000
/-- A flood from i: what is in the list, when t of it are told. -/
def flP (c : Int) (l : List Int) (i : Nat) (ls : List Int) (t : Nat) : Prop := (i : Int) ∈ ls ∧ (∀ x ∈ ls, ∃ k : Nat, x = (k : Int) ∧ Rch c l i k) ∧ ls.Nodup ∧ t ≤ ls.length ∧ ∀ x y : Nat, (x : Int) ∈ ls.take t → nbP c x y → onP l y → (y : Int) ∈ ls
/-- The cells around a place that come ahead of another are in the list. -/
def nbD (c : Int) (l ls : List Int) (row col a b : Int) : Prop := ∀ y : Nat, (row - (y : Int) / c ≤ 1 ∧ (y : Int) / c - row ≤ 1) → (col - (y : Int) % c ≤ 1 ∧ (y : Int) % c - col ≤ 1) → onP l y → ((y : Int) / c < a ∨ ((y : Int) / c = a ∧ (y : Int) % c < b)) → (y : Int) ∈ ls
theorem rc_bnd {r c x row col : Int} (hc : 1 ≤ c) (x0 : 0 ≤ x) (x1 : x < r * c) (hr : row = x / c) (hq : col = x % c) : 0 ≤ row ∧ row < r ∧ 0 ≤ col ∧ col < c := by
  subst hr hq
  exact ⟨Int.ediv_nonneg x0 (by omega), Int.ediv_lt_of_lt_mul (by omega) x1, Int.emod_nonneg _ (by omega), Int.emod_lt_of_pos _ (by omega)⟩
theorem pq_dm {r c p q : Int} (p0 : 0 ≤ p) (p1 : p ≤ r - 1) (q0 : 0 ≤ q) (q1 : q ≤ c - 1) : (0 ≤ p * c + q ∧ p * c + q < r * c) ∧ (0 ≤ p * c ∧ p * c ≤ r * c) ∧ (p * c + q) / c = p ∧ (p * c + q) % c = q := by
  have a := Int.mul_nonneg p0 (show 0 ≤ c by omega)
  have b := Int.mul_le_mul_of_nonneg_right (show p + 1 ≤ r by omega) (show 0 ≤ c by omega)
  rw [Int.add_mul, Int.one_mul] at b
  refine ⟨⟨by omega, by omega⟩, ⟨a, by omega⟩, ?_, ?_⟩
  · rw [Int.add_comm, Int.add_mul_ediv_right _ _ (by omega), Int.ediv_eq_zero_of_lt q0 (by omega), Int.zero_add]
  · rw [Int.add_comm, Int.add_mul_emod_self_right]; exact Int.emod_eq_of_lt q0 (by omega)
section
variable {c : Int} {l ls : List Int} {i t : Nat}
theorem flP_start (h : onP l i) : flP c l i [(i : Int)] 0 :=
  ⟨by simp, fun x hx => ⟨i, by simpa using hx, .base h⟩, by simp, by simp, fun x y hx => by simp at hx⟩
theorem flP_len (h : flP c l i ls t) : ls.length ≤ l.length ∧ ∀ x ∈ ls, 0 ≤ x ∧ x < (l.length : Int) := by
  have hb : ∀ x ∈ ls, 0 ≤ x ∧ x < (l.length : Int) := fun x hx => by
    obtain ⟨k, rfl, hr⟩ := h.2.1 x hx
    have := hr.on.1.1
    omega
  exact ⟨nodup_len _ _ h.2.2.1 hb, hb⟩
/-- One more cell. -/
theorem flP_put {x y : Nat} (h : flP c l i ls t) (hx : (x : Int) ∈ ls) (hn : nbP c x y) (hy : onP l y) (hy2 : (y : Int) ∉ ls) : flP c l i (ls ++ [(y : Int)]) t := by
  obtain ⟨h1, h2, h3, h4, h5⟩ := h
  refine ⟨by simp [h1], fun z hz => ?_, ?_, by simp; omega, fun z w hz hw ho => ?_⟩
  · rcases List.mem_append.mp hz with hz | hz
    · exact h2 z hz
    · simp only [List.mem_singleton] at hz
      obtain ⟨k, hk, hr⟩ := h2 _ hx
      have : x = k := by omega
      subst this
      exact ⟨y, hz, hr.step hn hy⟩
  · exact List.nodup_append.mpr ⟨h3, by simp, fun a ha b hb => by
      simp only [List.mem_singleton] at hb
      subst hb
      exact fun e => hy2 (e ▸ ha)⟩
  · rw [List.take_append_of_le_length h4] at hz
    exact List.mem_append_left _ (h5 z w hz hw ho)
/-- A cell whose neighbours are all told. -/
theorem flP_next (h : flP c l i ls t) (ht : t < ls.length) {row col : Int} (hr : row = at_ 0 ls (t : Int) / c) (hc : col = at_ 0 ls (t : Int) % c) (hd : nbD c l ls row col (row + 2) 0) : flP c l i ls (t + 1) := by
  obtain ⟨h1, h2, h3, h4, h5⟩ := h
  refine ⟨h1, h2, h3, by omega, fun x y hx hn ho => ?_⟩
  rw [take_at 0 ls ht] at hx
  rcases List.mem_append.mp hx with hx | hx
  · exact h5 x y hx hn ho
  · simp only [List.mem_singleton] at hx
    have hn1 := hn.1
    have hn2 := hn.2
    rw [hx] at hn1 hn2
    rw [← hr] at hn1
    rw [← hc] at hn2
    exact hd y hn1 hn2 ho (.inl (by omega))
theorem nbD_app {row col a b z : Int} (h : nbD c l ls row col a b) : nbD c l (ls ++ [z]) row col a b := fun y h1 h2 h3 h4 => List.mem_append_left _ (h y h1 h2 h3 h4)
/-- The next place in a row: told, or no cell of 1. -/
theorem nbD_next {row col p q : Int} (h : nbD c l ls row col p q) (hy : ∀ y : Nat, (y : Int) / c = p → (y : Int) % c = q → onP l y → (y : Int) ∈ ls) : nbD c l ls row col p (q + 1) := fun y h1 h2 h3 h4 => by
  by_cases e : (y : Int) / c = p ∧ (y : Int) % c = q
  · exact hy y e.1 e.2 h3
  · exact h y h1 h2 h3 (by omega)
theorem nbD_row {row col p : Int} (h : nbD c l ls row col p (col + 2)) (b : Int) (hb : b ≤ col - 1) : nbD c l ls row col (p + 1) b := fun y h1 h2 h3 h4 => by
  refine h y h1 h2 h3 ?_
  omega
theorem nbD_zero {row col : Int} : nbD c l ls row col (row - 1) (col - 1) := fun y h1 h2 h3 h4 => by omega
end
section
variable {c : Int} {l : List Int}
theorem stsL_len (i : Nat) : (stsL c l i).length ≤ i := by
  induction i with
  | zero => simp [stsL]
  | succ i ih =>
    unfold stsL; split
    · rw [List.length_append, List.length_singleton]; omega
    · omega
open Classical in
theorem tkB_at {L : List Nat} {ls : List Int} {y : Nat} (hy : y < l.length) : at_ false (tkB c l L ls) (y : Int) = decide ((∃ s ∈ L, Rch c l s y) ∨ (y : Int) ∈ ls) := by
  rw [at_eq false _ (by rw [tkB_len]; exact hy)]
  unfold tkB
  rw [List.getElem_map]
  exact decide_eq_decide.mpr (by rw [List.getElem_range])
open Classical in
theorem tkB_t {L : List Nat} {ls : List Int} {y : Nat} (hy : y < l.length) (h : at_ false (tkB c l L ls) (y : Int) = true) : (∃ s ∈ L, Rch c l s y) ∨ (y : Int) ∈ ls := by
  rw [tkB_at hy] at h; exact of_decide_eq_true h
open Classical in
theorem tkB_f {L : List Nat} {ls : List Int} {y : Nat} (hy : y < l.length) (h : at_ false (tkB c l L ls) (y : Int) = false) : (∀ s ∈ L, ¬ Rch c l s y) ∧ (y : Int) ∉ ls := by
  rw [tkB_at hy] at h
  have := of_decide_eq_false h
  exact ⟨fun s h1 h2 => this (.inl ⟨s, h1, h2⟩), fun h1 => this (.inr h1)⟩
theorem tkB_set {L : List Nat} {ls : List Int} {y : Nat} (hy : y < l.length) : (tkB c l L ls).set y true = tkB c l L (ls ++ [(y : Int)]) := by
  apply List.ext_getElem
  · rw [List.length_set, tkB_len, tkB_len]
  · intro j h1 h2
    simp only [tkB, List.getElem_set, List.getElem_map, List.getElem_range]
    by_cases e : y = j
    · subst e; rw [if_pos rfl]; simp
    · rw [if_neg e]
      apply decide_eq_decide.mpr
      have er : (List.range l.length)[j]'(by simpa [tkB_len] using h2) = j := List.getElem_range _
      rw [er]
      constructor
      · rintro (h | h)
        · exact .inl h
        · exact .inr (List.mem_append_left _ h)
      · rintro (h | h)
        · exact .inl h
        · rcases List.mem_append.mp h with h | h
          · exact .inr h
          · simp only [List.mem_singleton] at h; omega
theorem indL_set {ls : List Int} {t : Nat} (ht : t < ls.length) (h0 : 0 ≤ at_ 0 ls (t : Int)) (h1 : at_ 0 ls (t : Int) < l.length) : (indL l (ls.take t)).set (at_ 0 ls (t : Int)).toNat 1 = indL l (ls.take (t + 1)) := by
  obtain ⟨y, hy⟩ := Int.eq_ofNat_of_zero_le h0
  rw [take_at 0 ls ht, hy]
  apply List.ext_getElem
  · rw [List.length_set, indL_len, indL_len]
  · intro j g1 g2
    simp only [indL, List.getElem_set, List.getElem_map, List.getElem_range, Int.toNat_natCast]
    by_cases e : y = j
    · subst e; rw [if_pos rfl, if_pos (by simp)]
    · rw [if_neg e]
      by_cases m : (j : Int) ∈ ls.take t
      · rw [if_pos m, if_pos (by simp [m])]
      · rw [if_neg m, if_neg (by simp [m]; omega)]
theorem indL_nil : indL l [] = List.replicate l.length 0 := by
  apply List.ext_getElem
  · rw [indL_len, List.length_replicate]
  · intro j g1 g2
    simp [indL]
end
section
variable {c : Int} {l ls : List Int} {i t : Nat}
/-- A neighbour that is found is put behind the others. -/
theorem flP_found {row col xv y p q : Int} (h : flP c l i ls t) (ht : t < ls.length) (hx : at_ 0 ls (t : Int) = xv) (hr : row = xv / c) (hc : col = xv % c) (y0 : 0 ≤ y) (y1 : y < l.length) (hp : y / c = p) (hq : y % c = q) (rp : row - p ≤ 1 ∧ p - row ≤ 1) (cq : col - q ≤ 1 ∧ q - col ≤ 1) (on : at_ 0 l y = 1) (L : List Nat) (nt : at_ false (tkB c l L ls) y = false) (hd : nbD c l ls row col p q) :
    flP c l i (ls ++ [y]) t ∧ t < (ls ++ [y]).length ∧ (ls ++ [y]).take (t + 1) = ls.take (t + 1) ∧ at_ 0 (ls ++ [y]) (t : Int) = xv ∧ nbD c l (ls ++ [y]) row col p (q + 1) ∧ (tkB c l L ls).set y.toNat true = tkB c l L (ls ++ [y]) := by
  obtain ⟨Y, rfl⟩ := Int.eq_ofNat_of_zero_le y0
  have hm : xv ∈ ls := hx ▸ at_mem 0 ls (by omega) (by omega)
  obtain ⟨X, hX, _⟩ := h.2.1 xv hm
  have oY : onP l Y := ⟨by omega, on⟩
  have nY := (tkB_f (L := L) (by omega) nt).2
  have hn : nbP c X Y := by
    unfold nbP
    rw [← hX, ← hr, ← hc, hp, hq]
    exact ⟨rp, cq⟩
  refine ⟨flP_put h (x := X) (by rw [← hX]; exact hm) hn oY nY, by simp; omega, List.take_append_of_le_length (by omega), ?_, nbD_next (nbD_app hd) (fun z hz1 hz2 _ => ?_), by rw [Int.toNat_natCast]; exact tkB_set (by omega)⟩
  · rw [at_eq 0 _ (by simp; omega), List.getElem_append_left ht, ← at_eq 0 ls ht]; exact hx
  · have e1 := Int.emod_add_mul_ediv (z : Int) c
    have e2 := Int.emod_add_mul_ediv (Y : Int) c
    rw [hz1, hz2] at e1
    rw [hp, hq] at e2
    have : (z : Int) = (Y : Int) := by rw [← e1, ← e2]
    rw [this]; simp
/-- A place that is no cell of 1, taken, or out of the field. -/
theorem nbD_skip {row col p q : Int} {L : List Nat} (hd : nbD c l ls row col p q) (hL : ∀ s ∈ L, ∀ y : Nat, (y : Int) / c = p → (y : Int) % c = q → onP l y → Rch c l s y → (y : Int) ∈ ls) (h : ∀ y : Nat, (y : Int) / c = p → (y : Int) % c = q → onP l y → at_ false (tkB c l L ls) (y : Int) = true) : nbD c l ls row col p (q + 1) :=
  nbD_next hd (fun y h1 h2 h3 => by
    rcases tkB_t h3.1 (h y h1 h2 h3) with ⟨s, g1, g2⟩ | g
    · exact hL s g1 y h1 h2 h3 g2
    · exact g)
end
section
variable {c : Int} {l ls : List Int} {i t : Nat}
theorem nbD_skip2 {row col xv p q : Int} (h : flP c l i ls t) (ht : t < ls.length) (hx : at_ 0 ls (t : Int) = xv) (hr : row = xv / c) (hc : col = xv % c) (rp : row - p ≤ 1 ∧ p - row ≤ 1) (cq : col - q ≤ 1 ∧ q - col ≤ 1) (L : List Nat) (hnr : ∀ s ∈ L, ¬ Rch c l s i) (hd : nbD c l ls row col p q)
    (hs : ∀ y : Nat, (y : Int) / c = p → (y : Int) % c = q → onP l y → at_ false (tkB c l L ls) (y : Int) = true) : nbD c l ls row col p (q + 1) := by
  refine nbD_skip (L := L) hd (fun s hsL y h1 h2 h3 h4 => ?_) hs
  have hm : xv ∈ ls := hx ▸ at_mem 0 ls (by omega) (by omega)
  obtain ⟨X, hX, hX2⟩ := h.2.1 xv hm
  have hn : nbP c X y := by
    unfold nbP
    rw [← hX, ← hr, ← hc, h1, h2]
    exact ⟨rp, cq⟩
  exact absurd ((h4.step (nbP_symm hn) hX2.on.1).trans hX2.symm) (hnr s hsL)
end
end Go.Proofs.YtffmfkpobjdmmaaGreatDoor
/- Parts of a field, by plain law: the parts and their places. -/
namespace Go.Proofs.YtffmfkpobjdmmaaGreatDoor
open HL
set_option maxRecDepth 100000
noncomputable def prtF (r c : Int) (l : List Int) (s : Nat) : FdL := ⟨trR r c (aloL c l s), trC r c (aloL c l s), trL r c (aloL c l s)⟩
noncomputable def prtL (r c : Int) (l : List Int) (L : List Nat) : List FdL := L.map (prtF r c l)
noncomputable def plcL (r c : Int) (l : List Int) (L : List Nat) : List Int := L.flatMap fun s => [(trm r c (aloL c l s)).1, (trm r c (aloL c l s)).2.2.1]
section
variable {r c : Int} {l : List Int} {L : List Nat}
theorem prtL_len : (prtL r c l L).length = L.length := by simp [prtL]
theorem plcL_len : (plcL r c l L).length = 2 * L.length := by
  induction L with
  | nil => rfl
  | cons a L ih => simp only [plcL, List.flatMap_cons, List.length_append, List.length_cons, List.length_nil] at ih ⊢; omega
theorem prtL_snoc (s : Nat) : prtL r c l L ++ [⟨trR r c (aloL c l s), trC r c (aloL c l s), trL r c (aloL c l s)⟩] = prtL r c l (L ++ [s]) := by simp [prtL, prtF]
theorem plcL_snoc (s : Nat) : plcL r c l L ++ [(trm r c (aloL c l s)).1, (trm r c (aloL c l s)).2.2.1] = plcL r c l (L ++ [s]) := by simp [plcL]
theorem trS_pos {m : List Int} (hs : sidesF r c) {x : Nat} (hx : at_ 0 m (x : Int) = 1) : ∀ d : Nat, 0 ≤ (trS r c m (x + 1 + d)).2.1
  | 0 => by
    rw [Nat.add_zero, trS_t hx]
    have : 0 ≤ (x : Int) / c := Int.ediv_nonneg (by omega) (by have := hs.2; omega)
    show 0 ≤ max _ _
    omega
  | d + 1 => by
    have ih := trS_pos hs hx d
    rw [show x + 1 + (d + 1) = (x + 1 + d) + 1 by omega]
    by_cases h : at_ 0 m ((x + 1 + d : Nat) : Int) = 1
    · rw [trS_t h]
      show 0 ≤ max _ _
      omega
    · rw [trS_f h]; exact ih
theorem alo_pos {s : Nat} (hs : sidesF r c) (hl : (l.length : Int) = r * c) (h : onP l s) : 0 ≤ (trm r c (aloL c l s)).2.1 := by
  have e : at_ 0 (aloL c l s) (s : Int) = 1 := by
    rw [at_eq 0 _ (by rw [aloL_len]; exact h.1)]
    unfold aloL
    rw [List.getElem_map, List.getElem_range, if_pos (.base h)]
  have := trS_pos hs e ((r * c).toNat - (s + 1))
  have h1 := h.1
  rw [show s + 1 + ((r * c).toNat - (s + 1)) = (r * c).toNat by omega] at this
  exact this
theorem tkB_zero : tkB c l (stsL c l 0) [] = List.replicate l.length false := by
  apply List.ext_getElem
  · rw [tkB_len, List.length_replicate]
  · intro j g1 g2
    simp [tkB, stsL]
end
end Go.Proofs.YtffmfkpobjdmmaaGreatDoor
/- Parts of fields: the program's and the reference's. -/
namespace Go.Proofs.YtffmfkpobjdmmaaGreatDoor
open HL
set_option maxRecDepth 100000
set_option maxHeartbeats 2000000 in
theorem C.spec_l05Parts {p vc : Value} {r c : Int} {l : List Int}  {H : Hp} {K : Value → Hp → Prop} (hp0 : Cel H p [(.int .i64 (r)), (.int .i64 (c)), vc]) (hvc0 : Sl eI H vc l) (hf : fieldN 1 r c l)
    (hk : ∀ u1 Su1 u2 H', Fam H' u1 Su1 (prtL r c l (stsL c l l.length)) → Own eI H' u2 (plcL r c l (stsL c l l.length)) → Nws H Su1 → Nw H u2 → Apt Su1 u2 → Le H H' → K (.tuple #[u1, u2]) H') : HT prg I.spec_l05Parts [p].toArray H K := by
 have lE := Le.refl H
 have hp := hp0
 have hvc := hvc0
 refine R.spec_l05Parts ?_
 unfold F.spec_l05Parts
 have hs := hf.1
 have hl := hf.2.1
 have q1 := hs.1
 have q2 := hs.2
 have qm := sidesF_mul hs
 have hlN : l.length = r.toNat * c.toNat := by have e := congrArg Int.toNat hl; rw [Int.toNat_natCast, Int.toNat_mul (by omega) (by omega)] at e; exact e
 refine ob_i (hp.nilC) ?_
 refine ob_i (hp.fa 2) ?_
 refine ob_i (hp.ld 2 rfl) ?_
 refine ob_i (hvc.len) ?_
 refine Own.mk_ (z := (false : Bool)) (by omega) (by omega) (by omega) (by omega) (fun tk H1 otk nn2 le3 => ?_)
 have ntk : Nw H tk := nn2.le lE
 replace hp := hp.le le3
 replace hvc := hvc.le le3
 replace lE := lE.trans le3
 refine bSE_fam (fun ps Sps H4 ops nn5 le7 => ?_)
 have atkXps : Apt tk Sps := Apt.of_nws otk.known nn5
 have nps : Nws H Sps := nn5.le lE
 replace otk := otk.le le7
 replace hp := hp.le le7
 replace hvc := hvc.le le7
 replace lE := lE.trans le7
 refine bS_nil (enc := eI) (fun pl H8 opl nn9 kk10 le11 => ?_)
 have atkXpl : Apart tk pl := otk.apart nn9
 have apsXpl : Apt Sps pl := Apt.of_nw ops.known nn9
 have npl : Nw H pl := nn9.le lE
 replace otk := otk.le le11
 replace ops := ops.le le11
 replace hp := hp.le le11
 replace hvc := hvc.le le11
 replace lE := lE.trans le11
 refine jn_i (fun σ' H' => ∃ ps, ∃ Sps, ∃ pl, σ' 5 = ps ∧ σ' 6 = pl ∧ Fam H' ps Sps (prtL r c l (stsL c l l.length)) ∧ Own eI H' pl (plcL r c l (stsL c l l.length)) ∧ Nws H Sps ∧ Nw H pl ∧ Apt Sps pl ∧ Le H H') (fun σ12 H12 hP => ?_) (fun J12 hJ12 => ?_)
 ·skip
  obtain ⟨ps, Sps, pl, g5L12, g6L12, ops, opl, nps, npl, apsXpl, lE⟩ := hP
  try simp only [g5L12, g6L12]
  skip
  exact hk  ps _ pl _ ops opl nps npl apsXpl lE
 refine ob_i (hp.nilC) ?_
 refine ob_i (hp.fa 2) ?_
 refine ob_i (hp.ld 2 rfl) ?_
 refine ob_i (hvc.len) ?_
 refine ⟨fun n' σ' H' => ∃ i : Nat, n' = l.length - i ∧ i ≤ l.length ∧ ∃ ps, ∃ Sps, ∃ pl, σ' 0 = p ∧ σ' 4 = tk ∧ σ' 5 = ps ∧ σ' 6 = pl ∧ σ' 32 = (.int .i64 (((l).length : Int))) ∧ σ' 33 = (.int .i64 ((i : Int))) ∧ Own eB H' tk (tkB c l (stsL c l i) []) ∧ Fam H' ps Sps (prtL r c l (stsL c l i)) ∧ Own eI H' pl (plcL r c l (stsL c l i)) ∧ Nws H Sps ∧ Apt tk Sps ∧ Nw H pl ∧ Apart tk pl ∧ Apt Sps pl ∧ Le H H',
  ⟨_, 0, rfl, by omega, ps, Sps, pl, rfl, rfl, rfl, rfl, rfl, (congrArg (Value.int .i64) (by first | omega | rfl | (simp; done))), (Own.cast (by rw [tkB_zero]; simp) otk), (Fam.cast (by rfl) ops), (Own.cast (by rfl) opl), nps, atkXps, npl, atkXpl, apsXpl, lE⟩, ?_⟩
 rintro n13 σ13 H13 ⟨i, rfl, hiN, ps, Sps, pl, g0L13, g4L13, g5L13, g6L13, g32L13, g33L13, otk, ops, opl, nps, atkXps, npl, atkXpl, apsXpl, lE⟩
 have hp := hp0.le lE
 have hvc := hvc0.le lE
 try simp only [g0L13, g4L13, g32L13, g33L13]
 have tl := tkB_len (c := c) (l := l) (L := (stsL c l i)) (ls := [])
 have pl1 := prtL_len (r := r) (c := c) (l := l) (L := (stsL c l i))
 have pl2 := plcL_len (r := r) (c := c) (l := l) (L := (stsL c l i))
 have sl := stsL_len (c := c) (l := l) i
 refine ob_i (vInt_lss _ _ _) ?_
 refine cnd_d (fun hg14 => ?_) (fun hg14 => ?_)
 ·skip
  have ti := hg14
  refine jn_i (fun σ' H' => ∃ ps, ∃ Sps, ∃ pl, σ' 0 = p ∧ σ' 4 = tk ∧ σ' 5 = ps ∧ σ' 6 = pl ∧ σ' 32 = (.int .i64 (((l).length : Int))) ∧ σ' 33 = (.int .i64 ((i : Int))) ∧ Own eB H' tk (tkB c l (stsL c l (i + 1)) []) ∧ Fam H' ps Sps (prtL r c l (stsL c l (i + 1))) ∧ Own eI H' pl (plcL r c l (stsL c l (i + 1))) ∧ Nws H Sps ∧ Apt tk Sps ∧ Nw H pl ∧ Apart tk pl ∧ Apt Sps pl ∧ Le H H') (fun σ15 H15 hP => ?_) (fun J15 hJ15 => ?_)
  ·skip
   obtain ⟨ps, Sps, pl, g0L15, g4L15, g5L15, g6L15, g32L15, g33L15, otk, ops, opl, nps, atkXps, npl, atkXpl, apsXpl, lE⟩ := hP
   try simp only [g33L15]
   refine ob_i (vInt_add (by omega) (by omega)) ?_
   exact nxt (l.length - (i + 1)) (by omega) ⟨i + 1, rfl, by omega, ps, Sps, pl, g0L15, g4L15, g5L15, g6L15, g32L15, (congrArg (Value.int .i64) (by first | omega | rfl | (simp; done))), otk, ops, opl, nps, atkXps, npl, atkXpl, apsXpl, lE⟩
  refine ob_i (hp.nilC) ?_
  refine ob_i (hp.fa 2) ?_
  refine ob_i (hp.ld 2 rfl) ?_
  refine ob_i (hvc.ix (by omega) (by omega)) ?_
  refine ob_i (hvc.ld 0 (by omega) (by omega)) ?_
  refine ob_i (vInt_neq _ _ _) ?_
  by_cases hc16 : (at_ 0 (l) ((i : Int))) ≠ 1
  ·skip
   refine gop_e (decide_eq_true hc16) ?_
   refine gop_st ?_
   refine gop_e (decide_eq_true hc16) ?_
   refine gop_st ?_
   refine gop_e (decide_eq_true hc16) ?_
   refine gop_st ?_
   refine gop_e (decide_eq_true hc16) ?_
   refine gop_st ?_
   refine ob_i (vPick_et (decide_eq_true hc16) _ _) ?_
   refine cnd_t1 ?_
   have hno : stsL c l (i + 1) = (stsL c l i) := stsL_f (fun g => hc16 g.1.2)
   rw [← hno] at otk ops opl
   exact hJ15 _ _ ⟨ps, Sps, pl, g0L13, g4L13, g5L13, g6L13, g32L13, g33L13, otk, ops, opl, nps, atkXps, npl, atkXpl, apsXpl, lE⟩
  ·skip
   refine gop_e (decide_eq_false hc16) ?_
   refine gop_rf ?_
   refine gop_e (decide_eq_false hc16) ?_
   refine gop_rf ?_
   refine gop_e (decide_eq_false hc16) ?_
   refine gop_rf ?_
   refine ob_i (otk.sl.ix (by omega) (by omega)) ?_
   refine gop_e (decide_eq_false hc16) ?_
   refine gop_rf ?_
   refine ob_i (otk.sl.ld false (by omega) (by omega)) ?_
   refine ob_i (vPick_ef (decide_eq_false hc16) _ _) ?_
   refine cnd_i (fun hg17 => ?_) (fun hg17 => ?_)
   ·skip
    have hno : stsL c l (i + 1) = (stsL c l i) := stsL_f (fun g => (tkB_t (by omega) hg17).elim (fun ⟨s, h1, h2⟩ => g.2 s h1 h2) (fun h1 => by simp at h1))
    rw [← hno] at otk ops opl
    exact hJ15 _ _ ⟨ps, Sps, pl, g0L13, g4L13, g5L13, g6L13, g32L13, g33L13, otk, ops, opl, nps, atkXps, npl, atkXpl, apsXpl, lE⟩
   ·skip
    refine ob_i (hp.nilC) ?_
    refine ob_i (hp.fa 0) ?_
    refine ob_i (hp.ld 0 rfl) ?_
    refine ob_i (hp.nilC) ?_
    refine ob_i (hp.fa 1) ?_
    refine ob_i (hp.ld 1 rfl) ?_
    have hon : onP l i := ⟨by omega, Decidable.not_not.mp hc16⟩
    have hnr : ∀ s ∈ (stsL c l i), ¬ Rch c l s i := (tkB_f (by omega) (by first | exact hg17 | exact Bool.eq_false_iff.mpr hg17)).1
    refine C.spec_l04New (by first | omega | assumption) (by first | omega | assumption) (by first | omega | assumption) (by first | omega | assumption) (fun  ac H18 oac nn20  le19 => ?_)
    have atkXac : Apart tk ac := otk.apart nn20
    have apsXac : Apt Sps ac := Apt.of_nw ops.known nn20
    have aplXac : Apart pl ac := opl.apart nn20
    have nac : Nw H ac := nn20.le lE
    replace otk := otk.le le19
    replace ops := ops.le le19
    replace opl := opl.le le19
    replace hp := hp.le le19
    replace hvc := hvc.le le19
    replace lE := lE.trans le19
    refine ⟨le19, ?_⟩
    refine nw_i (fun al H21 oal nn22 le23 => ?_)
    have atkXal : Apart tk al := otk.apart nn22
    have apsXal : Apt Sps al := Apt.of_nw ops.known nn22
    have aplXal : Apart pl al := opl.apart nn22
    have aacXal : Apart ac al := oac.apart nn22
    have nal : Nw H al := nn22.le lE
    replace otk := otk.le le23
    replace ops := ops.le le23
    replace opl := opl.le le23
    replace oac := oac.le le23
    replace hp := hp.le le23
    replace hvc := hvc.le le23
    replace lE := lE.trans le23
    replace oal : Cel H21 al [(.int .i64 (0)), (.int .i64 (0)), (.slice none 0 0)] := oal
    refine oal.stn (ws := [(.int .i64 (r)), (.int .i64 (c)), ac]) rfl rfl (oc1 rfl (oc1 rfl (oc1 oac.one oc0))) (fun H24 oal off25 => ?_)
    replace otk := otk.off off25 atkXal
    replace ops := ops.off off25 apsXal
    replace opl := opl.off off25 aplXal
    replace oac := oac.off off25 aacXal
    replace hp := hp0.le (off25.le lE nal)
    replace hvc := hvc0.le (off25.le lE nal)
    replace lE := off25.le lE nal
    replace oal : Cel H24 al [(.int .i64 (r)), (.int .i64 (c)), ac] := oal
    refine bS_i (enc := eI) (l := [(i : Int)]) (by omega) rfl (by kernel_rfl) (fun q9 H26 oq9 nn27 le29 => ?_)
    have atkXq9 : Apart tk q9 := otk.apart nn27
    have apsXq9 : Apt Sps q9 := Apt.of_nw ops.known nn27
    have aplXq9 : Apart pl q9 := opl.apart nn27
    have aacXq9 : Apart ac q9 := oac.apart nn27
    have aalXq9 : Apart al q9 := oal.apart nn27
    have nq9 : Nw H q9 := nn27.le lE
    replace otk := otk.le le29
    replace ops := ops.le le29
    replace opl := opl.le le29
    replace oac := oac.le le29
    replace oal := oal.le le29
    replace hp := hp.le le29
    replace hvc := hvc.le le29
    replace lE := lE.trans le29
    refine ob_i (otk.sl.ix (by omega) (by omega)) ?_
    refine otk.st (x := true) (by omega) (by omega) rfl rfl (fun H30 otk off31 => ?_)
    replace ops := ops.off off31 atkXps.symm
    replace opl := opl.off off31 atkXpl.symm
    replace oac := oac.off off31 atkXac.symm
    replace oal := oal.off off31 atkXal.symm
    replace oq9 := oq9.off off31 atkXq9.symm
    replace hp := hp0.le (off31.le lE ntk)
    replace hvc := hvc0.le (off31.le lE ntk)
    replace lE := off31.le lE ntk
    refine jn_i (fun σ' H' => σ' 0 = p ∧ σ' 4 = tk ∧ σ' 5 = ps ∧ σ' 6 = pl ∧ σ' 8 = al ∧ σ' 32 = (.int .i64 (((l).length : Int))) ∧ σ' 33 = (.int .i64 ((i : Int))) ∧ Own eB H' tk (tkB c l ((stsL c l i) ++ [i]) []) ∧ Fam H' ps Sps (prtL r c l (stsL c l i)) ∧ Own eI H' pl (plcL r c l (stsL c l i)) ∧ Own eI H' ac (aloL c l i) ∧ Cel H' al [(.int .i64 (r)), (.int .i64 (c)), ac] ∧ Le H H') (fun σ32 H32 hP => ?_) (fun J32 hJ32 => ?_)
    ·skip
     obtain ⟨g0L32, g4L32, g5L32, g6L32, g8L32, g32L32, g33L32, otk, ops, opl, oac, oal, lE⟩ := hP
     have hp := hp0.le lE
     have hvc := hvc0.le lE
     try simp only [g5L32, g6L32, g8L32]
     have hpos : ¬ (trm r c (aloL c l i)).2.1 < 0 := by have := alo_pos hs hl hon; omega
     refine C.spec_l05Trim oal oac.sl (by first | omega | assumption) (by rw [aloL_len]; exact hl) (fun hc33  H34    le35 => ?_) (fun hc36 u39 H37 ou39 nn40  le38 => ?_)
     ·skip
      exact absurd hc33 hpos
     ·skip
      have atkXu39 : Apart tk u39 := otk.apart nn40
      have apsXu39 : Apt Sps u39 := Apt.of_nw ops.known nn40
      have aplXu39 : Apart pl u39 := opl.apart nn40
      have nu39 : Nw H u39 := nn40.le lE
      replace otk := otk.le le38
      replace ops := ops.le le38
      replace opl := opl.le le38
      replace hp := hp.le le38
      replace hvc := hvc.le le38
      replace lE := lE.trans le38
      refine ob_i (vExt_40 _ _ _ _) ?_
      refine ob_i (vExt_41 _ _ _ _) ?_
      refine ob_i (vExt_42 _ _ _ _) ?_
      refine ob_i (vExt_43 _ _ _ _) ?_
      refine nw_i (fun p41 H42 op41 nn43 le44 => ?_)
      have atkXp41 : Apart tk p41 := otk.apart nn43
      have apsXp41 : Apt Sps p41 := Apt.of_nw ops.known nn43
      have aplXp41 : Apart pl p41 := opl.apart nn43
      have au39Xp41 : Apart u39 p41 := ou39.apart nn43
      have np41 : Nw H p41 := nn43.le lE
      replace otk := otk.le le44
      replace ops := ops.le le44
      replace opl := opl.le le44
      replace ou39 := ou39.le le44
      replace hp := hp.le le44
      replace hvc := hvc.le le44
      replace lE := lE.trans le44
      replace op41 : Cel H42 p41 [(.int .i64 (0)), (.int .i64 (0)), (.slice none 0 0)] := op41
      refine op41.stn (ws := [(.int .i64 (trR r c (aloL c l i))), (.int .i64 (trC r c (aloL c l i))), u39]) rfl rfl (oc1 rfl (oc1 rfl (oc1 ou39.one oc0))) (fun H45 op41 off46 => ?_)
      replace otk := otk.off off46 atkXp41
      replace ops := ops.off off46 apsXp41
      replace opl := opl.off off46 aplXp41
      replace ou39 := ou39.off off46 au39Xp41
      replace hp := hp0.le (off46.le lE np41)
      replace hvc := hvc0.le (off46.le lE np41)
      replace lE := off46.le lE np41
      replace op41 : Cel H45 p41 [(.int .i64 (trR r c (aloL c l i))), (.int .i64 (trC r c (aloL c l i))), u39] := op41
      refine ob_i (op41.ldn rfl) ?_
      refine bSE_one (enc := encFv) (x := (⟨trR r c (aloL c l i), trC r c (aloL c l i), u39⟩ : Fv)) rfl rfl (by omega) (by omega) rfl (fun u47 H48 ou47 nn49 le51 => ?_) rfl
      replace otk := otk.le le51
      replace ops := ops.le le51
      replace opl := opl.le le51
      replace ou39 := ou39.le le51
      replace hp := hp.le le51
      replace hvc := hvc.le le51
      replace lE := lE.trans le51
      refine Fam.push ops rfl (ou47.sl encFv_n) ou39 apsXu39.symm (by omega) (by first | omega | (simp; omega)) (fun u56 Su56 H52 ou56 off53 hb54 hx55 oxu39 => ?_)
      have atkXu56 : Apt tk Su56 := Apt.push otk.known atkXps atkXu39 hb54
      have aplXu56 : Apt pl Su56 := Apt.push opl.known apsXpl.symm aplXu39 hb54
      have nu56 : Nws H Su56 := Nws.push lE nps nu39 hb54
      replace otk := otk.offS off53 atkXps
      replace opl := opl.offS off53 apsXpl.symm
      replace hp := hp0.le (off53.le lE nps)
      replace hvc := hvc0.le (off53.le lE nps)
      replace lE := off53.le lE nps
      replace ou39 := oxu39.ro
      refine bS_i (enc := eI) (l := [(trm r c (aloL c l i)).1, (trm r c (aloL c l i)).2.2.1]) (by omega) rfl (by kernel_rfl) (fun u57 H58 ou57 nn59 le61 => ?_)
      replace otk := otk.le le61
      replace opl := opl.le le61
      replace ou56 := ou56.le le61
      replace hp := hp.le le61
      replace hvc := hvc.le le61
      replace lE := lE.trans le61
      refine apd_any opl ou57.sl (fun _ => rfl) (by omega) (by first | omega | (simp only [List.length_cons, List.length_nil]; omega)) (fun u65 H62 ou65 off63 hb64 => ?_)
      have atkXu65 : Apart tk u65 := Apart.ap2 otk.known atkXpl hb64
      have au56Xu65 : Apt Su56 u65 := Apt.ap2 ou56.known aplXu56.symm hb64
      have nu65 : Nw H u65 := Nw.ap2 npl lE hb64
      replace otk := otk.off off63 atkXpl
      replace ou56 := ou56.off off63 aplXu56.symm
      replace hp := hp0.le (off63.le lE npl)
      replace hvc := hvc0.le (off63.le lE npl)
      replace lE := off63.le lE npl
      have hyes : stsL c l (i + 1) = (stsL c l i) ++ [i] := stsL_t hon hnr
      exact hJ15 _ _ ⟨u56, Su56, u65, g0L32, g4L32, rfl, rfl, g32L32, g33L32, (Own.cast (by rw [hyes]) otk), (Fam.cast (by rw [hyes]; exact prtL_snoc i) ou56), (Own.cast (by rw [hyes]; exact plcL_snoc i) ou65), nu56, atkXu56, nu65, atkXu65, au56Xu65, lE⟩
    refine ⟨fun n' σ' H' => ∃ t : Nat, n' = l.length - t ∧ t ≤ l.length ∧ ∃ q9, ∃ ls : List Int, σ' 0 = p ∧ σ' 4 = tk ∧ σ' 5 = ps ∧ σ' 6 = pl ∧ σ' 8 = al ∧ σ' 9 = q9 ∧ σ' 10 = (.int .i64 ((t : Int))) ∧ σ' 32 = (.int .i64 (((l).length : Int))) ∧ σ' 33 = (.int .i64 ((i : Int))) ∧ Own eB H' tk (tkB c l (stsL c l i) ls) ∧ Fam H' ps Sps (prtL r c l (stsL c l i)) ∧ Own eI H' pl (plcL r c l (stsL c l i)) ∧ Own eI H' ac (indL l (ls.take t)) ∧ Cel H' al [(.int .i64 (r)), (.int .i64 (c)), ac] ∧ Own eI H' q9 (ls) ∧ Nw H q9 ∧ Apart tk q9 ∧ Apt Sps q9 ∧ Apart pl q9 ∧ Apart ac q9 ∧ Apart al q9 ∧ Le H H' ∧ flP c l i ls t,
     ⟨_, 0, rfl, by omega, q9, [(i : Int)], g0L13, g4L13, g5L13, g6L13, rfl, rfl, (congrArg (Value.int .i64) (by first | omega | rfl | (simp; done))), g32L13, g33L13, (Own.cast (tkB_set hon.1) otk), ops, opl, (Own.cast (by rw [List.take_zero, indL_nil, hlN]) oac), oal, (Own.cast (by first | rfl | (simp; done)) oq9), nq9, atkXq9, apsXq9, aplXq9, aacXq9, aalXq9, lE, (flP_start hon)⟩, ?_⟩
    rintro n66 σ66 H66 ⟨t, rfl, htN, q9, ls, g0L66, g4L66, g5L66, g6L66, g8L66, g9L66, g10L66, g32L66, g33L66, otk, ops, opl, oac, oal, oq9, nq9, atkXq9, apsXq9, aplXq9, aacXq9, aalXq9, lE, hfl⟩
    have hp := hp0.le lE
    have hvc := hvc0.le lE
    try simp only [g0L66, g8L66, g9L66, g10L66]
    have fl2 := flP_len hfl
    have tl2 := tkB_len (c := c) (l := l) (L := (stsL c l i)) (ls := ls)
    have il := indL_len (l := l) (ls := ls.take t)
    refine ob_i (oq9.len) ?_
    refine ob_i (vInt_lss _ _ _) ?_
    refine cnd_d (fun hg67 => ?_) (fun hg67 => ?_)
    ·skip
     have tt := hg67
     obtain ⟨xs, hxs⟩ : ∃ xs, xs = ls.take (t + 1) := ⟨_, rfl⟩
     have xb := fl2.2 _ (at_mem 0 ls (i := (t : Int)) (by omega) (by omega))
     have ix := indL_set (l := l) (ls := ls) (t := t) (by omega) xb.1 xb.2
     rw [← hxs] at ix
     have rb0 := rc_bnd (r := r) (c := c) (x := at_ 0 ls (t : Int)) (by omega) xb.1 (by omega) rfl rfl
     obtain ⟨xv, hxv0⟩ : ∃ x : Int, x = at_ 0 ls (t : Int) := ⟨_, rfl⟩
     refine jn_i (fun σ' H' => ∃ q9, ∃ ls : List Int, σ' 0 = p ∧ σ' 4 = tk ∧ σ' 5 = ps ∧ σ' 6 = pl ∧ σ' 8 = al ∧ σ' 9 = q9 ∧ σ' 10 = (.int .i64 ((t : Int))) ∧ σ' 32 = (.int .i64 (((l).length : Int))) ∧ σ' 33 = (.int .i64 ((i : Int))) ∧ Own eB H' tk (tkB c l (stsL c l i) ls) ∧ Fam H' ps Sps (prtL r c l (stsL c l i)) ∧ Own eI H' pl (plcL r c l (stsL c l i)) ∧ Own eI H' ac (indL l xs) ∧ Cel H' al [(.int .i64 (r)), (.int .i64 (c)), ac] ∧ Own eI H' q9 (ls) ∧ Nw H q9 ∧ Apart tk q9 ∧ Apt Sps q9 ∧ Apart pl q9 ∧ Apart ac q9 ∧ Apart al q9 ∧ Le H H' ∧ flP c l i ls (t + 1) ∧ ls.take (t + 1) = xs) (fun σ68 H68 hP => ?_) (fun J68 hJ68 => ?_)
     ·skip
      obtain ⟨q9, ls, g0L68, g4L68, g5L68, g6L68, g8L68, g9L68, g10L68, g32L68, g33L68, otk, ops, opl, oac, oal, oq9, nq9, atkXq9, apsXq9, aplXq9, aacXq9, aalXq9, lE, hfn, hx1⟩ := hP
      try simp only [g10L68]
      refine ob_i (vInt_add (by omega) (by omega)) ?_
      exact nxt (l.length - (t + 1)) (by omega) ⟨t + 1, rfl, by omega, q9, _, g0L68, g4L68, g5L68, g6L68, g8L68, g9L68, (congrArg (Value.int .i64) (by first | omega | rfl | (simp; done))), g32L68, g33L68, otk, ops, opl, (Own.cast (by rw [hx1]) oac), oal, oq9, nq9, atkXq9, apsXq9, aplXq9, aacXq9, aalXq9, lE, hfn⟩
     refine ob_i (oal.fa 2) ?_
     refine ob_i (oal.ld 2 rfl) ?_
     refine ob_i (oq9.sl.ix (by omega) (by omega)) ?_
     refine ob_i (oq9.sl.ld 0 (by omega) (by omega)) ?_
     refine ob_i (oac.sl.ix (by omega) (by omega)) ?_
     refine oac.st (x := 1) (by omega) (by omega) rfl rfl (fun H69 oac off70 => ?_)
     replace otk := otk.off off70 atkXac
     replace ops := ops.off off70 apsXac
     replace opl := opl.off off70 aplXac
     replace oal := oal.off off70 aacXal.symm
     replace oq9 := oq9.off off70 aacXq9.symm
     replace hp := hp0.le (off70.le lE nac)
     replace hvc := hvc0.le (off70.le lE nac)
     replace lE := off70.le lE nac
     refine ob_i (oq9.sl.ix (by omega) (by omega)) ?_
     refine ob_i (oq9.sl.ld 0 (by omega) (by omega)) ?_
     refine ob_i (hp.nilC) ?_
     refine ob_i (hp.fa 1) ?_
     refine ob_i (hp.ld 1 rfl) ?_
     refine ob_i (vInt_quoN (by omega) (by omega) (by omega)) ?_
     obtain ⟨row, hrow⟩ : ∃ x : Int, x = (at_ 0 (ls) ((t : Int))) / c := ⟨_, rfl⟩
     rw [← hrow]
     refine ob_i (oq9.sl.ix (by omega) (by omega)) ?_
     refine ob_i (oq9.sl.ld 0 (by omega) (by omega)) ?_
     refine ob_i (hp.nilC) ?_
     refine ob_i (hp.fa 1) ?_
     refine ob_i (hp.ld 1 rfl) ?_
     have rm71 := And.intro (Int.emod_nonneg (at_ 0 (ls) ((t : Int))) (b := c) (by omega)) (Int.emod_lt_of_pos (at_ 0 (ls) ((t : Int))) (b := c) (by omega))
     refine ob_i (vInt_remN (by omega) (by omega)) ?_
     obtain ⟨col, hcol⟩ : ∃ x : Int, x = (at_ 0 (ls) ((t : Int))) % c := ⟨_, rfl⟩
     rw [← hcol]
     refine ob_i (vInt_sub (by omega) (by omega)) ?_
     refine ⟨fun n' σ' H' => ∃ a : Nat, n' = 3 - a ∧ a ≤ 3 ∧ ∃ q9, ∃ ls : List Int, σ' 0 = p ∧ σ' 4 = tk ∧ σ' 5 = ps ∧ σ' 6 = pl ∧ σ' 8 = al ∧ σ' 9 = q9 ∧ σ' 10 = (.int .i64 ((t : Int))) ∧ σ' 11 = (.int .i64 (row)) ∧ σ' 12 = (.int .i64 (col)) ∧ σ' 13 = (.int .i64 (row - 1 + (a : Int))) ∧ σ' 32 = (.int .i64 (((l).length : Int))) ∧ σ' 33 = (.int .i64 ((i : Int))) ∧ Own eB H' tk (tkB c l (stsL c l i) ls) ∧ Fam H' ps Sps (prtL r c l (stsL c l i)) ∧ Own eI H' pl (plcL r c l (stsL c l i)) ∧ Own eI H' ac (indL l xs) ∧ Cel H' al [(.int .i64 (r)), (.int .i64 (c)), ac] ∧ Own eI H' q9 (ls) ∧ Nw H q9 ∧ Apart tk q9 ∧ Apt Sps q9 ∧ Apart pl q9 ∧ Apart ac q9 ∧ Apart al q9 ∧ Le H H' ∧ flP c l i ls t ∧ t < ls.length ∧ ls.take (t + 1) = xs ∧ at_ 0 ls (t : Int) = xv ∧ nbD c l ls row col (row - 1 + (a : Int)) (col - 1),
      ⟨_, 0, rfl, by omega, q9, _, g0L66, g4L66, g5L66, g6L66, g8L66, g9L66, g10L66, rfl, rfl, (congrArg (Value.int .i64) (by first | omega | rfl | (simp; done))), g32L66, g33L66, by simpa using otk, ops, opl, (Own.cast ix oac), oal, (Own.cast (by first | rfl | (simp; done)) oq9), nq9, atkXq9, apsXq9, aplXq9, aacXq9, aalXq9, lE, hfl, (by omega), hxs.symm, hxv0.symm, (by rw [show row - 1 + ((0 : Nat) : Int) = row - 1 by omega]; exact nbD_zero)⟩, ?_⟩
     rintro n72 σ72 H72 ⟨a, rfl, haN, q9, ls, g0L72, g4L72, g5L72, g6L72, g8L72, g9L72, g10L72, g11L72, g12L72, g13L72, g32L72, g33L72, otk, ops, opl, oac, oal, oq9, nq9, atkXq9, apsXq9, aplXq9, aacXq9, aalXq9, lE, hfl, htl, hxt, hxv, hnb⟩
     have hp := hp0.le lE
     have hvc := hvc0.le lE
     try simp only [g11L72, g12L72, g13L72]
     rw [← hxv0] at xb
     have hrow : row = xv / c := by rw [hxv0]; assumption
     have hcol : col = xv % c := by rw [hxv0]; assumption
     have rb := rc_bnd (r := r) (c := c) (by omega) xb.1 (by omega) hrow hcol
     refine ob_i (vInt_add (by omega) (by omega)) ?_
     refine ob_i (vInt_leq _ _ _) ?_
     refine cnd_d (fun hg73 => ?_) (fun hg73 => ?_)
     ·skip
      have ta := hg73
      refine jn_i (fun σ' H' => ∃ q9, ∃ ls : List Int, σ' 0 = p ∧ σ' 4 = tk ∧ σ' 5 = ps ∧ σ' 6 = pl ∧ σ' 8 = al ∧ σ' 9 = q9 ∧ σ' 10 = (.int .i64 ((t : Int))) ∧ σ' 11 = (.int .i64 (row)) ∧ σ' 12 = (.int .i64 (col)) ∧ σ' 13 = (.int .i64 (row - 1 + (a : Int))) ∧ σ' 32 = (.int .i64 (((l).length : Int))) ∧ σ' 33 = (.int .i64 ((i : Int))) ∧ Own eB H' tk (tkB c l (stsL c l i) ls) ∧ Fam H' ps Sps (prtL r c l (stsL c l i)) ∧ Own eI H' pl (plcL r c l (stsL c l i)) ∧ Own eI H' ac (indL l xs) ∧ Cel H' al [(.int .i64 (r)), (.int .i64 (c)), ac] ∧ Own eI H' q9 (ls) ∧ Nw H q9 ∧ Apart tk q9 ∧ Apt Sps q9 ∧ Apart pl q9 ∧ Apart ac q9 ∧ Apart al q9 ∧ Le H H' ∧ flP c l i ls t ∧ t < ls.length ∧ ls.take (t + 1) = xs ∧ at_ 0 ls (t : Int) = xv ∧ nbD c l ls row col (row - 1 + ((a + 1 : Nat) : Int)) (col - 1)) (fun σ74 H74 hP => ?_) (fun J74 hJ74 => ?_)
      ·skip
       obtain ⟨q9, ls, g0L74, g4L74, g5L74, g6L74, g8L74, g9L74, g10L74, g11L74, g12L74, g13L74, g32L74, g33L74, otk, ops, opl, oac, oal, oq9, nq9, atkXq9, apsXq9, aplXq9, aacXq9, aalXq9, lE, hf6, ht6, hx6, hv6, hn6⟩ := hP
       try simp only [g13L74]
       refine ob_i (vInt_add (by omega) (by omega)) ?_
       exact nxt (3 - (a + 1)) (by omega) ⟨a + 1, rfl, by omega, q9, _, g0L74, g4L74, g5L74, g6L74, g8L74, g9L74, g10L74, g11L74, g12L74, (congrArg (Value.int .i64) (by first | omega | rfl | (simp; done))), g32L74, g33L74, otk, ops, opl, oac, oal, oq9, nq9, atkXq9, apsXq9, aplXq9, aacXq9, aalXq9, lE, hf6, ht6, hx6, hv6, hn6⟩
      refine ob_i (vInt_sub (by omega) (by omega)) ?_
      refine ⟨fun n' σ' H' => ∃ b : Nat, n' = 3 - b ∧ b ≤ 3 ∧ ∃ q9, ∃ ls : List Int, σ' 0 = p ∧ σ' 4 = tk ∧ σ' 5 = ps ∧ σ' 6 = pl ∧ σ' 8 = al ∧ σ' 9 = q9 ∧ σ' 10 = (.int .i64 ((t : Int))) ∧ σ' 11 = (.int .i64 (row)) ∧ σ' 12 = (.int .i64 (col)) ∧ σ' 13 = (.int .i64 (row - 1 + (a : Int))) ∧ σ' 14 = (.int .i64 (col - 1 + (b : Int))) ∧ σ' 32 = (.int .i64 (((l).length : Int))) ∧ σ' 33 = (.int .i64 ((i : Int))) ∧ Own eB H' tk (tkB c l (stsL c l i) ls) ∧ Fam H' ps Sps (prtL r c l (stsL c l i)) ∧ Own eI H' pl (plcL r c l (stsL c l i)) ∧ Own eI H' ac (indL l xs) ∧ Cel H' al [(.int .i64 (r)), (.int .i64 (c)), ac] ∧ Own eI H' q9 (ls) ∧ Nw H q9 ∧ Apart tk q9 ∧ Apt Sps q9 ∧ Apart pl q9 ∧ Apart ac q9 ∧ Apart al q9 ∧ Le H H' ∧ flP c l i ls t ∧ t < ls.length ∧ ls.take (t + 1) = xs ∧ at_ 0 ls (t : Int) = xv ∧ nbD c l ls row col (row - 1 + (a : Int)) (col - 1 + (b : Int)),
       ⟨_, 0, rfl, by omega, q9, _, g0L72, g4L72, g5L72, g6L72, g8L72, g9L72, g10L72, g11L72, g12L72, g13L72, (congrArg (Value.int .i64) (by first | omega | rfl | (simp; done))), g32L72, g33L72, by simpa using otk, ops, opl, by simpa using oac, oal, (Own.cast (by first | rfl | (simp; done)) oq9), nq9, atkXq9, apsXq9, aplXq9, aacXq9, aalXq9, lE, hfl, htl, hxt, hxv, (by rw [show col - 1 + ((0 : Nat) : Int) = col - 1 by omega]; exact hnb)⟩, ?_⟩
      rintro n75 σ75 H75 ⟨b, rfl, hbN, q9, ls, g0L75, g4L75, g5L75, g6L75, g8L75, g9L75, g10L75, g11L75, g12L75, g13L75, g14L75, g32L75, g33L75, otk, ops, opl, oac, oal, oq9, nq9, atkXq9, apsXq9, aplXq9, aacXq9, aalXq9, lE, hfl, htl, hxt, hxv, hnb⟩
      have hp := hp0.le lE
      have hvc := hvc0.le lE
      try simp only [g0L75, g4L75, g9L75, g12L75, g13L75, g14L75]
      have tl6 := tkB_len (c := c) (l := l) (L := (stsL c l i)) (ls := ls)
      have fl6 := flP_len hfl
      refine ob_i (vInt_add (by omega) (by omega)) ?_
      refine ob_i (vInt_leq _ _ _) ?_
      refine cnd_d (fun hg76 => ?_) (fun hg76 => ?_)
      ·skip
       have tb := hg76
       refine ob_i (hp.nilC) ?_
       refine ob_i (hp.fa 0) ?_
       refine ob_i (hp.ld 0 rfl) ?_
       refine ob_i (vInt_sub (by omega) (by omega)) ?_
       refine C.spec_l00In  ?_
       refine ob_nd (fun hc77 => ?_) (fun hc77 => ?_)
       ·skip
        refine gop_rf ?_
        refine gop_rf ?_
        refine gop_rf ?_
        refine ob_i (hp.nilC) ?_
        refine gop_rf ?_
        refine ob_i (hp.fa 1) ?_
        refine gop_rf ?_
        refine ob_i (hp.ld 1 rfl) ?_
        refine gop_rf ?_
        refine ob_i (vInt_sub (by omega) (by omega)) ?_
        refine gop_rf ?_
        refine C.spec_l00In  ?_
        refine gop_rf ?_
        refine ob_nd (fun hc78 => ?_) (fun hc78 => ?_)
        ·skip
         have pq := pq_dm (r := r) (c := c) (p := row - 1 + (a : Int)) (q := col - 1 + (b : Int)) (by omega) (by omega) (by omega) (by omega)
         refine ob_i (vPick_f _ _) ?_
         refine cnd_f1 ?_
         refine ob_i (hp.nilC) ?_
         refine ob_i (hp.fa 1) ?_
         refine ob_i (hp.ld 1 rfl) ?_
         refine ob_i (vInt_mul (by omega) (by omega)) ?_
         refine ob_i (vInt_add (by omega) (by omega)) ?_
         refine ob_i (hp.nilC) ?_
         refine ob_i (hp.fa 2) ?_
         refine ob_i (hp.ld 2 rfl) ?_
         refine ob_i (hvc.ix (by omega) (by omega)) ?_
         refine ob_i (hvc.ld 0 (by omega) (by omega)) ?_
         refine ob_i (vInt_eql _ _ _) ?_
         by_cases hc79 : (at_ 0 (l) (((row - 1 + (a : Int)) * c) + (col - 1 + (b : Int)))) = 1
         ·skip
          refine gop_e (decide_eq_true hc79) ?_
          refine gop_rt ?_
          refine gop_e (decide_eq_true hc79) ?_
          refine gop_rt ?_
          refine gop_e (decide_eq_true hc79) ?_
          refine gop_rt ?_
          refine ob_i (otk.sl.ix (by omega) (by omega)) ?_
          refine gop_e (decide_eq_true hc79) ?_
          refine gop_rt ?_
          refine ob_i (otk.sl.ld false (by omega) (by omega)) ?_
          refine gop_e (decide_eq_true hc79) ?_
          refine gop_rt ?_
          refine ob_i (vUn_not _) ?_
          refine ob_i (vPick_et (decide_eq_true hc79) _ _) ?_
          refine cnd_i (fun hg80 => ?_) (fun hg80 => ?_)
          ·skip
           refine ob_i (otk.sl.ix (by omega) (by omega)) ?_
           refine otk.st (x := true) (by omega) (by omega) rfl rfl (fun H81 otk off82 => ?_)
           replace ops := ops.off off82 atkXps.symm
           replace opl := opl.off off82 atkXpl.symm
           replace oac := oac.off off82 atkXac.symm
           replace oal := oal.off off82 atkXal.symm
           replace oq9 := oq9.off off82 atkXq9.symm
           replace hp := hp0.le (off82.le lE ntk)
           replace hvc := hvc0.le (off82.le lE ntk)
           replace lE := off82.le lE ntk
           refine bS_i (enc := eI) (l := [((row - 1 + (a : Int)) * c) + (col - 1 + (b : Int))]) (by omega) rfl (by kernel_rfl) (fun u83 H84 ou83 nn85 le87 => ?_)
           replace otk := otk.le le87
           replace ops := ops.le le87
           replace opl := opl.le le87
           replace oac := oac.le le87
           replace oal := oal.le le87
           replace oq9 := oq9.le le87
           replace hp := hp.le le87
           replace hvc := hvc.le le87
           replace lE := lE.trans le87
           refine apd_any oq9 ou83.sl (fun _ => rfl) (by omega) (by first | omega | (simp only [List.length_cons, List.length_nil]; omega)) (fun u91 H88 ou91 off89 hb90 => ?_)
           have atkXu91 : Apart tk u91 := Apart.ap2 otk.known atkXq9 hb90
           have apsXu91 : Apt Sps u91 := Apt.ap2 ops.known apsXq9 hb90
           have aplXu91 : Apart pl u91 := Apart.ap2 opl.known aplXq9 hb90
           have aacXu91 : Apart ac u91 := Apart.ap2 oac.known aacXq9 hb90
           have aalXu91 : Apart al u91 := Apart.ap2 oal.known aalXq9 hb90
           have nu91 : Nw H u91 := Nw.ap2 nq9 lE hb90
           replace otk := otk.off off89 atkXq9
           replace ops := ops.off off89 apsXq9
           replace opl := opl.off off89 aplXq9
           replace oac := oac.off off89 aacXq9
           replace oal := oal.off off89 aalXq9
           replace hp := hp0.le (off89.le lE nq9)
           replace hvc := hvc0.le (off89.le lE nq9)
           replace lE := off89.le lE nq9
           refine ob_i (vInt_add (by omega) (by omega)) ?_
           have fz := flP_found (y := ((row - 1 + (a : Int)) * c + (col - 1 + (b : Int)))) (p := (row - 1 + (a : Int))) (q := (col - 1 + (b : Int))) hfl htl hxv hrow hcol pq.1.1 (by omega) pq.2.2.1 pq.2.2.2 ⟨by omega, by omega⟩ ⟨by omega, by omega⟩ hc79 (stsL c l i) (by first | exact hg80 | (simpa using hg80)) hnb
           have fn := fz.2.2.2.2.1
           exact nxt (3 - (b + 1)) (by omega) ⟨b + 1, rfl, by omega, u91, (ls ++ ([((row - 1 + (a : Int)) * c) + (col - 1 + (b : Int))])), g0L75, g4L75, g5L75, g6L75, g8L75, rfl, g10L75, g11L75, g12L75, g13L75, (congrArg (Value.int .i64) (by first | omega | rfl | (simp; done))), g32L75, g33L75, (Own.cast fz.2.2.2.2.2 otk), ops, opl, oac, oal, ou91, nu91, atkXu91, apsXu91, aplXu91, aacXu91, aalXu91, lE, fz.1, fz.2.1, (fz.2.2.1.trans hxt), fz.2.2.2.1, (by rw [show col - 1 + ((b + 1 : Nat) : Int) = col - 1 + (b : Int) + 1 by omega]; exact fn)⟩
          ·skip
           refine ob_i (vInt_add (by omega) (by omega)) ?_
           have fn := nbD_skip2 (p := (row - 1 + (a : Int))) (q := (col - 1 + (b : Int))) hfl htl hxv hrow hcol ⟨by omega, by omega⟩ ⟨by omega, by omega⟩ (stsL c l i) hnr hnb (fun y h1 h2 h3 => by have yb := rc_bnd (r := r) (c := c) (x := (y : Int)) (by omega) (by omega) (by have := h3.1; omega) h1.symm h2.symm; have e0 := Int.emod_add_mul_ediv (y : Int) c; rw [h1, h2, Int.mul_comm c] at e0; have ye : (y : Int) = ((row - 1 + (a : Int)) * c + (col - 1 + (b : Int))) := (by omega); have y1 := h3.2; rw [ye] at y1 ⊢; first | omega | assumption | contradiction | (simp_all; done))
           exact nxt (3 - (b + 1)) (by omega) ⟨b + 1, rfl, by omega, q9, ls, g0L75, g4L75, g5L75, g6L75, g8L75, g9L75, g10L75, g11L75, g12L75, g13L75, (congrArg (Value.int .i64) (by first | omega | rfl | (simp; done))), g32L75, g33L75, otk, ops, opl, oac, oal, oq9, nq9, atkXq9, apsXq9, aplXq9, aacXq9, aalXq9, lE, hfl, htl, hxt, hxv, (by rw [show col - 1 + ((b + 1 : Nat) : Int) = col - 1 + (b : Int) + 1 by omega]; exact fn)⟩
         ·skip
          refine gop_e (decide_eq_false hc79) ?_
          refine gop_sf ?_
          refine gop_e (decide_eq_false hc79) ?_
          refine gop_sf ?_
          refine gop_e (decide_eq_false hc79) ?_
          refine gop_sf ?_
          refine gop_e (decide_eq_false hc79) ?_
          refine gop_sf ?_
          refine gop_e (decide_eq_false hc79) ?_
          refine gop_sf ?_
          refine ob_i (vPick_ef (decide_eq_false hc79) _ _) ?_
          refine cnd_f1 ?_
          refine ob_i (vInt_add (by omega) (by omega)) ?_
          have fn := nbD_skip2 (p := (row - 1 + (a : Int))) (q := (col - 1 + (b : Int))) hfl htl hxv hrow hcol ⟨by omega, by omega⟩ ⟨by omega, by omega⟩ (stsL c l i) hnr hnb (fun y h1 h2 h3 => by have yb := rc_bnd (r := r) (c := c) (x := (y : Int)) (by omega) (by omega) (by have := h3.1; omega) h1.symm h2.symm; have e0 := Int.emod_add_mul_ediv (y : Int) c; rw [h1, h2, Int.mul_comm c] at e0; have ye : (y : Int) = ((row - 1 + (a : Int)) * c + (col - 1 + (b : Int))) := (by omega); have y1 := h3.2; rw [ye] at y1 ⊢; first | omega | assumption | contradiction | (simp_all; done))
          exact nxt (3 - (b + 1)) (by omega) ⟨b + 1, rfl, by omega, q9, ls, g0L75, g4L75, g5L75, g6L75, g8L75, g9L75, g10L75, g11L75, g12L75, g13L75, (congrArg (Value.int .i64) (by first | omega | rfl | (simp; done))), g32L75, g33L75, otk, ops, opl, oac, oal, oq9, nq9, atkXq9, apsXq9, aplXq9, aacXq9, aalXq9, lE, hfl, htl, hxt, hxv, (by rw [show col - 1 + ((b + 1 : Nat) : Int) = col - 1 + (b : Int) + 1 by omega]; exact fn)⟩
        ·skip
         refine ob_i (vPick_f _ _) ?_
         refine cnd_t1 ?_
         refine ob_i (vInt_add (by omega) (by omega)) ?_
         have fn := nbD_skip2 (p := (row - 1 + (a : Int))) (q := (col - 1 + (b : Int))) hfl htl hxv hrow hcol ⟨by omega, by omega⟩ ⟨by omega, by omega⟩ (stsL c l i) hnr hnb (fun y h1 h2 h3 => by have yb := rc_bnd (r := r) (c := c) (x := (y : Int)) (by omega) (by omega) (by have := h3.1; omega) h1.symm h2.symm; have e0 := Int.emod_add_mul_ediv (y : Int) c; rw [h1, h2, Int.mul_comm c] at e0; have ye : (y : Int) = ((row - 1 + (a : Int)) * c + (col - 1 + (b : Int))) := (by omega); have y1 := h3.2; rw [ye] at y1 ⊢; first | omega | assumption | contradiction | (simp_all; done))
         exact nxt (3 - (b + 1)) (by omega) ⟨b + 1, rfl, by omega, q9, ls, g0L75, g4L75, g5L75, g6L75, g8L75, g9L75, g10L75, g11L75, g12L75, g13L75, (congrArg (Value.int .i64) (by first | omega | rfl | (simp; done))), g32L75, g33L75, otk, ops, opl, oac, oal, oq9, nq9, atkXq9, apsXq9, aplXq9, aacXq9, aalXq9, lE, hfl, htl, hxt, hxv, (by rw [show col - 1 + ((b + 1 : Nat) : Int) = col - 1 + (b : Int) + 1 by omega]; exact fn)⟩
       ·skip
        refine gop_st ?_
        refine gop_st ?_
        refine gop_st ?_
        refine gop_st ?_
        refine gop_st ?_
        refine gop_st ?_
        refine gop_st ?_
        refine gop_st ?_
        refine ob_i (vPick_t _ _) ?_
        refine cnd_t1 ?_
        refine ob_i (vInt_add (by omega) (by omega)) ?_
        have fn := nbD_skip2 (p := (row - 1 + (a : Int))) (q := (col - 1 + (b : Int))) hfl htl hxv hrow hcol ⟨by omega, by omega⟩ ⟨by omega, by omega⟩ (stsL c l i) hnr hnb (fun y h1 h2 h3 => by have yb := rc_bnd (r := r) (c := c) (x := (y : Int)) (by omega) (by omega) (by have := h3.1; omega) h1.symm h2.symm; have e0 := Int.emod_add_mul_ediv (y : Int) c; rw [h1, h2, Int.mul_comm c] at e0; have ye : (y : Int) = ((row - 1 + (a : Int)) * c + (col - 1 + (b : Int))) := (by omega); have y1 := h3.2; rw [ye] at y1 ⊢; first | omega | assumption | contradiction | (simp_all; done))
        exact nxt (3 - (b + 1)) (by omega) ⟨b + 1, rfl, by omega, q9, ls, g0L75, g4L75, g5L75, g6L75, g8L75, g9L75, g10L75, g11L75, g12L75, g13L75, (congrArg (Value.int .i64) (by first | omega | rfl | (simp; done))), g32L75, g33L75, otk, ops, opl, oac, oal, oq9, nq9, atkXq9, apsXq9, aplXq9, aacXq9, aalXq9, lE, hfl, htl, hxt, hxv, (by rw [show col - 1 + ((b + 1 : Nat) : Int) = col - 1 + (b : Int) + 1 by omega]; exact fn)⟩
      ·skip
       have tb := hg76
       exact hJ74 _ _ ⟨q9, _, g0L75, g4L75, g5L75, g6L75, g8L75, g9L75, g10L75, g11L75, g12L75, g13L75, g32L75, g33L75, otk, ops, opl, oac, oal, oq9, nq9, atkXq9, apsXq9, aplXq9, aacXq9, aalXq9, lE, hfl, htl, hxt, hxv, (by have hh := nbD_row (b := col - 1) (show nbD c l ls row col (row - 1 + (a : Int)) (col + 2) by rw [show col + 2 = col - 1 + (b : Int) by omega]; exact hnb) (by omega); rw [show row - 1 + ((a + 1 : Nat) : Int) = row - 1 + (a : Int) + 1 by omega]; exact hh)⟩
     ·skip
      have ta := hg73
      have hfz := flP_next hfl htl (by rw [hxv]; exact hrow) (by rw [hxv]; exact hcol) (show nbD c l ls row col (row + 2) 0 from fun y g1 g2 g3 g4 => hnb y g1 g2 g3 (by omega))
      exact hJ68 _ _ ⟨q9, _, g0L72, g4L72, g5L72, g6L72, g8L72, g9L72, g10L72, g32L72, g33L72, otk, ops, opl, oac, oal, oq9, nq9, atkXq9, apsXq9, aplXq9, aacXq9, aalXq9, lE, hfz, hxt⟩
    ·skip
     have tt := hg67
     have hte := hfl.2.2.2.1
     have hend := flood_end hfl.1 hfl.2.1 (fun x y hx => hfl.2.2.2.2 x y (by rw [List.take_of_length_le (by omega)]; exact hx))
     exact hJ32 _ _ ⟨g0L66, g4L66, g5L66, g6L66, g8L66, g32L66, g33L66, (Own.cast (tkB_end hend) otk), ops, opl, (Own.cast (by rw [List.take_of_length_le (by omega)]; exact indL_end hend) oac), oal, lE⟩
 ·skip
  have ti := hg14
  obtain rfl : i = l.length := by omega
  exact hJ12 _ _ ⟨ps, Sps, pl, g5L13, g6L13, ops, opl, nps, npl, apsXpl, lE⟩
end Go.Proofs.YtffmfkpobjdmmaaGreatDoor
/- The cells around a cell: each is told once, row by row; and slices that are cut in front of their last. -/
namespace Go.Proofs.YtffmfkpobjdmmaaGreatDoor
open HL
set_option maxRecDepth 100000
/-- A heap less one block. -/
def HL.Hp.del (H : Hp) (b : Nat) : Hp := fun x => if x = b then none else H x
theorem HL.Hp.del_none (H : Hp) (b : Nat) : H.del b b = none := by simp [Hp.del]
theorem HL.Hp.del_put {A B : Hp} {b : Nat} {o : Obj} (h : Le (A.put b o) B) : B = (B.del b).put b o := by
  funext x
  unfold Hp.put Hp.del
  by_cases e : x = b
  · subst e; rw [if_pos rfl]; exact h _ _ (Hp.put_same _ _ _)
  · rw [if_neg e, if_neg e]
theorem HL.Hp.del_le {A B : Hp} {b : Nat} {o : Obj} (h : Le (A.put b o) B) (hn : A b = none) : Le A (B.del b) := by
  intro x y hx
  have e : x ≠ b := by rintro rfl; rw [hn] at hx; exact absurd hx (by simp)
  unfold Hp.del
  rw [if_neg e]
  exact h _ _ (by rw [Hp.put_ne _ _ e]; exact hx)
theorem callV_frame {v : Value} {args : List Value} {A : Hp} {Z : Value → Hp → Prop} {b : Nat} {o : Obj} (h : callV prg v args A (fun x B => B b = none → Z x (B.put b o))) (hn : A b = none) : callV prg v args (A.put b o) Z := by
  unfold callV at h ⊢
  split at h
  · exact ⟨h.1, (HT.frame o h.2 hn).mono (fun x B' ⟨B, h3, h4, h5⟩ => h5 ▸ h3 h4)⟩
  · refine hp_mono prg _ _ _ _ ?_ (hp_frame prg _ _ _ b o h hn)
    rintro nx H'' ⟨H', hk, hr, rfl⟩
    cases nx <;> simp only [nextH] at hk ⊢
    · exact hk hr
    · exact hk hr
    · exact (HT.frame o hk hr).mono (fun x B' ⟨B, h3, h4, h5⟩ => h5 ▸ h3 h4)
    · exact (RT.frame o hk hr).mono (fun x B' ⟨B, h3, h4, h5⟩ => h5 ▸ h3 h4)
  · exact h
/-- A slice that is cut in front of its last cells: it is owned as before. -/
theorem HL.Own.trunc {α : Type} {enc : α → Value} {H : Hp} {v : Value} {l : List α} {kk : IntKind} {n : Int} (h : Own enc H v l) (h0 : 0 ≤ n) (h1 : n ≤ l.length) :
    ∃ v', vSl3 1 v none (some (.int kk n)) none = some v' ∧ Own enc H v' (l.take n.toNat) ∧ ∀ b, bk v' = some b → bk v = some b := by
  obtain ⟨a, c, rfl, hc, hr⟩ := h
  refine ⟨.slice a n.toNat c, ?_, ⟨a, c, by simp; omega, by simp; omega, fun hp => ?_⟩, fun b hb => by cases a <;> exact hb⟩
  · simp only [vSl3, vSl, bnd]
    rw [if_pos ⟨h0, by omega⟩]
    simp only [Nat.zero_mul, Nat.sub_zero]
    cases a with
    | none => simp
    | some ad => simp [Addr.add]
  · obtain ⟨b, off, cs, e, h2, h3, h4, h5⟩ := hr hp
    refine ⟨b, off, cs, e, h2, h3, h4, fun i hi => ?_⟩
    have hi2 : i < l.length := by have := hi; simp at this; omega
    rw [h5 i hi2, List.getElem_take]
theorem C.impl_Field_corners {fv : Value} {r c i k : Int} {vc : Value} {H : Hp} {K : Value → Hp → Prop} {Inv : Int → Int → Hp → Prop} (hs : sidesF r c) (i0 : 0 ≤ i) (i1 : i ≤ 1000) (k0 : 0 ≤ k) (k1 : k ≤ 1000)
    (h0 : Inv (i - 1) (k - 1) H) (hle : ∀ p q A B, Inv p q A → Le A B → Inv p q B)
    (hno : ∀ p q A, ¬ (((0 ≤ p ∧ p ≤ r - 1) ∧ 0 ≤ q ∧ q ≤ c - 1) ∧ (p ≠ i ∨ q ≠ k)) → i - 1 ≤ p → p ≤ i + 1 → k - 1 ≤ q → q ≤ k + 1 → Inv p q A → Inv p (q + 1) A)
    (hrow : ∀ p A, i - 1 ≤ p → p ≤ i + 1 → Inv p (k + 2) A → Inv (p + 1) (k - 1) A)
    (hdo : ∀ p q A (Z : Value → Hp → Prop), ((0 ≤ p ∧ p ≤ r - 1) ∧ 0 ≤ q ∧ q ≤ c - 1) → (p ≠ i ∨ q ≠ k) → i - 1 ≤ p → p ≤ i + 1 → k - 1 ≤ q → q ≤ k + 1 → Inv p q A → (∀ B, Inv p (q + 1) B → Z (.tuple #[]) B) → callV prg fv [.int .i64 p, .int .i64 q] A Z)
    (hk : ∀ A, Inv (i + 2) (k - 1) A → K (.tuple #[]) A) : HT prg I.impl_Field_corners [.agg #[.int .i64 r, .int .i64 c, vc], .int .i64 i, .int .i64 k, fv].toArray H K := by
 refine R.impl_Field_corners ?_
 unfold F.impl_Field_corners
 intro b hb
 generalize hO : (Obj.cells (Value.agg #[.int .i64 r, .int .i64 c, vc]).cells _) = o
 have hlb : ∀ A : Hp, vLoadN 3 (.pointer (some ⟨b, 0, none⟩)) (A.put b o) = some (.agg #[.int .i64 r, .int .i64 c, vc]) := fun A => by
  rw [← hO]
  exact Cel.ldn (cs := [.int .i64 r, .int .i64 c, vc]) ⟨b, _, rfl, by rw [Hp.put_same]; rfl⟩ rfl
 refine ob_i (vInt_sub (by omega) (by omega)) ?_
 refine ⟨fun n σ H' => ∃ t : Nat, n = 3 - t ∧ t ≤ 3 ∧ σ 1 = .int .i64 i ∧ σ 2 = .int .i64 k ∧ σ 3 = fv ∧ σ 4 = .pointer (some ⟨b, 0, none⟩) ∧ σ 8 = .int .i64 (i - 1 + (t : Int)) ∧ ∃ A, H' = A.put b o ∧ A b = none ∧ Inv (i - 1 + (t : Int)) (k - 1) A,
  ⟨_, 0, rfl, by omega, rfl, rfl, rfl, rfl, congrArg (Value.int .i64) (by omega), H, rfl, hb, by rw [show i - 1 + ((0 : Nat) : Int) = i - 1 by omega]; exact h0⟩, ?_⟩
 rintro n σ H1 ⟨t, rfl, ht, g1, g2, g3, g4, g8, A, rfl, hA, hI⟩
 simp only [g1, g2, g8]
 refine ob_i (vInt_add (by omega) (by omega)) ?_
 refine ob_i (vInt_leq _ _ _) ?_
 refine cnd_d (fun hlt => ?_) (fun hge => ?_)
 ·refine jn_i (fun σ' H' => σ' 1 = .int .i64 i ∧ σ' 2 = .int .i64 k ∧ σ' 3 = fv ∧ σ' 4 = .pointer (some ⟨b, 0, none⟩) ∧ σ' 8 = .int .i64 (i - 1 + (t : Int)) ∧ ∃ A, H' = A.put b o ∧ A b = none ∧ Inv (i - 1 + (t : Int) + 1) (k - 1) A) (fun σ2 H2 hP => ?_) (fun J hJ => ?_)
  ·obtain ⟨g1, g2, g3, g4, g8, A, rfl, hA, hI⟩ := hP
   simp only [g8]
   refine ob_i (vInt_add (by omega) (by omega)) ?_
   exact nxt (3 - (t + 1)) (by omega) ⟨t + 1, rfl, by omega, g1, g2, g3, g4, congrArg (Value.int .i64) (by omega), A, rfl, hA, by rw [show i - 1 + ((t + 1 : Nat) : Int) = i - 1 + (t : Int) + 1 by omega]; exact hI⟩
  ·refine ob_i (vInt_sub (by omega) (by omega)) ?_
   refine ⟨fun n σ H' => ∃ u : Nat, n = 3 - u ∧ u ≤ 3 ∧ σ 1 = .int .i64 i ∧ σ 2 = .int .i64 k ∧ σ 3 = fv ∧ σ 4 = .pointer (some ⟨b, 0, none⟩) ∧ σ 8 = .int .i64 (i - 1 + (t : Int)) ∧ σ 9 = .int .i64 (k - 1 + (u : Int)) ∧ ∃ A, H' = A.put b o ∧ A b = none ∧ Inv (i - 1 + (t : Int)) (k - 1 + (u : Int)) A,
    ⟨_, 0, rfl, by omega, g1, g2, g3, g4, g8, congrArg (Value.int .i64) (by omega), A, rfl, hA, by rw [show k - 1 + ((0 : Nat) : Int) = k - 1 by omega]; exact hI⟩, ?_⟩
   clear hI hA g1 g2 g3 g4 g8 A
   rintro n σ H1 ⟨u, rfl, hu, g1, g2, g3, g4, g8, g9, A, rfl, hA, hI⟩
   simp only [g1, g2, g3, g4, g8, g9]
   refine ob_i (vInt_add (by omega) (by omega)) ?_
   refine ob_i (vInt_leq _ _ _) ?_
   refine cnd_d (fun hlt2 => ?_) (fun hge2 => ?_)
   ·refine ob_i (hlb A) ?_
    refine C.impl_Field_has hs (fun H3 le3 => ?_)
    have hB := Hp.del_le le3 hA
    have eB := Hp.del_put le3
    have nB := Hp.del_none H3 b
    generalize H3.del b = B at hB eB nB
    subst eB
    have hI2 := hle _ _ _ _ hI hB
    have eu : k - 1 + ((u + 1 : Nat) : Int) = k - 1 + (u : Int) + 1 := by omega
    have no : ∀ σ' : S, σ' 1 = .int .i64 i → σ' 2 = .int .i64 k → σ' 3 = fv → σ' 4 = .pointer (some ⟨b, 0, none⟩) → σ' 8 = .int .i64 (i - 1 + (t : Int)) → σ' 9 = .int .i64 (k - 1 + (u : Int) + 1) → ∀ C : Hp, C b = none → Inv (i - 1 + (t : Int)) (k - 1 + (u : Int) + 1) C →
      ∃ u' : Nat, 3 - (u + 1) = 3 - u' ∧ u' ≤ 3 ∧ σ' 1 = .int .i64 i ∧ σ' 2 = .int .i64 k ∧ σ' 3 = fv ∧ σ' 4 = .pointer (some ⟨b, 0, none⟩) ∧ σ' 8 = .int .i64 (i - 1 + (t : Int)) ∧ σ' 9 = .int .i64 (k - 1 + (u' : Int)) ∧ ∃ A, C.put b o = A.put b o ∧ A b = none ∧ Inv (i - 1 + (t : Int)) (k - 1 + (u' : Int)) A :=
     fun σ' a1 a2 a3 a4 a8 a9 C hC hIC => ⟨u + 1, rfl, by omega, a1, a2, a3, a4, a8, by rw [eu]; exact a9, C, rfl, hC, by rw [eu]; exact hIC⟩
    by_cases hP : (0 ≤ i - 1 + (t : Int) ∧ i - 1 + (t : Int) ≤ r - 1) ∧ 0 ≤ k - 1 + (u : Int) ∧ k - 1 + (u : Int) ≤ c - 1
    ·rw [decide_eq_true hP]
     refine gop_rt ?_
     refine gop_rt ?_
     refine gop_rt ?_
     refine ob_i (vInt_neq _ _ _) ?_
     refine gop_rt ?_
     by_cases h1 : i - 1 + (t : Int) = i
     ·rw [decide_eq_false (show ¬ i - 1 + (t : Int) ≠ i from fun h => h h1)]
      refine gop_rf ?_
      refine gop_rf ?_
      refine gop_rf ?_
      refine ob_i (vInt_neq _ _ _) ?_
      refine gop_rt ?_
      refine ob_i (vPick_f _ _) ?_
      refine ob_i (vPick_t _ _) ?_
      refine cnd_d (fun h2 => ?_) (fun h2 => ?_)
      ·refine callV_frame (hdo _ _ B _ hP (.inr h2) (by omega) (by omega) (by omega) (by omega) hI2 (fun C hC nC => ?_)) nB
       refine ob_i (vInt_add (by omega) (by omega)) ?_
       refine nxt (3 - (u + 1)) (by omega) ?_
       refine no _ ?_ ?_ ?_ ?_ ?_ ?_ C nC hC
       ·exact g1
       ·exact g2
       ·exact g3
       ·exact g4
       ·exact g8
       ·exact rfl
      ·refine ob_i (vInt_add (by omega) (by omega)) ?_
       refine nxt (3 - (u + 1)) (by omega) ?_
       refine no _ ?_ ?_ ?_ ?_ ?_ ?_ B nB (hno _ _ B (fun h => h.2.elim (fun h3 => h3 h1) h2) (by omega) (by omega) (by omega) (by omega) hI2)
       ·exact g1
       ·exact g2
       ·exact g3
       ·exact g4
       ·exact g8
       ·exact rfl
     ·rw [decide_eq_true h1]
      refine gop_st ?_
      refine gop_st ?_
      refine gop_st ?_
      refine gop_rt ?_
      refine ob_i (vPick_t _ _) ?_
      refine ob_i (vPick_t _ _) ?_
      refine cnd_t1 ?_
      refine callV_frame (hdo _ _ B _ hP (.inl h1) (by omega) (by omega) (by omega) (by omega) hI2 (fun C hC nC => ?_)) nB
      refine ob_i (vInt_add (by omega) (by omega)) ?_
      refine nxt (3 - (u + 1)) (by omega) ?_
      refine no _ ?_ ?_ ?_ ?_ ?_ ?_ C nC hC
      ·exact g1
      ·exact g2
      ·exact g3
      ·exact g4
      ·exact g8
      ·exact rfl
    ·rw [decide_eq_false hP]
     refine gop_sf ?_
     refine gop_sf ?_
     refine gop_sf ?_
     refine gop_sf ?_
     refine gop_u ?_
     refine gop_u ?_
     refine gop_u ?_
     refine gop_sf ?_
     refine ob_i (vPick_f _ _) ?_
     refine cnd_f1 ?_
     refine ob_i (vInt_add (by omega) (by omega)) ?_
     refine nxt (3 - (u + 1)) (by omega) ?_
     refine no _ ?_ ?_ ?_ ?_ ?_ ?_ B nB (hno _ _ B (fun h => hP h.1) (by omega) (by omega) (by omega) (by omega) hI2)
     ·exact g1
     ·exact g2
     ·exact g3
     ·exact g4
     ·exact g8
     ·exact rfl
   ·exact hJ _ _ ⟨g1, g2, g3, g4, g8, A, rfl, hA, hrow _ _ (by omega) (by omega) (by rw [show k + 2 = k - 1 + (u : Int) by omega]; exact hI)⟩
 ·have := hle _ _ _ _ hI (Le.put o hA)
  exact hk _ (by rw [show i + 2 = i - 1 + (t : Int) by omega]; exact this)
end Go.Proofs.YtffmfkpobjdmmaaGreatDoor
/- Parts of a field, by plain law: a flood with a stack, and the numbers that it leaves. -/
namespace Go.Proofs.YtffmfkpobjdmmaaGreatDoor
open HL
set_option maxRecDepth 100000
open Classical in
/-- The numbers that stand: those of the starts before, and the next one for the cells of a list. -/
noncomputable def ouL (c : Int) (l : List Int) (L : List Nat) (ls : List Int) : List Int := (List.range l.length).map fun x => if nuN c l L x = 0 then (if (x : Int) ∈ ls then (L.length : Int) + 1 else 0) else nuN c l L x
/-- A flood from i with a stack: all that has been found, and what is still to be looked at. -/
def stS (c : Int) (l : List Int) (i : Nat) (ls td : List Int) : Prop := ((i : Int) ∈ ls ∧ (∀ x ∈ ls, ∃ k : Nat, x = (k : Int) ∧ Rch c l i k) ∧ ls.Nodup ∧ ∀ x ∈ td, x ∈ ls) ∧ ∀ x y : Nat, (x : Int) ∈ ls → (x : Int) ∉ td → nbP c x y → onP l y → (y : Int) ∈ ls
/-- The same, while the neighbours of one cell are told up to a place. -/
def stN (c : Int) (l : List Int) (i : Nat) (ls td : List Int) (xv p q : Int) : Prop := ((i : Int) ∈ ls ∧ (∀ x ∈ ls, ∃ k : Nat, x = (k : Int) ∧ Rch c l i k) ∧ ls.Nodup ∧ ∀ x ∈ td, x ∈ ls) ∧ xv ∈ ls ∧ (∀ x y : Nat, (x : Int) ∈ ls → (x : Int) ∉ td → (x : Int) ≠ xv → nbP c x y → onP l y → (y : Int) ∈ ls) ∧ nbD c l ls (xv / c) (xv % c) p q
section
variable {c : Int} {l : List Int} {L : List Nat} {ls td : List Int} {i : Nat}
theorem ouL_len : (ouL c l L ls).length = l.length := by simp [ouL]
open Classical in
theorem ouL_at {y : Nat} (hy : y < l.length) : at_ 0 (ouL c l L ls) (y : Int) = if nuN c l L y = 0 then (if (y : Int) ∈ ls then (L.length : Int) + 1 else 0) else nuN c l L y := by
  rw [at_eq 0 _ (by rw [ouL_len]; exact hy)]
  unfold ouL
  rw [List.getElem_map, List.getElem_range]
theorem ouL_f {y : Nat} (hy : y < l.length) (h : at_ 0 (ouL c l L ls) (y : Int) = 0) : (∀ s ∈ L, ¬ Rch c l s y) ∧ (y : Int) ∉ ls := by
  rw [ouL_at hy] at h
  by_cases h0 : nuN c l L y = 0
  · rw [if_pos h0] at h
    refine ⟨nuN_zero.mp h0, fun hm => ?_⟩
    rw [if_pos hm] at h
    omega
  · rw [if_neg h0] at h; exact absurd h h0
theorem ouL_t {y : Nat} (hy : y < l.length) (h : at_ 0 (ouL c l L ls) (y : Int) ≠ 0) : (∃ s ∈ L, Rch c l s y) ∨ (y : Int) ∈ ls := by
  rw [ouL_at hy] at h
  by_cases h0 : nuN c l L y = 0
  · rw [if_pos h0] at h
    by_cases hm : (y : Int) ∈ ls
    · exact .inr hm
    · rw [if_neg hm] at h; exact absurd rfl h
  · refine .inl (Classical.byContradiction fun hn => h0 (nuN_zero.mpr fun s hs hr => hn ⟨s, hs, hr⟩))
theorem ouL_zero : ouL c l (stsL c l 0) [] = List.replicate l.length 0 := by
  apply List.ext_getElem
  · rw [ouL_len, List.length_replicate]
  · intro j g1 g2
    simp [ouL, stsL, nuN]
theorem ouL_set {y : Nat} (hy : y < l.length) (h : ∀ s ∈ L, ¬ Rch c l s y) : (ouL c l L ls).set y ((L.length : Int) + 1) = ouL c l L (ls ++ [(y : Int)]) := by
  apply List.ext_getElem
  · rw [List.length_set, ouL_len, ouL_len]
  · intro j h1 h2
    simp only [ouL, List.getElem_set, List.getElem_map, List.getElem_range]
    by_cases e : y = j
    · subst e; rw [if_pos rfl, if_pos (nuN_zero.mpr h), if_pos (by simp)]
    · rw [if_neg e]
      by_cases m : (j : Int) ∈ ls
      · simp [m]
      · have : ¬ (j : Int) ∈ ls ++ [(y : Int)] := by simp [m]; omega
        simp [m, this]
theorem ouL_end (h : ∀ x : Nat, (x : Int) ∈ ls ↔ Rch c l i x) : ouL c l L ls = ouL c l (L ++ [i]) [] := by
  unfold ouL
  apply List.map_congr_left
  intro x _
  rw [nuN_snoc]
  by_cases h0 : nuN c l L x = 0
  · by_cases h1 : Rch c l i x
    · rw [if_pos h0, if_pos ((h x).mpr h1)]
      simp only [h0, h1, if_true]
      rw [if_neg (by omega)]
    · rw [if_pos h0, if_neg (fun g => h1 ((h x).mp g))]
      simp [h0, h1]
  · simp [h0]
theorem stS_start (h : onP l i) : stS c l i [(i : Int)] [(i : Int)] :=
  ⟨⟨by simp, fun x hx => ⟨i, by simpa using hx, .base h⟩, by simp, fun x hx => hx⟩, fun x y hx hn => absurd hx hn⟩
theorem stS_len (h : stS c l i ls td) : ls.length ≤ l.length ∧ ∀ x ∈ ls, 0 ≤ x ∧ x < (l.length : Int) := by
  have hb : ∀ x ∈ ls, 0 ≤ x ∧ x < (l.length : Int) := fun x hx => by
    obtain ⟨k, rfl, hr⟩ := h.1.2.1 x hx
    have := hr.on.1.1
    omega
  exact ⟨nodup_len _ _ h.1.2.2.1 hb, hb⟩
theorem stS_end (h : stS c l i ls []) : ∀ x : Nat, (x : Int) ∈ ls ↔ Rch c l i x :=
  fun x => flood_end h.1.1 h.1.2.1 (fun a b ha hn ho => h.2 a b ha (by simp) hn ho) x
/-- The last of the stack is taken. -/
theorem stS_pop (h : stS c l i ls td) (hp : 0 < td.length) : stN c l i ls (td.take (td.length - 1)) (at_ 0 td ((td.length : Int) - 1)) (at_ 0 td ((td.length : Int) - 1) / c - 1) (at_ 0 td ((td.length : Int) - 1) % c - 1) := by
  obtain ⟨⟨h1, h2, h3, h4⟩, h5⟩ := h
  have hm : at_ 0 td ((td.length : Int) - 1) ∈ td := at_mem 0 td (by omega) (by omega)
  refine ⟨⟨h1, h2, h3, fun x hx => h4 x (List.mem_of_mem_take hx)⟩, h4 _ hm, fun x y hx hn hne hb ho => h5 x y hx (fun hxt => ?_) hb ho, nbD_zero⟩
  have e := take_at 0 td (show td.length - 1 < td.length by omega)
  rw [show td.length - 1 + 1 = td.length by omega, List.take_length] at e
  rw [e] at hxt
  rcases List.mem_append.mp hxt with g | g
  · exact hn g
  · simp only [List.mem_singleton] at g
    exact hne (by rw [g]; congr 1; omega)
theorem stN_len {xv p q : Int} (h : stN c l i ls td xv p q) : ls.length ≤ l.length ∧ (∀ x ∈ ls, 0 ≤ x ∧ x < (l.length : Int)) ∧ 0 ≤ xv ∧ xv < (l.length : Int) := by
  have hb : ∀ x ∈ ls, 0 ≤ x ∧ x < (l.length : Int) := fun x hx => by
    obtain ⟨k, rfl, hr⟩ := h.1.2.1 x hx
    have := hr.on.1.1
    omega
  exact ⟨nodup_len _ _ h.1.2.2.1 hb, hb, hb _ h.2.1⟩
/-- All neighbours are told. -/
theorem stN_end {xv q : Int} (h : stN c l i ls td xv (xv / c + 2) q) : stS c l i ls td := by
  obtain ⟨h1, h2, h3, h4⟩ := h
  refine ⟨h1, fun x y hx hn hb ho => ?_⟩
  by_cases e : (x : Int) = xv
  · subst e
    exact h4 y hb.1 hb.2 ho (.inl (by have := hb.1; omega))
  · exact h3 x y hx hn e hb ho
theorem stN_row {xv p : Int} (h : stN c l i ls td xv p (xv % c + 2)) : stN c l i ls td xv (p + 1) (xv % c - 1) := ⟨h.1, h.2.1, h.2.2.1, nbD_row h.2.2.2 _ (by omega)⟩
/-- A place that is told already, or no place at all. -/
theorem stN_skip {xv p q : Int} (h : stN c l i ls td xv p q) (hy : ∀ y : Nat, (y : Int) / c = p → (y : Int) % c = q → onP l y → (y : Int) ∈ ls) : stN c l i ls td xv p (q + 1) := ⟨h.1, h.2.1, h.2.2.1, nbD_next h.2.2.2 hy⟩
theorem stN_out {r xv p q : Int} (hs : sidesF r c) (hl : (l.length : Int) = r * c) (h : stN c l i ls td xv p q) (hn : ¬ (((0 ≤ p ∧ p ≤ r - 1) ∧ 0 ≤ q ∧ q ≤ c - 1) ∧ (p ≠ xv / c ∨ q ≠ xv % c))) : stN c l i ls td xv p (q + 1) := by
  have q2 := hs.2
  refine stN_skip h fun y h1 h2 h3 => ?_
  have yb := rc_bnd (r := r) (c := c) (x := (y : Int)) (by omega) (by omega) (by have := h3.1; omega) h1.symm h2.symm
  have e : p = xv / c ∧ q = xv % c := Classical.byContradiction fun g => hn ⟨⟨by omega, by omega⟩, by omega⟩
  have e0 := Int.emod_add_mul_ediv (y : Int) c
  have e1 := Int.emod_add_mul_ediv xv c
  rw [h1, h2, e.1, e.2, e1] at e0
  rw [← e0]
  exact h.2.1
/-- A neighbour that is no cell of 1, or has a number. -/
theorem stN_told {r xv p q : Int} (hs : sidesF r c) (p0 : 0 ≤ p) (p1 : p ≤ r - 1) (q0 : 0 ≤ q) (q1 : q ≤ c - 1) (h : stN c l i ls td xv p q) (rp : xv / c - p ≤ 1 ∧ p - xv / c ≤ 1) (cq : xv % c - q ≤ 1 ∧ q - xv % c ≤ 1) (hnr : ∀ s ∈ L, ¬ Rch c l s i)
    (hn : at_ 0 l (p * c + q) = 1 → at_ 0 (ouL c l L ls) (p * c + q) ≠ 0) : stN c l i ls td xv p (q + 1) := by
  refine stN_skip h fun y h1 h2 h3 => ?_
  have e0 := Int.emod_add_mul_ediv (y : Int) c
  rw [h1, h2, Int.mul_comm c] at e0
  have ye : (y : Int) = p * c + q := by omega
  have h4 := hn (ye ▸ h3.2)
  rw [← ye] at h4
  rcases ouL_t h3.1 h4 with ⟨s, hs1, hs2⟩ | g
  · exfalso
    obtain ⟨X, hX, hX2⟩ := h.1.2.1 xv h.2.1
    have hn : nbP c X y := by
      unfold nbP
      rw [← hX, h1, h2]
      exact ⟨rp, cq⟩
    exact hnr s hs1 ((hs2.step (nbP_symm hn) hX2.on.1).trans hX2.symm)
  · exact g
/-- A neighbour that is found. -/
theorem stN_put {r xv p q : Int} (hs : sidesF r c) (hl : (l.length : Int) = r * c) (p0 : 0 ≤ p) (p1 : p ≤ r - 1) (q0 : 0 ≤ q) (q1 : q ≤ c - 1) (h : stN c l i ls td xv p q) (rp : xv / c - p ≤ 1 ∧ p - xv / c ≤ 1) (cq : xv % c - q ≤ 1 ∧ q - xv % c ≤ 1)
    (on : at_ 0 l (p * c + q) = 1) (nt : at_ 0 (ouL c l L ls) (p * c + q) = 0) :
    stN c l i (ls ++ [p * c + q]) (td ++ [p * c + q]) xv p (q + 1) ∧ (ouL c l L ls).set (p * c + q).toNat ((L.length : Int) + 1) = ouL c l L (ls ++ [p * c + q]) := by
  have pq := pq_dm (r := r) (c := c) p0 p1 q0 q1
  obtain ⟨Y, hY⟩ := Int.eq_ofNat_of_zero_le pq.1.1
  have hYl : Y < l.length := by omega
  rw [hY] at on nt
  have ho := ouL_f hYl nt
  have oY : onP l Y := ⟨hYl, on⟩
  obtain ⟨⟨h1, h2, h3, h4⟩, h5, h6, h7⟩ := h
  obtain ⟨X, hX, hX2⟩ := h2 xv h5
  have hYp : (Y : Int) / c = p := by rw [← hY]; exact pq.2.2.1
  have hYq : (Y : Int) % c = q := by rw [← hY]; exact pq.2.2.2
  have hn : nbP c X Y := by
    unfold nbP
    rw [← hX, hYp, hYq]
    exact ⟨rp, cq⟩
  rw [hY]
  refine ⟨⟨⟨by simp [h1], fun x hx => ?_, ?_, fun x hx => ?_⟩, by simp [h5], fun x y hx hn hne hb hoy => ?_, nbD_next (nbD_app h7) fun z hz1 hz2 _ => ?_⟩, by rw [Int.toNat_natCast]; exact ouL_set hYl ho.1⟩
  · rcases List.mem_append.mp hx with hx | hx
    · exact h2 x hx
    · simp only [List.mem_singleton] at hx
      exact ⟨Y, hx, hX2.step hn oY⟩
  · exact List.nodup_append.mpr ⟨h3, by simp, fun a ha b hb => by
      simp only [List.mem_singleton] at hb
      subst hb
      exact fun e => ho.2 (e ▸ ha)⟩
  · rcases List.mem_append.mp hx with hx | hx
    · exact List.mem_append_left _ (h4 x hx)
    · exact List.mem_append_right _ hx
  · have hx1 : (x : Int) ∈ ls := by
      rcases List.mem_append.mp hx with hx | hx
      · exact hx
      · exact absurd (List.mem_append_right _ hx) hn
    exact List.mem_append_left _ (h6 x y hx1 (fun g => hn (List.mem_append_left _ g)) hne hb hoy)
  · have e1 := Int.emod_add_mul_ediv (z : Int) c
    have e2 := Int.emod_add_mul_ediv (Y : Int) c
    rw [hz1, hz2] at e1
    rw [hYp, hYq] at e2
    have : (z : Int) = (Y : Int) := by rw [← e1, ← e2]
    rw [this]; simp
/-- Starts reach one another not. -/
theorem stsL_pw : ∀ i : Nat, (stsL c l i).Pairwise fun s t => ¬ Rch c l s t
  | 0 => by simp [stsL]
  | i + 1 => by
    unfold stsL
    split
    · rename_i h
      exact List.pairwise_append.mpr ⟨stsL_pw i, by simp, fun a ha b hb => by
        simp only [List.mem_singleton] at hb
        subst hb
        exact h.2 a ha⟩
    · exact stsL_pw i
theorem nuN_ix {x : Nat} : ∀ {L : List Nat} (_ : L.Pairwise fun s t => ¬ Rch c l s t) {n : Nat} (hn : n < L.length), nuN c l L x = (n : Int) + 1 ↔ Rch c l L[n] x
  | [], _, n, hn => by simp at hn
  | s :: L, hp, n, hn => by
    have pos : 0 ≤ nuN c l L x := by
      clear hp hn
      induction L with
      | nil => simp [nuN]
      | cons a L ih => unfold nuN; split <;> (try split) <;> omega
    rw [List.pairwise_cons] at hp
    unfold nuN
    cases n with
    | zero =>
      simp only [List.getElem_cons_zero]
      by_cases h : Rch c l s x
      · simp [h]
      · rw [if_neg h]
        constructor
        · intro g
          split at g <;> omega
        · intro g; exact absurd g h
    | succ n =>
      simp only [List.getElem_cons_succ]
      have hn' : n < L.length := by simpa using hn
      have ih := nuN_ix hp.2 (x := x) hn'
      by_cases h : Rch c l s x
      · rw [if_pos h]
        constructor
        · intro g; omega
        · intro g; exact absurd (h.trans g.symm) (hp.1 _ (List.getElem_mem hn'))
      · rw [if_neg h]
        by_cases h0 : nuN c l L x = 0
        · rw [if_pos h0]
          constructor
          · intro g; omega
          · intro g
            exact absurd (ih.mpr g) (by rw [h0]; omega)
        · rw [if_neg h0, ← ih]
          omega
end
/-- A part, read off the numbers. -/
theorem prt_num {r c : Int} {l : List Int} (hs : sidesF r c) (hl : (l.length : Int) = r * c) {n : Nat} (hn : n < (stsL c l l.length).length) :
    mkL c (fun i k => if at_ 0 (ouL c l (stsL c l l.length) []) (i * c + k) = (n : Int) + 1 then 1 else 0) (r.toNat * c.toNat) = aloL c l (at_ 0 (stsL c l l.length) (n : Int)) := by
  have e : r.toNat * c.toNat = l.length := by
    have e := congrArg Int.toNat hl
    rw [Int.toNat_natCast, Int.toNat_mul (by have := hs.1; omega) (by have := hs.2; omega)] at e
    exact e.symm
  unfold mkL aloL
  rw [e]
  apply List.map_congr_left
  intro x hx
  have hx' : x < l.length := List.mem_range.mp hx
  have e0 := Int.emod_add_mul_ediv (x : Int) c
  have e1 : (x : Int) / c * c + (x : Int) % c = (x : Int) := by rw [Int.mul_comm]; omega
  have e2 : at_ 0 (stsL c l l.length) (n : Int) = (stsL c l l.length)[n] := at_eq 0 _ hn
  have ix := nuN_ix (x := x) (stsL_pw (c := c) (l := l) l.length) hn
  rw [← e2] at ix
  simp only [e1, ouL_at hx']
  have e3 : (if nuN c l (stsL c l l.length) x = 0 then (if (x : Int) ∈ ([] : List Int) then ((stsL c l l.length).length : Int) + 1 else 0) else nuN c l (stsL c l l.length) x) = nuN c l (stsL c l l.length) x := by
    by_cases h : nuN c l (stsL c l l.length) x = 0 <;> simp [h]
  rw [e3]
  by_cases h : Rch c l (at_ 0 (stsL c l l.length) (n : Int)) x
  · rw [if_pos (ix.mpr h), if_pos h]
  · rw [if_neg (fun g => h (ix.mp g)), if_neg h]
end Go.Proofs.YtffmfkpobjdmmaaGreatDoor
/- Parts of fields: the program's, and the reference's front. -/
namespace Go.Proofs.YtffmfkpobjdmmaaGreatDoor
open HL
set_option maxRecDepth 100000
theorem C.impl_PartsOf_1 {pn pf pt nb : Value} {i k r c t : Int} {m : List Int}  {vc : Value} {H : Hp} {K : Value → Hp → Prop} (hpn0 : Cel H pn [nb]) (hpf0 : Cel H pf [(.int .i64 (r)), (.int .i64 (c)), vc]) (hpt0 : Cel H pt [(.int .i64 (t))]) (hnb0 : Sl eI H nb m) (hs : sidesF r c) (hl : (m.length : Int) = r * c) (i0 : 0 ≤ i) (i1 : i < r) (j0 : 0 ≤ k) (j1 : k < c) (t0 : 0 ≤ t) (t1 : t ≤ 1000)
    (hk : ∀ H', Le H H' → K (.int .i64 (if at_ 0 m (i * c + k) = t + 1 then 1 else 0)) H') : HT prg I.impl_PartsOf_1 [(.int .i64 (i)), (.int .i64 (k)), pn, pf, pt].toArray H K := by
 have lE := Le.refl H
 have hpn := hpn0
 have hpf := hpf0
 have hpt := hpt0
 have hnb := hnb0
 refine R.impl_PartsOf_1 ?_
 unfold F.impl_PartsOf_1
 have q1 := hs.1
 have q2 := hs.2
 have qm := sidesF_mul hs
 have x2 := ix_lt (a := i) (b := k) (r := r) (c := c) (by omega) (by omega) (by omega) (by omega)
 refine ob_i (hpn.ld0 rfl) ?_
 refine ob_i (hpf.fa 1) ?_
 refine ob_i (hpf.ld 1 rfl) ?_
 refine ob_i (vInt_mul (by omega) (by omega)) ?_
 refine ob_i (vInt_add (by omega) (by omega)) ?_
 refine ob_i (hnb.ix (by omega) (by omega)) ?_
 refine ob_i (hnb.ld 0 (by omega) (by omega)) ?_
 refine ob_i (hpt.ld0 rfl) ?_
 refine ob_i (vInt_add (by omega) (by omega)) ?_
 refine ob_i (vInt_eql _ _ _) ?_
 refine C.impl_bit  ?_
 refine ⟨Le.refl _, ?_⟩
 skip
 exact keq (K := K) (by rw [show ((if (decide ((at_ 0 (m) ((i * c) + k)) = (t + 1))) = true then 1 else 0) : Int) = (if at_ 0 m (i * c + k) = t + 1 then 1 else 0) from by simp only [decide_eq_true_eq]]) (hk   _    lE)
set_option maxHeartbeats 2000000 in
theorem C.impl_PartsOf {vc : Value} {r c : Int} {l : List Int}  {H : Hp} {K : Value → Hp → Prop} (hvc0 : Sl eI H vc l) (k1 : l.length ≤ 9223372036854775807)
    (hk : ∀ u1 Su1 u2 H', Fam H' u1 Su1 (selL (fieldN 1 r c l) (prtL r c l (stsL c l l.length))) → Own eI H' u2 (selL (fieldN 1 r c l) (plcL r c l (stsL c l l.length))) → Nws H Su1 → Nw H u2 → Apt Su1 u2 → Le H H' → K (.tuple #[u1, u2, (.bool (decide (fieldN 1 r c l)))]) H') : HT prg I.impl_PartsOf [(.agg #[(.int .i64 (r)), (.int .i64 (c)), vc])].toArray H K := by
 have lE := Le.refl H
 have hvc := hvc0
 refine R.impl_PartsOf ?_
 unfold F.impl_PartsOf
 refine nw_i (fun pf H1 opf nn2 le3 => ?_)
 replace hvc := hvc.le le3
 replace lE := lE.trans le3
 replace opf : Cel H1 pf [(.int .i64 (r)), (.int .i64 (c)), vc] := opf
 refine ob_i (opf.ldn rfl) ?_
 refine C.impl_isPlain hvc (by first | omega | assumption) (fun   H4    le5 => ?_)
 replace opf := opf.le le5
 replace hvc := hvc.le le5
 replace lE := lE.trans le5
 refine ob_nd (fun hc6 => ?_) (fun hc6 => ?_)
 ·skip
  have hf := hc6
  have l1 := fieldN_len hf
  have hs := hf.1
  have hl := hf.2.1
  have q1 := hs.1
  have q2 := hs.2
  have qm := sidesF_mul hs
  refine cnd_f1 ?_
  refine ob_i (opf.ldn rfl) ?_
  refine ob_i (opf.ldn rfl) ?_
  refine R.impl_Field_clustersX ?_
  unfold F.impl_Field_clustersX
  refine nw_i (fun p2 H7 op2 nn8 le9 => ?_)
  replace opf := opf.le le9
  replace hvc := hvc.le le9
  replace lE := lE.trans le9
  replace op2 : Cel H7 p2 [(.int .i64 (r)), (.int .i64 (c)), vc] := op2
  refine ob_i (op2.fa 2) ?_
  refine ob_i (op2.ld 2 rfl) ?_
  refine ob_i (hvc.len) ?_
  refine Own.mk_ (z := (0 : Int)) (by omega) (by omega) (by omega) (by omega) (fun ou H10 oou nn11 le12 => ?_)
  have apfXou : Apart pf ou := opf.apart nn11
  have ap2Xou : Apart p2 ou := op2.apart nn11
  have nou : Nw H ou := nn11.le lE
  replace opf := opf.le le12
  replace op2 := op2.le le12
  replace hvc := hvc.le le12
  replace lE := lE.trans le12
  refine nw_i (fun po H13 opo nn14 le15 => ?_)
  have apfXpo : Apart pf po := opf.apart nn14
  have ap2Xpo : Apart p2 po := op2.apart nn14
  have aouXpo : Apart ou po := oou.apart nn14
  have npo : Nw H po := nn14.le lE
  replace opf := opf.le le15
  replace op2 := op2.le le15
  replace oou := oou.le le15
  replace hvc := hvc.le le15
  replace lE := lE.trans le15
  replace opo : Cel H13 po [(.slice none 0 0)] := opo
  refine opo.st0 (by simp) oou.one oou.cells (fun H16 opo off17 => ?_)
  replace opf := opf.off off17 apfXpo
  replace op2 := op2.off off17 ap2Xpo
  replace oou := oou.off off17 aouXpo
  replace hvc := hvc0.le (off17.le lE npo)
  replace lE := off17.le lE npo
  replace opo : Cel H16 po [ou] := opo
  refine nw_i (fun pc H18 opc nn19 le20 => ?_)
  have apfXpc : Apart pf pc := opf.apart nn19
  have ap2Xpc : Apart p2 pc := op2.apart nn19
  have aouXpc : Apart ou pc := oou.apart nn19
  have apoXpc : Apart po pc := opo.apart nn19
  have npc : Nw H pc := nn19.le lE
  replace opf := opf.le le20
  replace op2 := op2.le le20
  replace oou := oou.le le20
  replace opo := opo.le le20
  replace hvc := hvc.le le20
  replace lE := lE.trans le20
  replace opc : Cel H18 pc [(.int .i64 (0))] := opc
  refine opc.st0 (by simp) rfl rfl (fun H21 opc off22 => ?_)
  replace opf := opf.off off22 apfXpc
  replace op2 := op2.off off22 ap2Xpc
  replace oou := oou.off off22 aouXpc
  replace opo := opo.off off22 apoXpc
  replace hvc := hvc0.le (off22.le lE npc)
  replace lE := off22.le lE npc
  replace opc : Cel H21 pc [(.int .i64 (0))] := opc
  refine jn_i (fun σ' H' => σ' 6 = po ∧ σ' 7 = pc ∧ Cel H' pf [(.int .i64 (r)), (.int .i64 (c)), vc] ∧ Cel H' p2 [(.int .i64 (r)), (.int .i64 (c)), vc] ∧ Own eI H' ou (ouL c l (stsL c l l.length) []) ∧ Cel H' po [ou] ∧ Cel H' pc [(.int .i64 (((stsL c l l.length).length : Int)))] ∧ Le H H') (fun σ23 H23 hP => ?_) (fun J23 hJ23 => ?_)
  ·skip
   obtain ⟨g6L23, g7L23, opf, op2, oou, opo, opc, lE⟩ := hP
   have hvc := hvc0.le lE
   try simp only [g6L23, g7L23]
   refine ob_i (opo.ld0 rfl) ?_
   refine ob_i (opc.ld0 rfl) ?_
   refine ob_i (vExt_20 _ _) ?_
   refine ob_i (vExt_21 _ _) ?_
   refine nw_i (fun pn H24 opn nn25 le26 => ?_)
   have apfXpn : Apart pf pn := opf.apart nn25
   have ap2Xpn : Apart p2 pn := op2.apart nn25
   have aouXpn : Apart ou pn := oou.apart nn25
   have apoXpn : Apart po pn := opo.apart nn25
   have apcXpn : Apart pc pn := opc.apart nn25
   have npn : Nw H pn := nn25.le lE
   replace opf := opf.le le26
   replace op2 := op2.le le26
   replace oou := oou.le le26
   replace opo := opo.le le26
   replace opc := opc.le le26
   replace hvc := hvc.le le26
   replace lE := lE.trans le26
   replace opn : Cel H24 pn [(.slice none 0 0)] := opn
   refine opn.st0 (by simp) oou.one oou.cells (fun H27 opn off28 => ?_)
   replace opf := opf.off off28 apfXpn
   replace op2 := op2.off off28 ap2Xpn
   replace oou := oou.off off28 aouXpn
   replace opo := opo.off off28 apoXpn
   replace opc := opc.off off28 apcXpn
   replace hvc := hvc0.le (off28.le lE npn)
   replace lE := off28.le lE npn
   replace opn : Cel H27 pn [ou] := opn
   refine bSE_fam (fun ps Sps H29 ops nn30 le32 => ?_)
   have apfXps : Apt pf Sps := Apt.of_nws opf.known nn30
   have ap2Xps : Apt p2 Sps := Apt.of_nws op2.known nn30
   have aouXps : Apt ou Sps := Apt.of_nws oou.known nn30
   have apoXps : Apt po Sps := Apt.of_nws opo.known nn30
   have apcXps : Apt pc Sps := Apt.of_nws opc.known nn30
   have apnXps : Apt pn Sps := Apt.of_nws opn.known nn30
   have nps : Nws H Sps := nn30.le lE
   replace opf := opf.le le32
   replace op2 := op2.le le32
   replace oou := oou.le le32
   replace opo := opo.le le32
   replace opc := opc.le le32
   replace opn := opn.le le32
   replace hvc := hvc.le le32
   replace lE := lE.trans le32
   refine bS_nil (enc := eI) (fun pl H33 opl nn34 kk35 le36 => ?_)
   have apfXpl : Apart pf pl := opf.apart nn34
   have ap2Xpl : Apart p2 pl := op2.apart nn34
   have aouXpl : Apart ou pl := oou.apart nn34
   have apoXpl : Apart po pl := opo.apart nn34
   have apcXpl : Apart pc pl := opc.apart nn34
   have apnXpl : Apart pn pl := opn.apart nn34
   have apsXpl : Apt Sps pl := Apt.of_nw ops.known nn34
   have npl : Nw H pl := nn34.le lE
   replace opf := opf.le le36
   replace op2 := op2.le le36
   replace oou := oou.le le36
   replace opo := opo.le le36
   replace opc := opc.le le36
   replace opn := opn.le le36
   replace ops := ops.le le36
   replace hvc := hvc.le le36
   replace lE := lE.trans le36
   refine jn_i (fun σ' H' => ∃ ps, ∃ Sps, ∃ pl, σ' 7 = ps ∧ σ' 8 = pl ∧ Cel H' pf [(.int .i64 (r)), (.int .i64 (c)), vc] ∧ Cel H' p2 [(.int .i64 (r)), (.int .i64 (c)), vc] ∧ Own eI H' ou (ouL c l (stsL c l l.length) []) ∧ Cel H' po [ou] ∧ Cel H' pc [(.int .i64 (((stsL c l l.length).length : Int)))] ∧ Cel H' pn [ou] ∧ Fam H' ps Sps (prtL r c l (stsL c l l.length)) ∧ Own eI H' pl (plcL r c l (stsL c l l.length)) ∧ Nws H Sps ∧ Apt pf Sps ∧ Apt p2 Sps ∧ Apt ou Sps ∧ Apt po Sps ∧ Apt pc Sps ∧ Apt pn Sps ∧ Nw H pl ∧ Apart pf pl ∧ Apart p2 pl ∧ Apart ou pl ∧ Apart po pl ∧ Apart pc pl ∧ Apart pn pl ∧ Apt Sps pl ∧ Le H H') (fun σ37 H37 hP => ?_) (fun J37 hJ37 => ?_)
   ·skip
    obtain ⟨ps, Sps, pl, g7L37, g8L37, opf, op2, oou, opo, opc, opn, ops, opl, nps, apfXps, ap2Xps, aouXps, apoXps, apcXps, apnXps, npl, apfXpl, ap2Xpl, aouXpl, apoXpl, apcXpl, apnXpl, apsXpl, lE⟩ := hP
    try simp only [g7L37, g8L37]
    skip
    have hok : fieldN 1 r c l := by assumption
    exact keq (K := K) (by rw [decide_eq_true (show (fieldN 1 r c l) from by exact hok)]) (hk  ps _ pl _ (Fam.cast (show prtL r c l (stsL c l l.length) = selL (fieldN 1 r c l) (prtL r c l (stsL c l l.length)) by exact (selL_t hok).symm) ops) (Own.cast (show plcL r c l (stsL c l l.length) = selL (fieldN 1 r c l) (plcL r c l (stsL c l l.length)) by exact (selL_t hok).symm) opl) nps npl apsXpl lE)
   refine ⟨fun n' σ' H' => ∃ t : Nat, n' = (stsL c l l.length).length - t ∧ t ≤ (stsL c l l.length).length ∧ ∃ ps, ∃ Sps, ∃ pl, σ' 1 = pf ∧ σ' 5 = pn ∧ σ' 7 = ps ∧ σ' 8 = pl ∧ σ' 27 = (.int .i64 (((stsL c l l.length).length : Int))) ∧ σ' 28 = (.int .i64 ((t : Int))) ∧ Cel H' pf [(.int .i64 (r)), (.int .i64 (c)), vc] ∧ Cel H' p2 [(.int .i64 (r)), (.int .i64 (c)), vc] ∧ Own eI H' ou (ouL c l (stsL c l l.length) []) ∧ Cel H' po [ou] ∧ Cel H' pc [(.int .i64 (((stsL c l l.length).length : Int)))] ∧ Cel H' pn [ou] ∧ Fam H' ps Sps (prtL r c l ((stsL c l l.length).take t)) ∧ Own eI H' pl (plcL r c l ((stsL c l l.length).take t)) ∧ Nws H Sps ∧ Apt pf Sps ∧ Apt p2 Sps ∧ Apt ou Sps ∧ Apt po Sps ∧ Apt pc Sps ∧ Apt pn Sps ∧ Nw H pl ∧ Apart pf pl ∧ Apart p2 pl ∧ Apart ou pl ∧ Apart po pl ∧ Apart pc pl ∧ Apart pn pl ∧ Apt Sps pl ∧ Le H H',
    ⟨_, 0, rfl, by omega, ps, Sps, pl, rfl, rfl, rfl, rfl, rfl, (congrArg (Value.int .i64) (by first | omega | rfl | (simp; done))), opf, op2, oou, opo, opc, opn, (Fam.cast (by first | rfl | (simp; done)) ops), (Own.cast (by first | rfl | (simp; done)) opl), nps, apfXps, ap2Xps, aouXps, apoXps, apcXps, apnXps, npl, apfXpl, ap2Xpl, aouXpl, apoXpl, apcXpl, apnXpl, apsXpl, lE⟩, ?_⟩
   rintro n38 σ38 H38 ⟨t, rfl, htN, ps, Sps, pl, g1L38, g5L38, g7L38, g8L38, g27L38, g28L38, opf, op2, oou, opo, opc, opn, ops, opl, nps, apfXps, ap2Xps, aouXps, apoXps, apcXps, apnXps, npl, apfXpl, ap2Xpl, aouXpl, apoXpl, apcXpl, apnXpl, apsXpl, lE⟩
   have hvc := hvc0.le lE
   try simp only [g1L38, g5L38, g7L38, g8L38, g27L38, g28L38]
   have sl := stsL_len (c := c) (l := l) l.length
   have pl1 := prtL_len (r := r) (c := c) (l := l) (L := (stsL c l l.length).take t)
   have pl2 := plcL_len (r := r) (c := c) (l := l) (L := (stsL c l l.length).take t)
   have pl3 : ((stsL c l l.length).take t).length = t := by rw [List.length_take]; omega
   refine ob_i (vInt_lss _ _ _) ?_
   refine cnd_d (fun hg39 => ?_) (fun hg39 => ?_)
   ·skip
    have tt := hg39
    refine nw_i (fun p40 H41 op40 nn42 le43 => ?_)
    have apfXp40 : Apart pf p40 := opf.apart nn42
    have ap2Xp40 : Apart p2 p40 := op2.apart nn42
    have aouXp40 : Apart ou p40 := oou.apart nn42
    have apoXp40 : Apart po p40 := opo.apart nn42
    have apcXp40 : Apart pc p40 := opc.apart nn42
    have apnXp40 : Apart pn p40 := opn.apart nn42
    have apsXp40 : Apt Sps p40 := Apt.of_nw ops.known nn42
    have aplXp40 : Apart pl p40 := opl.apart nn42
    have np40 : Nw H p40 := nn42.le lE
    replace opf := opf.le le43
    replace op2 := op2.le le43
    replace oou := oou.le le43
    replace opo := opo.le le43
    replace opc := opc.le le43
    replace opn := opn.le le43
    replace ops := ops.le le43
    replace opl := opl.le le43
    replace hvc := hvc.le le43
    replace lE := lE.trans le43
    replace op40 : Cel H41 p40 [(.int .i64 (0))] := op40
    refine op40.st0 (by simp) rfl rfl (fun H44 op40 off45 => ?_)
    replace opf := opf.off off45 apfXp40
    replace op2 := op2.off off45 ap2Xp40
    replace oou := oou.off off45 aouXp40
    replace opo := opo.off off45 apoXp40
    replace opc := opc.off off45 apcXp40
    replace opn := opn.off off45 apnXp40
    replace ops := ops.off off45 apsXp40
    replace opl := opl.off off45 aplXp40
    replace hvc := hvc0.le (off45.le lE np40)
    replace lE := off45.le lE np40
    replace op40 : Cel H44 p40 [(.int .i64 ((t : Int)))] := op40
    refine ob_i (opf.fa 0) ?_
    refine ob_i (opf.ld 0 rfl) ?_
    refine ob_i (opf.fa 1) ?_
    refine ob_i (opf.ld 1 rfl) ?_
    refine C.impl_madeField (g := (fun x y => if at_ 0 (ouL c l (stsL c l l.length) []) (x * c + y) = (t : Int) + 1 then 1 else 0)) (by omega) (by omega) (by omega) (by omega) (fun H49c i49 k49 Z leZ hi49 hk49 hZ => ?_) (fun al H46 oal nn47 le48 => ?_)
    ·refine ⟨by kernel_rfl, ?_⟩
     replace opf := opf.le leZ
     replace oou := oou.le leZ
     replace opn := opn.le leZ
     replace op40 := op40.le leZ
     replace lE := lE.trans leZ
     have lZ := Le.refl H49c
     refine C.impl_PartsOf_1 opn opf op40 oou.sl (by exact hs) (by rw [ouL_len]; exact hl) (by first | omega | assumption) (by first | omega | assumption) (by first | omega | assumption) (by first | omega | assumption) (by first | omega | assumption) (by first | omega | assumption) (fun   H50    le51 => ?_)
     replace lE := lE.trans le51
     replace lZ := lZ.trans le51
     exact keq (K := Z) (by rw [show ((if at_ 0 (ouL c l (stsL c l l.length) []) ((i49 : Int) * c + (k49 : Int)) = (t : Int) + 1 then 1 else 0) : Int) = ((fun x y => if at_ 0 (ouL c l (stsL c l l.length) []) (x * c + y) = (t : Int) + 1 then 1 else 0)) (i49 : Int) (k49 : Int) from rfl]) (hZ _ lZ)
    replace opf := opf.le le48
    replace op2 := op2.le le48
    replace oou := oou.le le48
    replace opo := opo.le le48
    replace opc := opc.le le48
    replace opn := opn.le le48
    replace ops := ops.le le48
    replace opl := opl.le le48
    replace hvc := hvc.le le48
    replace lE := lE.trans le48
    replace oal := oal.cast (prt_num hs hl (by omega))
    refine nw_i (fun p52 H53 op52 nn54 le55 => ?_)
    have apfXp52 : Apart pf p52 := opf.apart nn54
    have ap2Xp52 : Apart p2 p52 := op2.apart nn54
    have aouXp52 : Apart ou p52 := oou.apart nn54
    have apoXp52 : Apart po p52 := opo.apart nn54
    have apcXp52 : Apart pc p52 := opc.apart nn54
    have apnXp52 : Apart pn p52 := opn.apart nn54
    have apsXp52 : Apt Sps p52 := Apt.of_nw ops.known nn54
    have aplXp52 : Apart pl p52 := opl.apart nn54
    have aalXp52 : Apart al p52 := oal.apart nn54
    have np52 : Nw H p52 := nn54.le lE
    replace opf := opf.le le55
    replace op2 := op2.le le55
    replace oou := oou.le le55
    replace opo := opo.le le55
    replace opc := opc.le le55
    replace opn := opn.le le55
    replace ops := ops.le le55
    replace opl := opl.le le55
    replace oal := oal.le le55
    replace hvc := hvc.le le55
    replace lE := lE.trans le55
    replace op52 : Cel H53 p52 [(.int .i64 (0)), (.int .i64 (0)), (.slice none 0 0)] := op52
    refine op52.stn (ws := [(.int .i64 (r)), (.int .i64 (c)), al]) rfl rfl (oc1 rfl (oc1 rfl (oc1 oal.one oc0))) (fun H56 op52 off57 => ?_)
    replace opf := opf.off off57 apfXp52
    replace op2 := op2.off off57 ap2Xp52
    replace oou := oou.off off57 aouXp52
    replace opo := opo.off off57 apoXp52
    replace opc := opc.off off57 apcXp52
    replace opn := opn.off off57 apnXp52
    replace ops := ops.off off57 apsXp52
    replace opl := opl.off off57 aplXp52
    replace oal := oal.off off57 aalXp52
    replace hvc := hvc0.le (off57.le lE np52)
    replace lE := off57.le lE np52
    replace op52 : Cel H56 p52 [(.int .i64 (r)), (.int .i64 (c)), al] := op52
    refine ob_i (op52.ldn rfl) ?_
    have hpos : ¬ (trm r c (aloL c l (at_ 0 (stsL c l l.length) (t : Int)))).2.1 < 0 := by have := alo_pos hs hl (stsL_on (at_mem 0 (stsL c l l.length) (i := (t : Int)) (by omega) (by omega))).1; omega
    refine C.impl_Field_trimmed oal.sl (by first | omega | assumption) (by rw [aloL_len]; exact hl) (fun hc58  H59    le60 => ?_) (fun hc61 u64 H62 ou64 nn65  le63 => ?_)
    ·skip
     exact absurd hc58 hpos
    ·skip
     have apfXu64 : Apart pf u64 := opf.apart nn65
     have ap2Xu64 : Apart p2 u64 := op2.apart nn65
     have aouXu64 : Apart ou u64 := oou.apart nn65
     have apoXu64 : Apart po u64 := opo.apart nn65
     have apcXu64 : Apart pc u64 := opc.apart nn65
     have apnXu64 : Apart pn u64 := opn.apart nn65
     have apsXu64 : Apt Sps u64 := Apt.of_nw ops.known nn65
     have aplXu64 : Apart pl u64 := opl.apart nn65
     have nu64 : Nw H u64 := nn65.le lE
     replace opf := opf.le le63
     replace op2 := op2.le le63
     replace oou := oou.le le63
     replace opo := opo.le le63
     replace opc := opc.le le63
     replace opn := opn.le le63
     replace ops := ops.le le63
     replace opl := opl.le le63
     replace hvc := hvc.le le63
     replace lE := lE.trans le63
     refine ob_i (vExt_40 _ _ _ _) ?_
     refine ob_i (vExt_41 _ _ _ _) ?_
     refine ob_i (vExt_42 _ _ _ _) ?_
     refine ob_i (vExt_43 _ _ _ _) ?_
     refine nw_i (fun p66 H67 op66 nn68 le69 => ?_)
     have apfXp66 : Apart pf p66 := opf.apart nn68
     have ap2Xp66 : Apart p2 p66 := op2.apart nn68
     have aouXp66 : Apart ou p66 := oou.apart nn68
     have apoXp66 : Apart po p66 := opo.apart nn68
     have apcXp66 : Apart pc p66 := opc.apart nn68
     have apnXp66 : Apart pn p66 := opn.apart nn68
     have apsXp66 : Apt Sps p66 := Apt.of_nw ops.known nn68
     have aplXp66 : Apart pl p66 := opl.apart nn68
     have au64Xp66 : Apart u64 p66 := ou64.apart nn68
     have np66 : Nw H p66 := nn68.le lE
     replace opf := opf.le le69
     replace op2 := op2.le le69
     replace oou := oou.le le69
     replace opo := opo.le le69
     replace opc := opc.le le69
     replace opn := opn.le le69
     replace ops := ops.le le69
     replace opl := opl.le le69
     replace ou64 := ou64.le le69
     replace hvc := hvc.le le69
     replace lE := lE.trans le69
     replace op66 : Cel H67 p66 [(.int .i64 (0)), (.int .i64 (0)), (.slice none 0 0)] := op66
     refine op66.stn (ws := [(.int .i64 (trR r c (aloL c l (at_ 0 (stsL c l l.length) (t : Int))))), (.int .i64 (trC r c (aloL c l (at_ 0 (stsL c l l.length) (t : Int))))), u64]) rfl rfl (oc1 rfl (oc1 rfl (oc1 ou64.one oc0))) (fun H70 op66 off71 => ?_)
     replace opf := opf.off off71 apfXp66
     replace op2 := op2.off off71 ap2Xp66
     replace oou := oou.off off71 aouXp66
     replace opo := opo.off off71 apoXp66
     replace opc := opc.off off71 apcXp66
     replace opn := opn.off off71 apnXp66
     replace ops := ops.off off71 apsXp66
     replace opl := opl.off off71 aplXp66
     replace ou64 := ou64.off off71 au64Xp66
     replace hvc := hvc0.le (off71.le lE np66)
     replace lE := off71.le lE np66
     replace op66 : Cel H70 p66 [(.int .i64 (trR r c (aloL c l (at_ 0 (stsL c l l.length) (t : Int))))), (.int .i64 (trC r c (aloL c l (at_ 0 (stsL c l l.length) (t : Int))))), u64] := op66
     refine ob_i (op66.ldn rfl) ?_
     refine bSE_one (enc := encFv) (x := (⟨trR r c (aloL c l (at_ 0 (stsL c l l.length) (t : Int))), trC r c (aloL c l (at_ 0 (stsL c l l.length) (t : Int))), u64⟩ : Fv)) rfl rfl (by omega) (by omega) rfl (fun u72 H73 ou72 nn74 le76 => ?_) rfl
     replace opf := opf.le le76
     replace op2 := op2.le le76
     replace oou := oou.le le76
     replace opo := opo.le le76
     replace opc := opc.le le76
     replace opn := opn.le le76
     replace ops := ops.le le76
     replace opl := opl.le le76
     replace ou64 := ou64.le le76
     replace hvc := hvc.le le76
     replace lE := lE.trans le76
     refine Fam.push ops rfl (ou72.sl encFv_n) ou64 apsXu64.symm (by omega) (by first | omega | (simp; omega)) (fun u81 Su81 H77 ou81 off78 hb79 hx80 oxu64 => ?_)
     have apfXu81 : Apt pf Su81 := Apt.push opf.known apfXps apfXu64 hb79
     have ap2Xu81 : Apt p2 Su81 := Apt.push op2.known ap2Xps ap2Xu64 hb79
     have aouXu81 : Apt ou Su81 := Apt.push oou.known aouXps aouXu64 hb79
     have apoXu81 : Apt po Su81 := Apt.push opo.known apoXps apoXu64 hb79
     have apcXu81 : Apt pc Su81 := Apt.push opc.known apcXps apcXu64 hb79
     have apnXu81 : Apt pn Su81 := Apt.push opn.known apnXps apnXu64 hb79
     have aplXu81 : Apt pl Su81 := Apt.push opl.known apsXpl.symm aplXu64 hb79
     have nu81 : Nws H Su81 := Nws.push lE nps nu64 hb79
     replace opf := opf.offS off78 apfXps
     replace op2 := op2.offS off78 ap2Xps
     replace oou := oou.offS off78 aouXps
     replace opo := opo.offS off78 apoXps
     replace opc := opc.offS off78 apcXps
     replace opn := opn.offS off78 apnXps
     replace opl := opl.offS off78 apsXpl.symm
     replace hvc := hvc0.le (off78.le lE nps)
     replace lE := off78.le lE nps
     replace ou64 := oxu64.ro
     refine bS_i (enc := eI) (l := [(trm r c (aloL c l (at_ 0 (stsL c l l.length) (t : Int)))).1, (trm r c (aloL c l (at_ 0 (stsL c l l.length) (t : Int)))).2.2.1]) (by omega) rfl (by kernel_rfl) (fun u82 H83 ou82 nn84 le86 => ?_)
     replace opf := opf.le le86
     replace op2 := op2.le le86
     replace oou := oou.le le86
     replace opo := opo.le le86
     replace opc := opc.le le86
     replace opn := opn.le le86
     replace opl := opl.le le86
     replace ou81 := ou81.le le86
     replace hvc := hvc.le le86
     replace lE := lE.trans le86
     refine apd_any opl ou82.sl (fun _ => rfl) (by omega) (by first | omega | (simp only [List.length_cons, List.length_nil]; omega)) (fun u90 H87 ou90 off88 hb89 => ?_)
     have apfXu90 : Apart pf u90 := Apart.ap2 opf.known apfXpl hb89
     have ap2Xu90 : Apart p2 u90 := Apart.ap2 op2.known ap2Xpl hb89
     have aouXu90 : Apart ou u90 := Apart.ap2 oou.known aouXpl hb89
     have apoXu90 : Apart po u90 := Apart.ap2 opo.known apoXpl hb89
     have apcXu90 : Apart pc u90 := Apart.ap2 opc.known apcXpl hb89
     have apnXu90 : Apart pn u90 := Apart.ap2 opn.known apnXpl hb89
     have au81Xu90 : Apt Su81 u90 := Apt.ap2 ou81.known aplXu81.symm hb89
     have nu90 : Nw H u90 := Nw.ap2 npl lE hb89
     replace opf := opf.off off88 apfXpl
     replace op2 := op2.off off88 ap2Xpl
     replace oou := oou.off off88 aouXpl
     replace opo := opo.off off88 apoXpl
     replace opc := opc.off off88 apcXpl
     replace opn := opn.off off88 apnXpl
     replace ou81 := ou81.off off88 aplXu81.symm
     replace hvc := hvc0.le (off88.le lE npl)
     replace lE := off88.le lE npl
     refine ob_i (vInt_add (by omega) (by omega)) ?_
     exact nxt ((stsL c l l.length).length - (t + 1)) (by omega) ⟨t + 1, rfl, by omega, u81, Su81, u90, g1L38, g5L38, rfl, rfl, g27L38, (congrArg (Value.int .i64) (by first | omega | rfl | (simp; done))), opf, op2, oou, opo, opc, opn, (Fam.cast (by rw [take_at 0 (stsL c l l.length) (show t < (stsL c l l.length).length by omega)]; exact prtL_snoc _) ou81), (Own.cast (by rw [take_at 0 (stsL c l l.length) (show t < (stsL c l l.length).length by omega)]; exact plcL_snoc _) ou90), nu81, apfXu81, ap2Xu81, aouXu81, apoXu81, apcXu81, apnXu81, nu90, apfXu90, ap2Xu90, aouXu90, apoXu90, apcXu90, apnXu90, au81Xu90, lE⟩
   ·skip
    have tt := hg39
    rw [List.take_of_length_le (by omega)] at ops opl
    exact hJ37 _ _ ⟨ps, Sps, pl, g7L38, g8L38, opf, op2, oou, opo, opc, opn, ops, opl, nps, apfXps, ap2Xps, aouXps, apoXps, apcXps, apnXps, npl, apfXpl, ap2Xpl, aouXpl, apoXpl, apcXpl, apnXpl, apsXpl, lE⟩
  refine ob_i (op2.fa 2) ?_
  refine ob_i (op2.ld 2 rfl) ?_
  refine ob_i (hvc.len) ?_
  refine ⟨fun n' σ' H' => ∃ i : Nat, n' = l.length - i ∧ i ≤ l.length ∧ σ' 1 = (.func (.func I.impl_Field_corners) #[(.agg #[(.int .i64 (r)), (.int .i64 (c)), vc])] #[]) ∧ σ' 2 = p2 ∧ σ' 6 = po ∧ σ' 7 = pc ∧ σ' 17 = vc ∧ σ' 18 = (.int .i64 (((l).length : Int))) ∧ σ' 19 = (.int .i64 ((i : Int))) ∧ Cel H' pf [(.int .i64 (r)), (.int .i64 (c)), vc] ∧ Cel H' p2 [(.int .i64 (r)), (.int .i64 (c)), vc] ∧ Own eI H' ou (ouL c l (stsL c l i) []) ∧ Cel H' po [ou] ∧ Cel H' pc [(.int .i64 (((stsL c l i).length : Int)))] ∧ Le H H',
   ⟨_, 0, rfl, by omega, rfl, rfl, rfl, rfl, rfl, rfl, (congrArg (Value.int .i64) (by first | omega | rfl | (simp; done))), opf, op2, (Own.cast (by rw [ouL_zero]; simp) oou), opo, (Cel.cast (by first | rfl | (simp [stsL]; done)) opc), lE⟩, ?_⟩
  rintro n91 σ91 H91 ⟨i, rfl, hiN, g1L91, g2L91, g6L91, g7L91, g17L91, g18L91, g19L91, opf, op2, oou, opo, opc, lE⟩
  have hvc := hvc0.le lE
  try simp only [g6L91, g7L91, g17L91, g18L91, g19L91]
  have sl := stsL_len (c := c) (l := l) i
  have oL := ouL_len (c := c) (l := l) (L := (stsL c l i)) (ls := [])
  refine ob_i (vInt_lss _ _ _) ?_
  refine cnd_d (fun hg92 => ?_) (fun hg92 => ?_)
  ·skip
   have ti := hg92
   refine jn_i (fun σ' H' => σ' 1 = (.func (.func I.impl_Field_corners) #[(.agg #[(.int .i64 (r)), (.int .i64 (c)), vc])] #[]) ∧ σ' 2 = p2 ∧ σ' 6 = po ∧ σ' 7 = pc ∧ σ' 17 = vc ∧ σ' 18 = (.int .i64 (((l).length : Int))) ∧ σ' 19 = (.int .i64 ((i : Int))) ∧ Cel H' pf [(.int .i64 (r)), (.int .i64 (c)), vc] ∧ Cel H' p2 [(.int .i64 (r)), (.int .i64 (c)), vc] ∧ Own eI H' ou (ouL c l (stsL c l (i + 1)) []) ∧ Cel H' po [ou] ∧ Cel H' pc [(.int .i64 (((stsL c l (i + 1)).length : Int)))] ∧ Le H H') (fun σ93 H93 hP => ?_) (fun J93 hJ93 => ?_)
   ·skip
    obtain ⟨g1L93, g2L93, g6L93, g7L93, g17L93, g18L93, g19L93, opf, op2, oou, opo, opc, lE⟩ := hP
    try simp only [g19L93]
    refine ob_i (vInt_add (by omega) (by omega)) ?_
    exact nxt (l.length - (i + 1)) (by omega) ⟨i + 1, rfl, by omega, g1L93, g2L93, g6L93, g7L93, g17L93, g18L93, (congrArg (Value.int .i64) (by first | omega | rfl | (simp; done))), opf, op2, oou, opo, opc, lE⟩
   refine ob_i (hvc.ix (by omega) (by omega)) ?_
   refine ob_i (hvc.ld 0 (by omega) (by omega)) ?_
   refine ob_i (vInt_neq _ _ _) ?_
   by_cases hc94 : (at_ 0 (l) ((i : Int))) ≠ 1
   ·skip
    refine gop_e (decide_eq_true hc94) ?_
    refine gop_st ?_
    refine gop_e (decide_eq_true hc94) ?_
    refine gop_st ?_
    refine gop_e (decide_eq_true hc94) ?_
    refine gop_st ?_
    refine gop_e (decide_eq_true hc94) ?_
    refine gop_st ?_
    refine gop_e (decide_eq_true hc94) ?_
    refine gop_st ?_
    refine ob_i (vPick_et (decide_eq_true hc94) _ _) ?_
    refine cnd_t1 ?_
    have hno : stsL c l (i + 1) = (stsL c l i) := stsL_f (fun g => hc94 g.1.2)
    exact hJ93 _ _ ⟨g1L91, g2L91, g6L91, g7L91, g17L91, g18L91, g19L91, opf, op2, (Own.cast (by rw [hno]) oou), opo, (Cel.cast (by rw [hno]) opc), lE⟩
   ·skip
    refine gop_e (decide_eq_false hc94) ?_
    refine gop_rf ?_
    refine ob_i (opo.ld0 rfl) ?_
    refine gop_e (decide_eq_false hc94) ?_
    refine gop_rf ?_
    refine gop_e (decide_eq_false hc94) ?_
    refine gop_rf ?_
    refine ob_i (oou.sl.ix (by omega) (by omega)) ?_
    refine gop_e (decide_eq_false hc94) ?_
    refine gop_rf ?_
    refine ob_i (oou.sl.ld 0 (by omega) (by omega)) ?_
    refine gop_e (decide_eq_false hc94) ?_
    refine gop_rf ?_
    refine ob_i (vInt_neq _ _ _) ?_
    refine ob_i (vPick_ef (decide_eq_false hc94) _ _) ?_
    refine cnd_d (fun hg95 => ?_) (fun hg95 => ?_)
    ·skip
     have hno : stsL c l (i + 1) = (stsL c l i) := stsL_f (fun g => (ouL_t (by omega) hg95).elim (fun ⟨s, h1, h2⟩ => g.2 s h1 h2) (fun h1 => by simp at h1))
     exact hJ93 _ _ ⟨g1L91, g2L91, g6L91, g7L91, g17L91, g18L91, g19L91, opf, op2, (Own.cast (by rw [hno]) oou), opo, (Cel.cast (by rw [hno]) opc), lE⟩
    ·skip
     refine ob_i (opc.ld0 rfl) ?_
     refine ob_i (vInt_add (by omega) (by omega)) ?_
     refine opc.st0 (by simp) rfl rfl (fun H96 opc off97 => ?_)
     replace opf := opf.off off97 apfXpc
     replace op2 := op2.off off97 ap2Xpc
     replace oou := oou.off off97 aouXpc
     replace opo := opo.off off97 apoXpc
     replace hvc := hvc0.le (off97.le lE npc)
     replace lE := off97.le lE npc
     replace opc : Cel H96 pc [(.int .i64 ((((stsL c l i).length : Int)) + 1))] := opc
     refine ob_i (opo.ld0 rfl) ?_
     refine ob_i (opc.ld0 rfl) ?_
     refine ob_i (oou.sl.ix (by omega) (by omega)) ?_
     refine oou.st (x := (((stsL c l i).length : Int)) + 1) (by omega) (by omega) rfl rfl (fun H98 oou off99 => ?_)
     replace opf := opf.off off99 apfXou
     replace op2 := op2.off off99 ap2Xou
     replace opo := opo.off off99 aouXpo.symm
     replace opc := opc.off off99 aouXpc.symm
     replace hvc := hvc0.le (off99.le lE nou)
     replace lE := off99.le lE nou
     refine bS_i (enc := eI) (l := [(i : Int)]) (by omega) rfl (by kernel_rfl) (fun td0 H100 otd0 nn101 le103 => ?_)
     have apfXtd0 : Apart pf td0 := opf.apart nn101
     have ap2Xtd0 : Apart p2 td0 := op2.apart nn101
     have aouXtd0 : Apart ou td0 := oou.apart nn101
     have apoXtd0 : Apart po td0 := opo.apart nn101
     have apcXtd0 : Apart pc td0 := opc.apart nn101
     have ntd0 : Nw H td0 := nn101.le lE
     replace opf := opf.le le103
     replace op2 := op2.le le103
     replace oou := oou.le le103
     replace opo := opo.le le103
     replace opc := opc.le le103
     replace hvc := hvc.le le103
     replace lE := lE.trans le103
     refine nw_i (fun ptd H104 optd nn105 le106 => ?_)
     have apfXptd : Apart pf ptd := opf.apart nn105
     have ap2Xptd : Apart p2 ptd := op2.apart nn105
     have aouXptd : Apart ou ptd := oou.apart nn105
     have apoXptd : Apart po ptd := opo.apart nn105
     have apcXptd : Apart pc ptd := opc.apart nn105
     have atd0Xptd : Apart td0 ptd := otd0.apart nn105
     have nptd : Nw H ptd := nn105.le lE
     replace opf := opf.le le106
     replace op2 := op2.le le106
     replace oou := oou.le le106
     replace opo := opo.le le106
     replace opc := opc.le le106
     replace otd0 := otd0.le le106
     replace hvc := hvc.le le106
     replace lE := lE.trans le106
     replace optd : Cel H104 ptd [(.slice none 0 0)] := optd
     refine optd.st0 (by simp) otd0.one otd0.cells (fun H107 optd off108 => ?_)
     replace opf := opf.off off108 apfXptd
     replace op2 := op2.off off108 ap2Xptd
     replace oou := oou.off off108 aouXptd
     replace opo := opo.off off108 apoXptd
     replace opc := opc.off off108 apcXptd
     replace otd0 := otd0.off off108 atd0Xptd
     replace hvc := hvc0.le (off108.le lE nptd)
     replace lE := off108.le lE nptd
     replace optd : Cel H107 ptd [td0] := optd
     have hon : onP l i := ⟨by omega, Decidable.not_not.mp hc94⟩
     have hnr : ∀ s ∈ (stsL c l i), ¬ Rch c l s i := (ouL_f (by omega) (Decidable.not_not.mp hg95)).1
     refine ⟨fun n' σ' H' => ∃ t : Nat, n' = l.length - t ∧ t ≤ l.length ∧ ∃ td, ∃ ls : List Int, ∃ tds : List Int, σ' 1 = (.func (.func I.impl_Field_corners) #[(.agg #[(.int .i64 (r)), (.int .i64 (c)), vc])] #[]) ∧ σ' 2 = p2 ∧ σ' 6 = po ∧ σ' 7 = pc ∧ σ' 10 = ptd ∧ σ' 17 = vc ∧ σ' 18 = (.int .i64 (((l).length : Int))) ∧ σ' 19 = (.int .i64 ((i : Int))) ∧ Cel H' pf [(.int .i64 (r)), (.int .i64 (c)), vc] ∧ Cel H' p2 [(.int .i64 (r)), (.int .i64 (c)), vc] ∧ Own eI H' ou (ouL c l (stsL c l i) ls) ∧ Cel H' po [ou] ∧ Cel H' pc [(.int .i64 ((((stsL c l i).length : Int)) + 1))] ∧ Cel H' ptd [td] ∧ Own eI H' td (tds) ∧ Nw H td ∧ Apart pf td ∧ Apart p2 td ∧ Apart ou td ∧ Apart po td ∧ Apart pc td ∧ Apart ptd td ∧ Le H H' ∧ stS c l i ls tds ∧ t + tds.length = ls.length,
      ⟨_, 0, rfl, by omega, td0, [(i : Int)], [(i : Int)], g1L91, g2L91, g6L91, g7L91, rfl, g17L91, g18L91, g19L91, opf, op2, (Own.cast (ouL_set hon.1 hnr) oou), opo, opc, optd, (Own.cast (by first | rfl | (simp; done)) otd0), ntd0, apfXtd0, ap2Xtd0, aouXtd0, apoXtd0, apcXtd0, atd0Xptd.symm, lE, (stS_start hon), rfl⟩, ?_⟩
     rintro n109 σ109 H109 ⟨t, rfl, htN, td, ls, tds, g1L109, g2L109, g6L109, g7L109, g10L109, g17L109, g18L109, g19L109, opf, op2, oou, opo, opc, optd, otd, ntd, apfXtd, ap2Xtd, aouXtd, apoXtd, apcXtd, aptdXtd, lE, hst, hct⟩
     have hvc := hvc0.le lE
     try simp only [g1L109, g2L109, g6L109, g7L109, g10L109]
     have sl2 := stS_len hst
     have oL2 := ouL_len (c := c) (l := l) (L := (stsL c l i)) (ls := ls)
     refine ob_i (optd.ld0 rfl) ?_
     refine ob_i (otd.len) ?_
     refine ob_i (vInt_gtr _ _ _) ?_
     refine cnd_d (fun hg110 => ?_) (fun hg110 => ?_)
     ·skip
      have tt := hg110
      have hsp := stS_pop hst (by omega)
      have hsl := stN_len hsp
      have rb := rc_bnd (r := r) (c := c) (x := at_ 0 (tds) ((tds.length : Int) - 1)) (by omega) hsl.2.2.1 (by omega) rfl rfl
      refine ob_i (optd.ld0 rfl) ?_
      refine ob_i (optd.ld0 rfl) ?_
      refine ob_i (otd.len) ?_
      refine ob_i (vInt_sub (by omega) (by omega)) ?_
      refine ob_i (otd.sl.ix (by omega) (by omega)) ?_
      refine ob_i (otd.sl.ld 0 (by omega) (by omega)) ?_
      refine ob_i (optd.ld0 rfl) ?_
      refine ob_i (optd.ld0 rfl) ?_
      refine ob_i (otd.len) ?_
      refine ob_i (vInt_sub (by omega) (by omega)) ?_
      obtain ⟨x111, eq112, ox111, hb113⟩ := otd.trunc (n := ((((tds).length : Int)) - 1 : Int)) (by omega) (by omega)
      refine ob_i (eq112) ?_
      have apfXx111 : Apart pf x111 := fun b h1 h2 => apfXtd b h1 (hb113 b h2)
      have ap2Xx111 : Apart p2 x111 := fun b h1 h2 => ap2Xtd b h1 (hb113 b h2)
      have aouXx111 : Apart ou x111 := fun b h1 h2 => aouXtd b h1 (hb113 b h2)
      have apoXx111 : Apart po x111 := fun b h1 h2 => apoXtd b h1 (hb113 b h2)
      have apcXx111 : Apart pc x111 := fun b h1 h2 => apcXtd b h1 (hb113 b h2)
      have aptdXx111 : Apart ptd x111 := fun b h1 h2 => aptdXtd b h1 (hb113 b h2)
      have nx111 : Nw H x111 := fun b h2 => ntd b (hb113 b h2)
      refine optd.st0 (by simp) ox111.one ox111.cells (fun H114 optd off115 => ?_)
      replace opf := opf.off off115 apfXptd
      replace op2 := op2.off off115 ap2Xptd
      replace oou := oou.off off115 aouXptd
      replace opo := opo.off off115 apoXptd
      replace opc := opc.off off115 apcXptd
      replace ox111 := ox111.off off115 aptdXx111.symm
      replace hvc := hvc0.le (off115.le lE nptd)
      replace lE := off115.le lE nptd
      replace optd : Cel H114 ptd [x111] := optd
      refine ob_i (op2.fa 1) ?_
      refine ob_i (op2.ld 1 rfl) ?_
      refine ob_i (vInt_quoN (by omega) (by omega) (by omega)) ?_
      refine ob_i (op2.fa 1) ?_
      refine ob_i (op2.ld 1 rfl) ?_
      have rm116 := And.intro (Int.emod_nonneg (at_ 0 (tds) ((((tds).length : Int)) - 1)) (b := c) (by omega)) (Int.emod_lt_of_pos (at_ 0 (tds) ((((tds).length : Int)) - 1)) (b := c) (by omega))
      refine ob_i (vInt_remN (by omega) (by omega)) ?_
      refine ⟨by kernel_rfl, ?_⟩
      obtain ⟨X0, hX0⟩ : ∃ X0, X0 = at_ 0 (tds) ((tds.length : Int) - 1) := ⟨_, rfl⟩
      rw [← hX0] at hsp rb
      rw [show ((tds.length : Int) - 1).toNat = tds.length - 1 by omega] at ox111
      rw [← hX0]
      refine C.impl_Field_corners (Inv := fun ya yb H' => ∃ td, ∃ ls : List Int, ∃ tds : List Int, Cel H' pf [(.int .i64 (r)), (.int .i64 (c)), vc] ∧ Cel H' p2 [(.int .i64 (r)), (.int .i64 (c)), vc] ∧ Own eI H' ou (ouL c l (stsL c l i) ls) ∧ Cel H' po [ou] ∧ Cel H' pc [(.int .i64 ((((stsL c l i).length : Int)) + 1))] ∧ Cel H' ptd [td] ∧ Own eI H' td (tds) ∧ Nw H td ∧ Apart pf td ∧ Apart p2 td ∧ Apart ou td ∧ Apart po td ∧ Apart pc td ∧ Apart ptd td ∧ Le H H' ∧ stN c l i ls tds X0 ya yb ∧ t + 1 + tds.length = ls.length) hs (by omega) (by omega) (by omega) (by omega) ⟨x111, _, _, opf, op2, oou, opo, opc, optd, ox111, nx111, apfXx111, ap2Xx111, aouXx111, apoXx111, apcXx111, aptdXx111, lE, hsp, (by rw [List.length_take]; omega)⟩ (fun ya yb A117 B117 hI117 le117 => ?_) (fun ya yb A117 hno117 g1 g2 g3 g4 hI117 => ?_) (fun ya A117 g1 g2 hI117 => ?_) (fun ya yb A117 Z117 hin hne g1 g2 g3 g4 hI117 hZ117 => ?_) (fun A117 hI117 => ?_)
      ·obtain ⟨td, ls, tds, opf, op2, oou, opo, opc, optd, otd, ntd, apfXtd, ap2Xtd, aouXtd, apoXtd, apcXtd, aptdXtd, lE, hsn, hcm⟩ := hI117
       exact ⟨td, ls, tds, (opf.le le117), (op2.le le117), (oou.le le117), (opo.le le117), (opc.le le117), (optd.le le117), (otd.le le117), ntd, apfXtd, ap2Xtd, aouXtd, apoXtd, apcXtd, aptdXtd, (lE.trans le117), hsn, hcm⟩
      ·obtain ⟨td, ls, tds, opf, op2, oou, opo, opc, optd, otd, ntd, apfXtd, ap2Xtd, aouXtd, apoXtd, apcXtd, aptdXtd, lE, hsn, hcm⟩ := hI117
       exact ⟨td, ls, tds, opf, op2, oou, opo, opc, optd, otd, ntd, apfXtd, ap2Xtd, aouXtd, apoXtd, apcXtd, aptdXtd, lE, (stN_out hs hl hsn hno117), hcm⟩
      ·obtain ⟨td, ls, tds, opf, op2, oou, opo, opc, optd, otd, ntd, apfXtd, ap2Xtd, aouXtd, apoXtd, apcXtd, aptdXtd, lE, hsn, hcm⟩ := hI117
       exact ⟨td, ls, tds, opf, op2, oou, opo, opc, optd, otd, ntd, apfXtd, ap2Xtd, aouXtd, apoXtd, apcXtd, aptdXtd, lE, (stN_row hsn), hcm⟩
      ·obtain ⟨td, ls, tds, opf, op2, oou, opo, opc, optd, otd, ntd, apfXtd, ap2Xtd, aouXtd, apoXtd, apcXtd, aptdXtd, lE, hsn, hcm⟩ := hI117
       have hvc := hvc0.le lE
       have pq := pq_dm (r := r) (c := c) hin.1.1 hin.1.2 hin.2.1 hin.2.2
       have hsl := stN_len hsn
       have oL := ouL_len (c := c) (l := l) (L := (stsL c l i)) (ls := ls)
       refine ⟨by kernel_rfl, ?_⟩
       refine R.impl_Field_clusters_1 ?_
       unfold F.impl_Field_clusters_1
       refine ob_i (op2.fa 1) ?_
       refine ob_i (op2.ld 1 rfl) ?_
       refine ob_i (vInt_mul (by omega) (by omega)) ?_
       refine ob_i (vInt_add (by omega) (by omega)) ?_
       refine ob_i (op2.fa 2) ?_
       refine ob_i (op2.ld 2 rfl) ?_
       refine ob_i (hvc.ix (by omega) (by omega)) ?_
       refine ob_i (hvc.ld 0 (by omega) (by omega)) ?_
       refine ob_i (vInt_eql _ _ _) ?_
       by_cases hc118 : (at_ 0 (l) ((ya * c) + yb)) = 1
       ·skip
        refine gop_e (decide_eq_true hc118) ?_
        refine gop_rt ?_
        refine ob_i (opo.ld0 rfl) ?_
        refine gop_e (decide_eq_true hc118) ?_
        refine gop_rt ?_
        refine gop_e (decide_eq_true hc118) ?_
        refine gop_rt ?_
        refine ob_i (oou.sl.ix (by omega) (by omega)) ?_
        refine gop_e (decide_eq_true hc118) ?_
        refine gop_rt ?_
        refine ob_i (oou.sl.ld 0 (by omega) (by omega)) ?_
        refine gop_e (decide_eq_true hc118) ?_
        refine gop_rt ?_
        refine ob_i (vInt_eql _ _ _) ?_
        refine ob_i (vPick_et (decide_eq_true hc118) _ _) ?_
        refine cnd_d (fun hg119 => ?_) (fun hg119 => ?_)
        ·skip
         refine ob_i (opo.ld0 rfl) ?_
         refine ob_i (opc.ld0 rfl) ?_
         refine ob_i (oou.sl.ix (by omega) (by omega)) ?_
         refine oou.st (x := (((stsL c l i).length : Int)) + 1) (by omega) (by omega) rfl rfl (fun H120 oou off121 => ?_)
         replace opf := opf.off off121 apfXou
         replace op2 := op2.off off121 ap2Xou
         replace opo := opo.off off121 aouXpo.symm
         replace opc := opc.off off121 aouXpc.symm
         replace optd := optd.off off121 aouXptd.symm
         replace otd := otd.off off121 aouXtd.symm
         replace hvc := hvc0.le (off121.le lE nou)
         replace lE := off121.le lE nou
         refine ob_i (optd.ld0 rfl) ?_
         refine bS_i (enc := eI) (l := [(ya * c) + yb]) (by omega) rfl (by kernel_rfl) (fun u122 H123 ou122 nn124 le126 => ?_)
         replace opf := opf.le le126
         replace op2 := op2.le le126
         replace oou := oou.le le126
         replace opo := opo.le le126
         replace opc := opc.le le126
         replace optd := optd.le le126
         replace otd := otd.le le126
         replace hvc := hvc.le le126
         replace lE := lE.trans le126
         refine apd_any otd ou122.sl (fun _ => rfl) (by omega) (by first | omega | (simp only [List.length_cons, List.length_nil]; omega)) (fun u130 H127 ou130 off128 hb129 => ?_)
         have apfXu130 : Apart pf u130 := Apart.ap2 opf.known apfXtd hb129
         have ap2Xu130 : Apart p2 u130 := Apart.ap2 op2.known ap2Xtd hb129
         have aouXu130 : Apart ou u130 := Apart.ap2 oou.known aouXtd hb129
         have apoXu130 : Apart po u130 := Apart.ap2 opo.known apoXtd hb129
         have apcXu130 : Apart pc u130 := Apart.ap2 opc.known apcXtd hb129
         have aptdXu130 : Apart ptd u130 := Apart.ap2 optd.known aptdXtd hb129
         have nu130 : Nw H u130 := Nw.ap2 ntd lE hb129
         replace opf := opf.off off128 apfXtd
         replace op2 := op2.off off128 ap2Xtd
         replace oou := oou.off off128 aouXtd
         replace opo := opo.off off128 apoXtd
         replace opc := opc.off off128 apcXtd
         replace optd := optd.off off128 aptdXtd
         replace hvc := hvc0.le (off128.le lE ntd)
         replace lE := off128.le lE ntd
         refine optd.st0 (by simp) ou130.one ou130.cells (fun H131 optd off132 => ?_)
         replace opf := opf.off off132 apfXptd
         replace op2 := op2.off off132 ap2Xptd
         replace oou := oou.off off132 aouXptd
         replace opo := opo.off off132 apoXptd
         replace opc := opc.off off132 apcXptd
         replace ou130 := ou130.off off132 aptdXu130.symm
         replace hvc := hvc0.le (off132.le lE nptd)
         replace lE := off132.le lE nptd
         replace optd : Cel H131 ptd [u130] := optd
         have hp := stN_put (L := (stsL c l i)) hs hl hin.1.1 hin.1.2 hin.2.1 hin.2.2 hsn ⟨by omega, by omega⟩ ⟨by omega, by omega⟩ hc118 hg119
         exact hZ117 _ ⟨u130, _, _, opf, op2, (Own.cast hp.2 oou), opo, opc, optd, ou130, nu130, apfXu130, ap2Xu130, aouXu130, apoXu130, apcXu130, aptdXu130, lE, hp.1, (by simp only [List.length_append, List.length_singleton]; omega)⟩
        ·skip
         have hp := stN_told (L := (stsL c l i)) hs hin.1.1 hin.1.2 hin.2.1 hin.2.2 hsn ⟨by omega, by omega⟩ ⟨by omega, by omega⟩ hnr (fun _ => hg119)
         exact hZ117 _ ⟨td, _, _, opf, op2, oou, opo, opc, optd, otd, ntd, apfXtd, ap2Xtd, aouXtd, apoXtd, apcXtd, aptdXtd, lE, hp, hcm⟩
       ·skip
        refine gop_e (decide_eq_false hc118) ?_
        refine gop_sf ?_
        refine gop_e (decide_eq_false hc118) ?_
        refine gop_sf ?_
        refine gop_e (decide_eq_false hc118) ?_
        refine gop_sf ?_
        refine gop_e (decide_eq_false hc118) ?_
        refine gop_sf ?_
        refine gop_e (decide_eq_false hc118) ?_
        refine gop_sf ?_
        refine ob_i (vPick_ef (decide_eq_false hc118) _ _) ?_
        refine cnd_f1 ?_
        have hp := stN_told (L := (stsL c l i)) hs hin.1.1 hin.1.2 hin.2.1 hin.2.2 hsn ⟨by omega, by omega⟩ ⟨by omega, by omega⟩ hnr (fun h => absurd h hc118)
        exact hZ117 _ ⟨td, _, _, opf, op2, oou, opo, opc, optd, otd, ntd, apfXtd, ap2Xtd, aouXtd, apoXtd, apcXtd, aptdXtd, lE, hp, hcm⟩
      obtain ⟨td, ls, tds, opf, op2, oou, opo, opc, optd, otd, ntd, apfXtd, ap2Xtd, aouXtd, apoXtd, apcXtd, aptdXtd, lE, hsn, hcm⟩ := hI117
      exact nxt (l.length - (t + 1)) (by omega) ⟨t + 1, rfl, by omega, td, _, _, g1L109, g2L109, g6L109, g7L109, g10L109, g17L109, g18L109, g19L109, opf, op2, oou, opo, opc, optd, otd, ntd, apfXtd, ap2Xtd, aouXtd, apoXtd, apcXtd, aptdXtd, lE, (stN_end hsn), (by omega)⟩
     ·skip
      have tt := hg110
      have hend := stS_end (show stS c l i ls [] by rw [← List.length_eq_zero_iff.mp (show tds.length = 0 by omega)]; exact hst)
      have hyes : stsL c l (i + 1) = (stsL c l i) ++ [i] := stsL_t hon hnr
      exact hJ93 _ _ ⟨g1L109, g2L109, g6L109, g7L109, g17L109, g18L109, g19L109, opf, op2, (Own.cast (by rw [hyes]; exact ouL_end hend) oou), opo, (Cel.cast (by rw [hyes]; simp) opc), lE⟩
  ·skip
   have ti := hg92
   obtain rfl : i = l.length := by omega
   exact hJ23 _ _ ⟨g6L91, g7L91, opf, op2, oou, opo, opc, lE⟩
 ·skip
  refine cnd_t1 ?_
  skip
  have hok : ¬ (fieldN 1 r c l) := by assumption
  exact keq (K := K) (by rw [decide_eq_false (show ¬ (fieldN 1 r c l) from by exact hok)]) (hk  (.slice none 0 0) _ (.slice none 0 0) _ (Fam.cast (show [] = selL (fieldN 1 r c l) (prtL r c l (stsL c l l.length)) by exact (selL_f hok).symm) (Fam.nil_of none)) (Own.cast (show [] = selL (fieldN 1 r c l) (plcL r c l (stsL c l l.length)) by exact (selL_f hok).symm) (Own.nil_of none)) (fun b hb => hb.elim) (fun b hb => by simp [bk] at hb) (fun b hb => hb.elim) lE)
end Go.Proofs.YtffmfkpobjdmmaaGreatDoor
/- Builders of texts: what each of their operations does; strings.Join. -/
namespace Go.Proofs.YtffmfkpobjdmmaaGreatDoor
open HL
set_option maxRecDepth 100000
namespace HL
/-- A byte as a value. -/
abbrev eC (b : UInt8) : Value := .int .u8 (b.toNat : Int)
section
variable {P : Program} {H : Hp}
theorem val_eqP0 (d : Nat) {t e : TypeId} (b : Option Addr) (ht : P.underlying t = some (.pointer e)) : val P (Op.equalIn (d + 1) t (.pointer none) (.pointer b)) H = some b.isNone := by
  simp only [Op.equalIn, val_bind', val_underlying, ht, Option.bind_some]; cases b <;> rfl
theorem val_eqP1 (d : Nat) {t e : TypeId} (a : Addr) (ht : P.underlying t = some (.pointer e)) : val P (Op.equalIn (d + 1) t (.pointer (some a)) (.pointer none)) H = some false := by
  simp only [Op.equalIn, val_bind', val_underlying, ht, Option.bind_some]; rfl
theorem val_eqP2 (d : Nat) {t e : TypeId} (a : Addr) {k : Nat} (ht : P.underlying t = some (.pointer e)) (he : szO P e = some (k + 1)) : val P (Op.equalIn (d + 1) t (.pointer (some a)) (.pointer (some a))) H = some true := by
  simp only [Op.equalIn, val_bind', val_underlying, ht, Option.bind_some, val_sizeOf, he]
  rw [if_pos (by omega)]
  simp only [sameAddr, beq_self_eq_true, if_true]
  rfl
theorem val_ptr_nil {t e : TypeId} {x y : Operand} (ht : P.underlying t = some (.pointer e)) : val P (do eqGuard .eql t x y (.pointer none) (.pointer none); binOp .eql t (.pointer none) (.pointer none)) H = some (.bool true) := by
  have e1 : val P (Op.equal t (.pointer none) (.pointer none)) H = some true := val_eqP0 9999 none ht
  rw [val_bind', val_eqGuard_other P .eql t x y _ _ H (by simp) (by simp)]
  simp only [Option.bind_some, binOp, val_bind', e1, val_pure]
theorem val_ptr_some {t e : TypeId} {x y : Operand} {a : Addr} (ht : P.underlying t = some (.pointer e)) : val P (do eqGuard .eql t x y (.pointer (some a)) (.pointer none); binOp .eql t (.pointer (some a)) (.pointer none)) H = some (.bool false) := by
  have e1 : val P (Op.equal t (.pointer (some a)) (.pointer none)) H = some false := val_eqP1 9999 a ht
  rw [val_bind', val_eqGuard_other P .eql t x y _ _ H (by simp) (by simp)]
  simp only [Option.bind_some, binOp, val_bind', e1, val_pure]
theorem val_ptr_same {t e : TypeId} {x y : Operand} {a : Addr} {k : Nat} (ht : P.underlying t = some (.pointer e)) (he : szO P e = some (k + 1)) : val P (do eqGuard .neq t x y (.pointer (some a)) (.pointer (some a)); binOp .neq t (.pointer (some a)) (.pointer (some a))) H = some (.bool false) := by
  have e1 : val P (Op.equal t (.pointer (some a)) (.pointer (some a))) H = some true := val_eqP2 9999 a ht he
  rw [val_bind', val_eqGuard_other P .neq t x y _ _ H (by simp) (by simp)]
  simp only [Option.bind_some, binOp, val_bind', e1, val_pure, Bool.not_true]
theorem val_viewAt {r : Nat} {c : Array Value} {e : TypeId} {f : Nat × Nat} (h : H r = some (.cells c e f)) : val P (viewAt r) H = some none := by
  simp only [viewAt, shape, val_bind', val, h, Option.bind_some]
  rfl
theorem val_seenAt {a : Addr} {c : Array Value} {e : TypeId} {f : Nat × Nat} (h : H a.block = some (.cells c e f)) : val P (Conv.seenAt a) H = some a := by
  simp only [Conv.seenAt, val_bind', val_viewAt h, Option.bind_some]
  rfl
theorem val_cellsIn {r : Nat} {c : Array Value} {e : TypeId} {f : Nat × Nat} (h : H r = some (.cells c e f)) : val P (cellsIn r) H = some (some c.size) := by
  simp only [cellsIn, shape, val_bind', val, h, Option.bind_some]
  rfl
theorem val_variablesAt {a : Addr} {c : Array Value} {e u : TypeId} {f : Nat × Nat} {n : Nat} (h : H a.block = some (.cells c e f)) (hl : liesAt P P.depth e (c.size / P.cellsOf e) a.off u n = true) : val P (variablesAt a u n) H = some true := by
  simp only [variablesAt, shape, program, val_bind', val, h, Option.bind_some]
  rw [hl]
  rfl
theorem val_up {s d t : TypeId} {k : Nat} {a : Addr} {c : Array Value} {e : TypeId} {f : Nat × Nat} (hs : P.underlying s = some (.pointer t)) (hd : P.underlying d = some .unsafePointer) (ht : szO P t = some (k + 1)) (h : H a.block = some (.cells c e f)) (ha : a.off < c.size) :
    val P (convert s d (.pointer (some a))) H = some (.pointer (some a)) := by
  simp only [convert, val_bind', val_underlying, hs, hd, Option.bind_some, Conv.unsafePointer, val_seenAt h, val_cellsIn h, val_sizeOf, ht]
  rw [if_neg]
  · rfl
  · simp; omega
theorem val_down {s d u : TypeId} {a : Addr} {c : Array Value} {e : TypeId} {f : Nat × Nat} {k : Nat} (hs : P.underlying s = some .unsafePointer) (hd : P.underlying d = some (.pointer u)) (hu : szO P u = some (k + 1)) (h : H a.block = some (.cells c e f)) (hl : liesAt P P.depth e (c.size / P.cellsOf e) a.off u 1 = true) :
    val P (convert s d (.pointer (some a))) H = some (.pointer (some a)) := by
  simp only [convert, val_bind', val_underlying, hs, hd, Option.bind_some, Conv.unsafePointer, val_seenAt h, val_sizeOf, hu, val_variablesAt h hl]
  rw [if_pos (by simp)]
  rfl
theorem rowAt_plain {d e u count off n : Nat} (hs : P.cellsOf e = 1) (hf : sameLayout P P.depth e u = true) (h : off + n ≤ count) : liesAt P (d + 1) e count off u n = true := by
  have hd : ∃ d', P.depth = d' + 1 := by
    cases hd : P.depth with
    | zero => rw [hd] at hf; simp [sameLayout] at hf
    | succ d' => exact ⟨d', rfl⟩
  obtain ⟨d', hd⟩ := hd
  unfold liesAt
  rw [hd]
  unfold rowAt
  simp only [hs, Nat.div_one, Nat.mod_one]
  rw [hd] at hf
  simp [hf, h]
theorem lies_plain {e u count off n : Nat} (hs : P.cellsOf e = 1) (hf : sameLayout P P.depth e u = true) (h : off + n ≤ count) : liesAt P P.depth e count off u n = true := by
  obtain ⟨d', hd⟩ : ∃ d', P.depth = d' + 1 := by
    cases hd : P.depth with
    | zero => rw [hd] at hf; simp [sameLayout] at hf
    | succ d' => exact ⟨d', rfl⟩
  have := rowAt_plain (d := d') hs hf h
  rw [← hd] at this
  exact this
theorem val_loadBytes : ∀ (l : List UInt8) (a : Addr) (acc : ByteArray), (∀ i (h : i < l.length), H.cell? (a.add i) = some (eC l[i])) → val P (loadBytes a acc l.length) H = some ⟨acc.data ++ l.toArray⟩
  | [], a, acc, _ => by simp [loadBytes, val_pure]
  | x :: l, a, acc, h => by
    have h0 := h 0 (by simp)
    rw [show a.add 0 = a from rfl] at h0
    have ih := val_loadBytes l (a.add 1) (acc.push x) (fun i hi => by
      have := h (i + 1) (by simpa using hi)
      rw [show (a.add 1).add i = a.add (i + 1) by
        unfold Addr.add
        by_cases hi : i = 0
        · subst hi; rfl
        · simp [hi, Nat.add_comm, Nat.add_left_comm]]
      simpa using this)
    simp only [List.length_cons, loadBytes, load, val_bind', val, h0, Option.bind_some, List.getElem_cons_zero]
    rw [show (Int.toNat ((x.toNat : Nat) : Int)).toUInt8 = x by simp, ih]
    congr 2
    show acc.data.push x ++ l.toArray = acc.data ++ (x :: l).toArray
    simp
theorem digits_size : ∀ (n t : Nat) (acc : Array Value), (Extern.BytealgMakeNoZero.digits n t acc).size = acc.size + n
  | 0, _, _ => rfl
  | n + 1, t, acc => by
    unfold Extern.BytealgMakeNoZero.digits
    rw [digits_size]; simp; omega
theorem hp_makeNoZero {params results : Array TypeId} {t e : TypeId} {n : Int} {Q : Value → Hp → Prop} (hr : results[0]? = some t) (ht : P.underlying t = some (.slice e)) (h0 : 0 ≤ n) (h1 : n ≤ 1099511627776)
    (hk : ∀ c r (cs : Array Value), n.toNat ≤ c → c < 9223372036854775808 → H r = none → cs.size = c → Q (.slice (some ⟨r, 0, none⟩) n.toNat c) (H.put r (.cells cs e (0, 0)))) : hp P (Extern.BytealgMakeNoZero.makeNoZero params results #[.int .i64 n]) H Q := by
  delta Extern.BytealgMakeNoZero.makeNoZero
  have e0 : ∀ (f : Int → Sem Value) (g : Array Value → Sem Value), Extern.BytealgMakeNoZero.makeNoZero.match_3 (fun _ => Sem Value) #[.int .i64 n] f g = f n := fun _ _ => rfl
  rw [e0]
  simp only [hr]
  refine hp_val_bind P _ _ H Q _ (by rw [val_underlying, ht]) ?_
  simp only
  rw [if_neg (by simp; omega)]
  simp only [choose, hp_bind', hp, Question.forced, Bool.false_eq_true, if_false]
  intro tt
  refine hp_askRoom P _ H _ ?_
  intro t2
  refine hp_newRow P _ _ _ _ ?_
  intro r hr'
  have hcut : (Question.appendCap n.toNat 0 e).cut tt = n.toNat + tt % (2 ^ 63 - n.toNat) := rfl
  refine hk _ r _ ?_ ?_ hr' (by rw [digits_size]; simp)
  · rw [hcut]; omega
  · rw [hcut]
    have : tt % (2 ^ 63 - n.toNat) < 2 ^ 63 - n.toNat := Nat.mod_lt _ (by omega)
    omega
end
end HL
/-- A Builder's header and its room. -/
structure Bd (e eb : TypeId) (H : Hp) (r b c : Nat) (l : List UInt8) : Prop where
  ne : r ≠ b
  hdr : H r = some (.cells #[.pointer (some ⟨r, 0, none⟩), .slice (some ⟨b, 0, none⟩) l.length c] e (0, 0))
  buf : ∃ cs : Array Value, H b = some (.cells cs eb (0, 0)) ∧ cs.size = c ∧ l.length ≤ c ∧ ∀ i (h : i < l.length), cs[i]? = some (eC l[i])
noncomputable def nzR : Array TypeId := ((prg.funcs[I.internal_bytealg_MakeNoZero]?).map (·.resultTypes)).getD #[]
noncomputable def nzT : TypeId := (nzR[0]?).getD 0
noncomputable def nzE : TypeId := match prg.underlying nzT with | some (.slice e) => e | _ => 0
section
variable {H : Hp} {K : Value → Hp → Prop} {r b c : Nat} {e eb : TypeId} {l s : List UInt8}
theorem vLoad_cell {H : Hp} {r k : Nat} {c : Array Value} {e : TypeId} {f : Nat × Nat} {v : Value} (h : H r = some (.cells c e f)) (hv : c[k]? = some v) : vLoad (.pointer (some ⟨r, k, none⟩)) H = some v := by
  simp only [vLoad, Hp.cell?, h]
  simpa using hv
theorem st_cell {H : Hp} {r k : Nat} {c : Array Value} {e : TypeId} {x : Value} {K : Hp → Prop} (h : H r = some (.cells c e (0, 0))) (hk : k < c.size) (ho : oneCell x = true) (hz : x.cells = #[x]) (hK : K (H.put r (.cells (c.setIfInBounds k x) e (0, 0)))) : st 1 (.pointer (some ⟨r, k, none⟩)) x H K := by
  simp only [HL.st, hz, List.toList_toArray, List.size_toArray, List.length_singleton, true_and, stC, add_none, Nat.add_zero]
  refine ⟨ho, ?_, ?_, ?_⟩
  · simp only [Hp.cell?, h]; simp [hk]
  · simp only [Hp.frozen?, h]; simp
  · simp only [Hp.setCell, h]; exact hK
end
noncomputable def bdP : TypeId := ((prg.funcs[I.pstrings_Builder_copyCheck]?).bind (·.params[0]?)).getD 0
noncomputable def bdE : TypeId := match prg.underlying bdP with | some (.pointer e) => e | _ => 0
section
variable {H : Hp} {K : Value → Hp → Prop} {r b c : Nat} {eb : TypeId} {l s : List UInt8}
theorem C.Builder_copyCheck_new {u : Value} (h : H r = some (.cells #[.pointer none, u] bdE (0, 0))) (hk : K (.tuple #[]) (H.put r (.cells #[.pointer (some ⟨r, 0, none⟩), u] bdE (0, 0)))) :
    HT prg I.pstrings_Builder_copyCheck [.pointer (some ⟨r, 0, none⟩)].toArray H K := by
 refine R.pstrings_Builder_copyCheck ?_
 unfold F.pstrings_Builder_copyCheck
 refine ob_i (a := .pointer (some ⟨r, 0, none⟩)) rfl ?_
 refine ob_i (a := .pointer (some ⟨r, 0, none⟩)) rfl ?_
 refine ob_i (vLoad_cell h rfl) ?_
 refine ob_i (val_ptr_nil (e := bdE) (by kernel_rfl)) ?_
 refine cnd_t1 ?_
 refine hp_of_val prg _ _ _ _ (val_up (t := bdE) (k := 1) (by kernel_rfl) (by kernel_rfl) (by kernel_rfl) h (by simp)) ?_
 have e0 : ∀ Q, hp prg (callFunc I.internal_abi_NoEscape [Value.pointer (some ⟨r, 0, none⟩)].toArray) H Q = Q (.value (.pointer (some ⟨r, 0, none⟩))) H := fun Q => by kernel_rfl
 rw [e0]
 refine hp_of_val prg _ _ _ _ (val_down (u := bdE) (k := 1) (by kernel_rfl) (by kernel_rfl) (by kernel_rfl) h (by kernel_rfl)) ?_
 refine ob_i (a := .pointer (some ⟨r, 0, none⟩)) rfl ?_
 refine ob_i (a := .pointer (some ⟨r, 0, none⟩)) rfl ?_
 exact st_cell h (by simp) rfl rfl hk
theorem C.Builder_copyCheck_old {u : Value} (h : H r = some (.cells #[.pointer (some ⟨r, 0, none⟩), u] bdE (0, 0))) (hk : K (.tuple #[]) H) :
    HT prg I.pstrings_Builder_copyCheck [.pointer (some ⟨r, 0, none⟩)].toArray H K := by
 refine R.pstrings_Builder_copyCheck ?_
 unfold F.pstrings_Builder_copyCheck
 refine ob_i (a := .pointer (some ⟨r, 0, none⟩)) rfl ?_
 refine ob_i (a := .pointer (some ⟨r, 0, none⟩)) rfl ?_
 refine ob_i (vLoad_cell h rfl) ?_
 refine ob_i (val_ptr_some (e := bdE) (by kernel_rfl)) ?_
 refine cnd_f1 ?_
 refine ob_i (a := .pointer (some ⟨r, 0, none⟩)) rfl ?_
 refine ob_i (a := .pointer (some ⟨r, 0, none⟩)) rfl ?_
 refine ob_i (vLoad_cell h rfl) ?_
 refine ob_i (val_ptr_same (e := bdE) (k := 1) (by kernel_rfl) (by kernel_rfl)) ?_
 refine cnd_f1 ?_
 exact hk
theorem C.Builder_Grow {n : Int} (h : H r = some (.cells #[.pointer none, .slice none 0 0] bdE (0, 0))) (n0 : 1 ≤ n) (n1 : n ≤ 1099511627776)
    (hk : ∀ b c H', n.toNat ≤ c → c < 9223372036854775808 → H b = none → Bd bdE nzE H' r b c [] → (∀ x o, H x = some o → x ≠ r → H' x = some o) → K (.tuple #[]) H') :
    HT prg I.pstrings_Builder_Grow [.pointer (some ⟨r, 0, none⟩), .int .i64 n].toArray H K := by
 refine R.pstrings_Builder_Grow ?_
 unfold F.pstrings_Builder_Grow
 refine C.Builder_copyCheck_new h ?_
 have h1 : (H.put r (.cells #[.pointer (some ⟨r, 0, none⟩), .slice none 0 0] bdE (0, 0))) r = some (.cells #[.pointer (some ⟨r, 0, none⟩), .slice none 0 0] bdE (0, 0)) := Hp.put_same _ _ _
 refine jn_i (fun σ H' => σ 0 = .pointer (some ⟨r, 0, none⟩) ∧ σ 1 = .int .i64 n ∧ H' = H.put r (.cells #[.pointer (some ⟨r, 0, none⟩), .slice none 0 0] bdE (0, 0))) (fun σ H2 hP => ?_) (fun J hJ => ?_)
 ·obtain ⟨g0, g1, rfl⟩ := hP
  simp only [g0, g1]
  refine ob_i (a := .pointer (some ⟨r, 0, none⟩)) rfl ?_
  refine ob_i (a := .pointer (some ⟨r, 1, none⟩)) rfl ?_
  refine ob_i (vLoad_cell h1 rfl) ?_
  refine ob_i (a := .int .i64 0) rfl ?_
  refine ob_i (a := .pointer (some ⟨r, 0, none⟩)) rfl ?_
  refine ob_i (a := .pointer (some ⟨r, 1, none⟩)) rfl ?_
  refine ob_i (vLoad_cell h1 rfl) ?_
  refine ob_i (a := .int .i64 0) rfl ?_
  refine ob_i (vInt_sub (by omega) (by omega)) ?_
  refine ob_i (vInt_lss _ _ _) ?_
  rw [decide_eq_true (show (0 : Int) - 0 < n by omega)]
  refine cnd_t1 ?_
  refine R.pstrings_Builder_grow ?_
  unfold F.pstrings_Builder_grow
  refine ob_i (a := .pointer (some ⟨r, 0, none⟩)) rfl ?_
  refine ob_i (a := .pointer (some ⟨r, 1, none⟩)) rfl ?_
  refine ob_i (vLoad_cell h1 rfl) ?_
  refine ob_i (a := .int .i64 0) rfl ?_
  refine ob_i (vInt_mul (by omega) (by omega)) ?_
  refine ob_i (vInt_add (by omega) (by omega)) ?_
  refine ob_i (a := .pointer (some ⟨r, 0, none⟩)) rfl ?_
  refine ob_i (a := .pointer (some ⟨r, 1, none⟩)) rfl ?_
  refine ob_i (vLoad_cell h1 rfl) ?_
  refine ob_i (a := .int .i64 0) rfl ?_
  rw [show (2 : Int) * 0 + n = n by omega]
  have e0 : ∀ H Q, hp prg (callFunc I.internal_bytealg_MakeNoZero [Value.int .i64 n].toArray) H Q = hp prg (do pure (Next.value (← Extern.BytealgMakeNoZero.makeNoZero nzR nzR #[.int .i64 n]))) H Q := fun H Q => by kernel_rfl
  rw [e0]
  refine hp_v ?_
  refine hp_makeNoZero (t := nzT) (e := nzE) (by kernel_rfl) (by kernel_rfl) (by omega) n1 (fun c b cs hc1 hc2 hb hcs => ?_)
  have hrb : r ≠ b := by rintro rfl; rw [h1] at hb; exact absurd hb (by simp)
  have hbH : H b = none := by rw [Hp.put_ne _ _ (Ne.symm hrb)] at hb; exact hb
  refine ⟨Le.put _ hb, ?_⟩
  have e1 : vSl3 1 (.slice (some ⟨b, 0, none⟩) n.toNat c) none (some (.int .i64 0)) none = some (.slice (some ⟨b, 0, none⟩) 0 c) := by
   simp only [vSl3, vSl, bnd]
   rw [if_pos ⟨by omega, by omega⟩]
   simp only [Option.map_some, Nat.zero_mul, Nat.sub_zero]
   congr 1
   split <;> rfl
  refine ob_i e1 ?_
  have h2 : ((H.put r (.cells #[.pointer (some ⟨r, 0, none⟩), .slice none 0 0] bdE (0, 0))).put b (.cells cs nzE (0, 0))) r = some (.cells #[.pointer (some ⟨r, 0, none⟩), .slice none 0 0] bdE (0, 0)) := by
   rw [Hp.put_ne _ _ hrb]; exact h1
  refine ob_i (a := .pointer (some ⟨r, 0, none⟩)) rfl ?_
  refine ob_i (a := .pointer (some ⟨r, 1, none⟩)) rfl ?_
  refine ob_i (vLoad_cell h2 rfl) ?_
  refine hp_v ?_
  refine hp_of_val prg _ _ _ (.int .i64 0) (by kernel_rfl) ?_
  refine ob_i (a := .pointer (some ⟨r, 0, none⟩)) rfl ?_
  refine ob_i (a := .pointer (some ⟨r, 1, none⟩)) rfl ?_
  refine st_cell h2 (by simp) rfl rfl ?_
  refine hk b c _ hc1 hc2 hbH ⟨hrb, Hp.put_same _ _ _, cs, by rw [Hp.put_ne _ _ (Ne.symm hrb), Hp.put_same], hcs, by simp, fun i hi => absurd hi (by simp)⟩ (fun x o hx hxr => ?_)
  have hxb : x ≠ b := by rintro rfl; rw [hbH] at hx; exact absurd hx (by simp)
  rw [Hp.put_ne _ _ hxr, Hp.put_ne _ _ hxb, Hp.put_ne _ _ hxr]
  exact hx
 ·refine ob_i (vInt_lss _ _ _) ?_
  rw [decide_eq_false (show ¬ n < 0 by omega)]
  refine cnd_f1 ?_
  exact hJ _ _ ⟨rfl, rfl, rfl⟩
theorem firstC_str {H : Hp} : firstC H 1 s.length (vS s) = some (s.map eC) := by
  simp only [firstC]
  congr 1
  have : (tS s).extract 0 s.length = tS s := by rw [tS_extract]; simp
  rw [this, tS_data]
theorem C.Builder_WriteString (h : Bd bdE eb H r b c l) (hc : l.length + s.length ≤ c)
    (hk : ∀ H', Bd bdE eb H' r b c (l ++ s) → (∀ x o, H x = some o → x ≠ r → x ≠ b → H' x = some o) → K (.tuple #[.int .i64 s.length, .nilIface]) H') :
    HT prg I.pstrings_Builder_WriteString [.pointer (some ⟨r, 0, none⟩), vS s].toArray H K := by
 refine R.pstrings_Builder_WriteString ?_
 unfold F.pstrings_Builder_WriteString
 refine C.Builder_copyCheck_old h.hdr ?_
 refine ob_i (a := .pointer (some ⟨r, 0, none⟩)) rfl ?_
 refine ob_i (a := .pointer (some ⟨r, 1, none⟩)) rfl ?_
 refine ob_i (a := .slice (some ⟨b, 0, none⟩) l.length c) (vLoad_cell h.hdr rfl) ?_
 obtain ⟨cs, hb, hcs, hlc, hel⟩ := h.buf
 have hlen : lenO (vS s) = some s.length := rfl
 simp only [HL.apd, hlen]
 rw [if_pos hc]
 simp only [firstC_str]
 refine stC_run (b := b) (e := eb) (s.map eC) _ 0 cs H (by rw [Nat.mul_one]; unfold Addr.add; split <;> rfl) (by rw [Nat.mul_one]; unfold Addr.add; split <;> rfl) hb (by rw [Nat.mul_one, add_none]; simp; omega) (by simp; intro x _; rfl) ?_
 intro H' cs' h1 h2 h3 h4 h5
 rw [Nat.mul_one, add_none] at h3 h4
 simp only [Nat.add_zero, Nat.zero_add] at h3 h4
 have hr' : H' r = some (.cells #[.pointer (some ⟨r, 0, none⟩), .slice (some ⟨b, 0, none⟩) l.length c] bdE (0, 0)) := by rw [h5 r h.ne]; exact h.hdr
 refine ob_i (a := .pointer (some ⟨r, 0, none⟩)) rfl ?_
 refine ob_i (a := .pointer (some ⟨r, 1, none⟩)) rfl ?_
 refine st_cell hr' (by simp) rfl rfl ?_
 refine ob_i (vLenS_t s) ?_
 refine hk _ ⟨h.ne, by rw [Hp.put_same]; simp, cs', by rw [Hp.put_ne _ _ (Ne.symm h.ne)]; exact h1, by rw [h2, hcs], by simpa using hc, fun i hi => ?_⟩ (fun x o hx hxr hxb => ?_)
 ·by_cases hil : i < l.length
  ·rw [h3 i hil, hel i hil, List.getElem_append_left hil]
  ·have := h4 (i - l.length) (by simp at hi ⊢; omega)
   rw [show l.length + (i - l.length) = i by omega] at this
   rw [this, List.getElem_append_right (by omega)]; simp
 ·rw [Hp.put_ne _ _ hxr, h5 x hxb]; exact hx
theorem C.Builder_String (h : Bd bdE nzE H r b c l) (hl : 0 < l.length) (hl2 : l.length ≤ 9223372036854775807) (hk : ∀ H', (∀ x o, H x = some o → x ≠ r → x ≠ b → H' x = some o) → K (vS l) H') :
    HT prg I.pstrings_Builder_String [.pointer (some ⟨r, 0, none⟩)].toArray H K := by
 obtain ⟨cs, hb, hcs, hlc, hel⟩ := h.buf
 have e1 : ∀ ts ty H, val prg (Builtin.unsafeSliceData_ ts ty #[.slice (some ⟨b, 0, none⟩) l.length c]) H = some (.pointer (some ⟨b, 0, none⟩)) := fun ts ty H => by
  obtain ⟨c', hc'⟩ : ∃ c', c = c' + 1 := ⟨c - 1, by omega⟩
  rw [hc']
  kernel_rfl
 have hld : val prg (loadBytes ⟨b, 0, none⟩ .empty l.length) H = some ⟨ByteArray.empty.data ++ l.toArray⟩ := val_loadBytes l _ _ (fun i hi => by
  rw [add_none]
  simp only [Hp.cell?, hb, Nat.zero_add, hel i hi]; rfl)
 have e2 : ∀ (ts : Array TypeId) ty pt (Q : Value → Hp → Prop), ts[0]? = some pt → prg.underlying pt = some (.pointer nzE) → (∀ H', (∀ x o, H x = some o → x ≠ r → x ≠ b → H' x = some o) → Q (vS l) H') → hp prg (Builtin.unsafeString_ ts ty #[.pointer (some ⟨b, 0, none⟩), .int .i64 l.length]) H Q := fun ts ty pt Q ht hpt hQ => by
  delta Builtin.unsafeString_
  have e0 : ∀ (f : Option Addr → Value → Sem Value) (g : Array Value → Sem Value), Builtin.unsafeString_.match_3 (fun _ => Sem Value) #[.pointer (some ⟨b, 0, none⟩), .int .i64 l.length] f g = f (some ⟨b, 0, none⟩) (.int .i64 l.length) := fun _ _ => rfl
  rw [e0]
  refine hp_val_bind prg _ _ H Q (l.length : Int) (by kernel_rfl) ?_
  simp only [ht]
  have em : IntKind.i64.max = 9223372036854775807 := by decide
  rw [if_neg (by omega), if_neg (by rw [em]; omega)]
  have hn0 : ¬ ((l.length : Int) = 0) := by omega
  simp only [hn0, if_false]
  refine hp_val_bind prg _ _ H Q nzE (by simp only [elemOf, val_bind', val_underlying, hpt, Option.bind_some]; rfl) ?_
  have hs1 : prg.cellsOf nzE = 1 := by kernel_rfl
  refine hp_val_bind prg _ _ H Q true (val_variablesAt hb (by rw [hs1, Nat.div_one]; exact lies_plain hs1 (by kernel_rfl) (by simp; omega))) ?_
  simp only [if_true]
  rw [Int.toNat_natCast]
  refine hp_val_bind prg _ _ H Q _ hld ?_
  simp only [freeze, hp_bind', hp, hb]
  rw [if_neg (by omega)]
  have et : (⟨ByteArray.empty.data ++ l.toArray⟩ : ByteArray) = tS l := by
   show (⟨#[] ++ l.toArray⟩ : ByteArray) = _
   rw [Array.empty_append]; rfl
  rw [et]
  exact hQ _ (fun x o hx hxr hxb => by rw [Hp.put_ne _ _ hxb]; exact hx)
 refine R.pstrings_Builder_String ?_
 unfold F.pstrings_Builder_String
 refine ⟨?_, ?_⟩
 ·refine ob_i (a := .pointer (some ⟨r, 0, none⟩)) rfl ?_
  refine ob_i (a := .pointer (some ⟨r, 1, none⟩)) rfl ?_
  refine ob_i (a := .slice (some ⟨b, 0, none⟩) l.length c) (vLoad_cell h.hdr rfl) ?_
  refine ob_i (a := .pointer (some ⟨r, 0, none⟩)) rfl ?_
  refine ob_i (a := .pointer (some ⟨r, 1, none⟩)) rfl ?_
  refine ob_i (a := .slice (some ⟨b, 0, none⟩) l.length c) (vLoad_cell h.hdr rfl) ?_
  refine ob_i (a := .int .i64 l.length) rfl ?_
  refine hp_v (hp_of_val prg _ _ _ _ (e1 _ _ _) ?_)
  refine hp_v (e2 _ _ _ _ rfl (by kernel_rfl) (fun H' hH' => hk H' hH'))
 ·refine ob_i (a := .pointer (some ⟨r, 0, none⟩)) rfl ?_
  refine ob_i (a := .pointer (some ⟨r, 1, none⟩)) rfl ?_
  refine ob_i (a := .slice (some ⟨b, 0, none⟩) l.length c) (vLoad_cell h.hdr rfl) ?_
  refine ob_i (a := .pointer (some ⟨r, 0, none⟩)) rfl ?_
  refine ob_i (a := .pointer (some ⟨r, 1, none⟩)) rfl ?_
  refine hp_v (hp_of_val prg _ _ _ _ (e1 _ _ _) ?_)
  refine ob_i (a := .slice (some ⟨b, 0, none⟩) l.length c) (vLoad_cell h.hdr rfl) ?_
  refine ob_i (a := .int .i64 l.length) rfl ?_
  refine hp_v (e2 _ _ _ _ rfl (by kernel_rfl) (fun H' hH' => hk H' hH'))
end
end Go.Proofs.YtffmfkpobjdmmaaGreatDoor
/- strings.Join, with one byte between the texts. -/
namespace Go.Proofs.YtffmfkpobjdmmaaGreatDoor
open HL
set_option maxRecDepth 100000
theorem joinT_len (x : UInt8) (a : List UInt8) : ∀ r : List (List UInt8), (joinT [x] (a :: r)).length = r.length + (a :: r).flatten.length
  | [] => by simp [joinT]
  | b :: r => by
    have ih := joinT_len x a r
    simp only [joinT, List.flatMap_cons, List.length_append, List.length_cons, List.length_nil, List.flatten_cons] at ih ⊢
    omega
theorem flat_snoc (ls : List (List UInt8)) (x : List UInt8) : (ls ++ [x]).flatten.length = ls.flatten.length + x.length := by simp
theorem flat_take (ls : List (List UInt8)) (t : Nat) : (ls.take t).flatten.length ≤ ls.flatten.length := by
  have := congrArg (fun l => l.flatten.length) (List.take_append_drop t ls)
  simp only [List.flatten_append, List.length_append] at this
  omega
theorem flat_at (ls : List (List UInt8)) {t : Nat} (ht : t < ls.length) : (ls.take t).flatten.length + (at_ [] ls (t : Int)).length ≤ ls.flatten.length := by
  have := flat_take ls (t + 1)
  rw [take_at [] ls ht, flat_snoc] at this
  exact this
theorem C.strings_Join {v : Value} {ls : List (List UInt8)} {x : UInt8} {H : Hp} {K : Value → Hp → Prop} (hv : Sl vS H v ls) (h1 : ls.length ≤ 1000000) (h2 : ls.flatten.length ≤ 1000000000) (hk : ∀ H', Le H H' → K (vS (joinT [x] ls)) H') :
    HT prg I.strings_Join [v, vS [x]].toArray H K := by
 refine R.strings_Join ?_
 unfold F.strings_Join
 refine ob_i hv.len ?_
 refine ob_i (vInt_eql _ _ _) ?_
 refine cnd_d (fun h0 => ?_) (fun h0 => ?_)
 ·obtain rfl : ls = [] := List.length_eq_zero_iff.mp (by omega)
  exact hk H (Le.refl H)
 refine ob_i (vInt_eql _ _ _) ?_
 refine cnd_d (fun h3 => ?_) (fun h3 => ?_)
 ·refine ob_i (hv.ix (by omega) (by omega)) ?_
  refine ob_i (hv.ld [] (by omega) (by omega)) ?_
  obtain ⟨a, rfl⟩ := List.length_eq_one_iff.mp (show ls.length = 1 by omega)
  have := hk H (Le.refl H)
  simp only [joinT, List.flatMap_nil, List.append_nil] at this
  exact this
 obtain ⟨a, r, rfl⟩ : ∃ a r, ls = a :: r := by cases ls with | nil => simp at h0 | cons a r => exact ⟨a, r, rfl⟩
 have hjl := joinT_len x a r
 have hrl : (a :: r).length = r.length + 1 := rfl
 have h2' := h2
 generalize hLS : a :: r = ls at *
 refine jn_i (fun σ H' => σ 0 = v ∧ σ 1 = vS [x] ∧ σ 5 = .int .i64 (r.length : Int) ∧ H' = H) (fun σ H6 hP => ?_) (fun J6 hJ6 => ?_)
 ·obtain ⟨g0, g1, g5, rfl⟩ := hP
  refine jn_i (fun σ' H' => σ' 0 = v ∧ σ' 1 = vS [x] ∧ σ' 5 = .int .i64 ((joinT [x] ls).length : Int) ∧ H' = H6) (fun σ7 H7 hP => ?_) (fun J7 hJ7 => ?_)
  ·obtain ⟨g0, g1, g5, rfl⟩ := hP
   simp only [g0, g5]
   intro rb hrb
   have hH : (H7.put rb (.cells #[.pointer none, .slice none 0 0] bdE (0, 0))) rb = some (.cells #[.pointer none, .slice none 0 0] bdE (0, 0)) := Hp.put_same _ _ _
   have hle1 : Le H7 (H7.put rb (.cells #[.pointer none, .slice none 0 0] bdE (0, 0))) := Le.put _ hrb
   refine (?_ : HT prg I.pstrings_Builder_Grow [.pointer (some ⟨rb, 0, none⟩), .int .i64 ((joinT [x] ls).length : Int)].toArray (H7.put rb (.cells #[.pointer none, .slice none 0 0] bdE (0, 0))) _)
   refine C.Builder_Grow hH (by omega) (by omega) (fun b c H11 hc1 hc2 hb hB hoth => ?_)
   have hbH : H7 b = none := by
    have : b ≠ rb := by rintro rfl; rw [hH] at hb; exact absurd hb (by simp)
    rw [Hp.put_ne _ _ this] at hb; exact hb
   have hle2 : Le H7 H11 := fun y o hy => hoth y o (hle1 y o hy) (by rintro rfl; rw [hrb] at hy; exact absurd hy (by simp))
   have keep : ∀ {A B : Hp}, Le H7 A → (∀ y o, A y = some o → y ≠ rb → y ≠ b → B y = some o) → Le H7 B := fun hA hAB y o hy =>
    hAB y o (hA y o hy) (by rintro rfl; rw [hrb] at hy; exact absurd hy (by simp)) (by rintro rfl; rw [hbH] at hy; exact absurd hy (by simp))
   have hv11 := hv.le hle2
   refine ob_i (hv11.ix (by omega) (by omega)) ?_
   refine ob_i (hv11.ld [] (by omega) (by omega)) ?_
   have ha0 : at_ [] ls 0 = a := by rw [← hLS]; rfl
   rw [ha0]
   have hal : a.length ≤ (joinT [x] ls).length := by
    rw [hjl, ← hLS]; simp; omega
   refine C.Builder_WriteString hB (by rw [Int.toNat_natCast] at hc1; simp; omega) (fun H15 hB15 hoth15 => ?_)
   have hle3 := keep hle2 hoth15
   rw [List.nil_append] at hB15
   have e1 : vSl3 1 v (some (.int .i64 1)) none none = some (vSl3 1 v (some (.int .i64 1)) none none).get! := by
    obtain ⟨y, _, hy2, _⟩ := hv.cut (lo := 1) (hi := (ls.length : Int)) (by omega) (by omega) (by omega)
    rw [hy2 rfl]; rfl
   obtain ⟨y, _, hy2, _, _, hy5, _⟩ := hv.cut (lo := 1) (hi := (ls.length : Int)) (by omega) (by omega) (by omega)
   have hy2 := hy2 rfl
   have hyl : ((ls.drop (Int.toNat 1)).take ((ls.length : Int).toNat - Int.toNat 1)) = r := by
    rw [← hLS]; simp
   rw [hyl] at hy5
   refine jn_i (fun σ' H' => σ' 8 = .pointer (some ⟨rb, 0, none⟩) ∧ Bd bdE nzE H' rb b c (joinT [x] ls) ∧ Le H7 H') (fun σ16 H16 hP => ?_) (fun J16 hJ16 => ?_)
   ·obtain ⟨g8, hB16, hle16⟩ := hP
    simp only [g8]
    refine C.Builder_String hB16 (by omega) (by omega) (fun H' hoth' => ?_)
    exact hk H' (keep hle16 hoth')
   ·refine ob_i hy2 ?_
    refine ob_i hy5.len ?_
    refine ⟨fun n σ' H' => ∃ t : Nat, n = r.length - t ∧ t ≤ r.length ∧ σ' 1 = vS [x] ∧ σ' 8 = .pointer (some ⟨rb, 0, none⟩) ∧ σ' 63 = y ∧ σ' 64 = .int .i64 (r.length : Int) ∧ σ' 65 = .int .i64 (t : Int) ∧ Bd bdE nzE H' rb b c (joinT [x] (ls.take (t + 1))) ∧ Le H7 H',
     ⟨_, 0, rfl, by omega, g1, rfl, rfl, rfl, rfl, by rw [← hLS]; simpa [joinT] using hB15, hle3⟩, ?_⟩
    rintro n σ' H21 ⟨t, rfl, ht, q1, q8, q63, q64, q65, hB21, hle21⟩
    simp only [q1, q8, q63, q64, q65]
    refine ob_i (vInt_lss _ _ _) ?_
    refine cnd_d (fun hlt => ?_) (fun hge => ?_)
    ·have hy21 := hy5.le hle21
     refine ob_i (hy21.ix (by omega) (by omega)) ?_
     refine ob_i (hy21.ld [] (by omega) (by omega)) ?_
     have hnx : at_ [] r (t : Int) = at_ [] ls ((t + 1 : Nat) : Int) := by
      rw [at_eq [] r (by omega), at_eq [] ls (by rw [hrl]; omega)]
      subst hLS
      simp
     rw [hnx]
     have hsn := joinT_snoc [x] (at_ [] ls ((t + 1 : Nat) : Int)) (ls.take (t + 1)) (by rw [← hLS]; simp)
     rw [← take_at [] ls (by rw [hrl]; omega)] at hsn
     have hl1 : ((joinT [x] (ls.take (t + 1 + 1))).length) ≤ (joinT [x] ls).length := by
      have e2 : ls.take (t + 1 + 1) = a :: r.take (t + 1) := by rw [← hLS]; simp
      have e3 := joinT_len x a (r.take (t + 1))
      have e4 := flat_take ls (t + 1 + 1)
      rw [e2] at e4
      rw [e2, e3, hjl]
      rw [List.length_take]
      have e5 : ls.flatten.length = (a :: r).flatten.length := by rw [hLS]
      omega
     rw [hsn] at hl1
     simp only [List.length_append, List.length_singleton] at hl1
     rw [Int.toNat_natCast] at hc1
     refine C.Builder_WriteString hB21 (by simp only [List.length_singleton]; omega) (fun H26 hB26 hoth26 => ?_)
     refine C.Builder_WriteString hB26 (by simp only [List.length_append, List.length_singleton]; omega) (fun H28 hB28 hoth28 => ?_)
     refine ob_i (vInt_add (by omega) (by omega)) ?_
     exact nxt (r.length - (t + 1)) (by omega) ⟨t + 1, rfl, by omega, q1, q8, q63, q64, rfl, by rw [hsn]; exact hB28, keep (keep hle21 hoth26) hoth28⟩
    ·obtain rfl : t = r.length := by omega
     refine hJ16 _ _ ⟨q8, ?_, hle21⟩
     rw [← hrl, List.take_length] at hB21
     exact hB21
  ·simp only [g0]
   refine ob_i hv.len ?_
   refine ⟨fun n σ' H' => ∃ t : Nat, n = ls.length - t ∧ t ≤ ls.length ∧ σ' 0 = v ∧ σ' 1 = vS [x] ∧ σ' 39 = v ∧ σ' 40 = .int .i64 (ls.length : Int) ∧ σ' 41 = .int .i64 (t : Int) ∧ σ' 5 = .int .i64 ((r.length : Int) + ((ls.take t).flatten.length : Int)) ∧ H' = H6,
    ⟨_, 0, rfl, by omega, g0, g1, rfl, rfl, rfl, g5.trans (congrArg (Value.int .i64) (by simp)), rfl⟩, ?_⟩
   rintro n σ' H31 ⟨t, rfl, ht, q0, q1, q39, q40, q41, q5, rfl⟩
   simp only [q39, q40, q41, q5]
   refine ob_i (vInt_lss _ _ _) ?_
   refine cnd_d (fun hlt => ?_) (fun hge => ?_)
   ·refine ob_i (hv.ix (by omega) (by omega)) ?_
    refine ob_i (hv.ld [] (by omega) (by omega)) ?_
    refine ob_i (vLenS_t _) ?_
    have hf := flat_at ls (t := t) (by omega)
    refine ob_i (vInt_sub (by omega) (by omega)) ?_
    refine ob_i (vInt_gtr _ _ _) ?_
    rw [decide_eq_false (by omega)]
    refine cnd_f1 ?_
    refine ob_i (vLenS_t _) ?_
    refine ob_i (vInt_add (by omega) (by omega)) ?_
    refine ob_i (vInt_add (by omega) (by omega)) ?_
    exact nxt (ls.length - (t + 1)) (by omega) ⟨t + 1, rfl, by omega, q0, q1, q39, q40, congrArg (Value.int .i64) (by omega), congrArg (Value.int .i64) (by rw [take_at [] ls (by omega), flat_snoc]; omega), rfl⟩
   ·obtain rfl : t = ls.length := by omega
    exact hJ7 _ _ ⟨q0, q1, q5.trans (congrArg (Value.int .i64) (by rw [List.take_length, hjl]; omega)), rfl⟩
 ·refine ob_i (vLenS_t [x]) ?_
  refine ob_i (vInt_gtr _ _ _) ?_
  rw [decide_eq_true (show (0 : Int) < (([x] : List UInt8).length : Int) by simp)]
  refine cnd_t1 ?_
  refine ob_i (vLenS_t [x]) ?_
  refine ob_i hv.len ?_
  refine ob_i (vInt_sub (by omega) (by omega)) ?_
  refine ob_i (vInt_quoN (by omega) (by omega) (by omega)) ?_
  refine ob_i (vInt_geq _ _ _) ?_
  have hq : (2 : Int) ≤ 9223372036854775807 / ((ls.length : Int) - 1) := (Int.le_ediv_iff_mul_le (by omega)).mpr (by omega)
  rw [decide_eq_false (by simp only [List.length_singleton]; omega)]
  refine cnd_f1 ?_
  refine ob_i (vLenS_t [x]) ?_
  refine ob_i hv.len ?_
  refine ob_i (vInt_sub (by omega) (by omega)) ?_
  refine ob_i (vInt_mul (by simp only [List.length_singleton]; omega) (by simp only [List.length_singleton]; omega)) ?_
  refine ob_i (vInt_add (by simp only [List.length_singleton]; omega) (by simp only [List.length_singleton]; omega)) ?_
  exact hJ6 _ _ ⟨rfl, rfl, congrArg (Value.int .i64) (by simp only [List.length_singleton]; omega), rfl⟩
end Go.Proofs.YtffmfkpobjdmmaaGreatDoor
/- Fields as texts. -/
namespace Go.Proofs.YtffmfkpobjdmmaaGreatDoor
open HL
set_option maxRecDepth 100000
attribute [local irreducible] vStr
theorem C.internal_strconv_small {n : Int}  {H : Hp} {K : Value → Hp → Prop} (n0 : 0 ≤ n) (n1 : n < 100)
    (hk : K (vS (decT n.toNat)) H) : HT prg I.internal_strconv_small [(.int .i64 (n))].toArray H K := by
 have lE := Le.refl H
 refine R.internal_strconv_small ?_
 unfold F.internal_strconv_small
 refine ob_i (vInt_lss _ _ _) ?_
 refine cnd_d (fun hg1 => ?_) (fun hg1 => ?_)
 ·skip
  refine ob_i (vInt_add (by omega) (by omega)) ?_
  refine ob_i (vSlS_t (a := ([48, 49, 50, 51, 52, 53, 54, 55, 56, 57, 97, 98, 99, 100, 101, 102, 103, 104, 105, 106, 107, 108, 109, 110, 111, 112, 113, 114, 115, 116, 117, 118, 119, 120, 121, 122] : List UInt8)) (by omega) (by omega) (by first | omega | (simp only [List.length_cons, List.length_nil]; omega))) ?_
  skip
  exact keq (K := K) (by rw [show (decT n.toNat) = (((([48, 49, 50, 51, 52, 53, 54, 55, 56, 57, 97, 98, 99, 100, 101, 102, 103, 104, 105, 106, 107, 108, 109, 110, 111, 112, 113, 114, 115, 116, 117, 118, 119, 120, 121, 122] : List UInt8)).drop (n : Int).toNat).take ((n + 1 : Int).toNat - (n : Int).toNat)) from by exact (small_one (by omega) (by omega)).symm]; try rfl) (hk )
 ·skip
  refine ob_i (vInt_mul (by omega) (by omega)) ?_
  refine ob_i (vInt_mul (by omega) (by omega)) ?_
  refine ob_i (vInt_add (by omega) (by omega)) ?_
  refine ob_i (vSlS_t (a := ([48, 48, 48, 49, 48, 50, 48, 51, 48, 52, 48, 53, 48, 54, 48, 55, 48, 56, 48, 57, 49, 48, 49, 49, 49, 50, 49, 51, 49, 52, 49, 53, 49, 54, 49, 55, 49, 56, 49, 57, 50, 48, 50, 49, 50, 50, 50, 51, 50, 52, 50, 53, 50, 54, 50, 55, 50, 56, 50, 57, 51, 48, 51, 49, 51, 50, 51, 51, 51, 52, 51, 53, 51, 54, 51, 55, 51, 56, 51, 57, 52, 48, 52, 49, 52, 50, 52, 51, 52, 52, 52, 53, 52, 54, 52, 55, 52, 56, 52, 57, 53, 48, 53, 49, 53, 50, 53, 51, 53, 52, 53, 53, 53, 54, 53, 55, 53, 56, 53, 57, 54, 48, 54, 49, 54, 50, 54, 51, 54, 52, 54, 53, 54, 54, 54, 55, 54, 56, 54, 57, 55, 48, 55, 49, 55, 50, 55, 51, 55, 52, 55, 53, 55, 54, 55, 55, 55, 56, 55, 57, 56, 48, 56, 49, 56, 50, 56, 51, 56, 52, 56, 53, 56, 54, 56, 55, 56, 56, 56, 57, 57, 48, 57, 49, 57, 50, 57, 51, 57, 52, 57, 53, 57, 54, 57, 55, 57, 56, 57, 57] : List UInt8)) (by omega) (by omega) (by first | omega | (simp only [List.length_cons, List.length_nil]; omega))) ?_
  skip
  exact keq (K := K) (by rw [show (decT n.toNat) = (((([48, 48, 48, 49, 48, 50, 48, 51, 48, 52, 48, 53, 48, 54, 48, 55, 48, 56, 48, 57, 49, 48, 49, 49, 49, 50, 49, 51, 49, 52, 49, 53, 49, 54, 49, 55, 49, 56, 49, 57, 50, 48, 50, 49, 50, 50, 50, 51, 50, 52, 50, 53, 50, 54, 50, 55, 50, 56, 50, 57, 51, 48, 51, 49, 51, 50, 51, 51, 51, 52, 51, 53, 51, 54, 51, 55, 51, 56, 51, 57, 52, 48, 52, 49, 52, 50, 52, 51, 52, 52, 52, 53, 52, 54, 52, 55, 52, 56, 52, 57, 53, 48, 53, 49, 53, 50, 53, 51, 53, 52, 53, 53, 53, 54, 53, 55, 53, 56, 53, 57, 54, 48, 54, 49, 54, 50, 54, 51, 54, 52, 54, 53, 54, 54, 54, 55, 54, 56, 54, 57, 55, 48, 55, 49, 55, 50, 55, 51, 55, 52, 55, 53, 55, 54, 55, 55, 55, 56, 55, 57, 56, 48, 56, 49, 56, 50, 56, 51, 56, 52, 56, 53, 56, 54, 56, 55, 56, 56, 56, 57, 57, 48, 57, 49, 57, 50, 57, 51, 57, 52, 57, 53, 57, 54, 57, 55, 57, 56, 57, 57] : List UInt8)).drop (n * 2 : Int).toNat).take (((n * 2) + 2 : Int).toNat - (n * 2 : Int).toNat)) from by exact (small_two (by omega) (by omega)).symm]; try rfl) (hk )
theorem C.internal_strconv_FormatInt {n : Int}  {H : Hp} {K : Value → Hp → Prop} (n0 : 0 ≤ n) (n1 : n < 100)
    (hk : K (vS (decT n.toNat)) H) : HT prg I.internal_strconv_FormatInt [(.int .i64 (n)), (.int .i64 (10))].toArray H K := by
 have lE := Le.refl H
 refine R.internal_strconv_FormatInt ?_
 unfold F.internal_strconv_FormatInt
 refine ob_i (a := .bool true) (by kernel_rfl) ?_
 refine cnd_t1 ?_
 refine ob_i (vInt_leq _ _ _) ?_
 by_cases hc1 : 0 ≤ n
 ·skip
  refine gop_e (decide_eq_true hc1) ?_
  refine gop_rt ?_
  refine gop_e (decide_eq_true hc1) ?_
  refine gop_rt ?_
  refine ob_i (vInt_lss _ _ _) ?_
  refine ob_i (vPick_et (decide_eq_true hc1) _ _) ?_
  refine cnd_d (fun hg2 => ?_) (fun hg2 => ?_)
  ·skip
   refine C.internal_strconv_small (by first | omega | assumption) (by first | omega | assumption) ?_
   skip
   exact hk 
  ·skip
   exact absurd hg2 ((fun h => h n1))
 ·skip
  exact absurd hc1 ((fun h => h n0))
theorem C.strconv_FormatInt {n : Int}  {H : Hp} {K : Value → Hp → Prop} (n0 : 0 ≤ n) (n1 : n < 100)
    (hk : K (vS (decT n.toNat)) H) : HT prg I.strconv_FormatInt [(.int .i64 (n)), (.int .i64 (10))].toArray H K := by
 have lE := Le.refl H
 refine R.strconv_FormatInt ?_
 unfold F.strconv_FormatInt
 refine C.internal_strconv_FormatInt (by first | omega | assumption) (by first | omega | assumption) ?_
 skip
 exact hk 
theorem C.impl_Decimal {n : Int}  {H : Hp} {K : Value → Hp → Prop} (n0 : 0 ≤ n) (n1 : n < 100)
    (hk : K (vS (decT n.toNat)) H) : HT prg I.impl_Decimal [(.int .i64 (n))].toArray H K := by
 have lE := Le.refl H
 refine R.impl_Decimal ?_
 unfold F.impl_Decimal
 refine C.strconv_FormatInt (by first | omega | assumption) (by first | omega | assumption) ?_
 skip
 exact hk 
theorem C.l05Number_d {n : Int}  {H : Hp} {K : Value → Hp → Prop} (n0 : 0 ≤ n) (n1 : n < 10)
    (hk : ∀ H', Le H H' → K (vS (decT n.toNat)) H') : HT prg I.spec_l05Number [(.int .i64 (n))].toArray H K := by
 have lE := Le.refl H
 refine R.spec_l05Number ?_
 unfold F.spec_l05Number
 refine ob_i (vInt_lss _ _ _) ?_
 refine cnd_d (fun hg1 => ?_) (fun hg1 => ?_)
 ·skip
  refine ob_i (vInt_add (by omega) (by omega)) ?_
  refine ob_i (vCI_u8 (by omega) (by omega)) ?_
  refine bS_i (enc := eU) (l := [48 + n]) (by omega) rfl (by kernel_rfl) (fun u2 H3 ou2 nn4 le6 => ?_)
  replace lE := lE.trans le6
  refine ob_i (val_convT (by kernel_rfl) ou2.sl) ?_
  skip
  exact keq (K := K) (by rw [show (decT n.toNat) = (btT ([48 + n])) from by exact (num_one (by omega) (by omega)).symm]; try rfl) (hk   _    lE)
 ·skip
  exact absurd hg1 ((fun h => h n1))
theorem C.spec_l05Number {n : Int}  {H : Hp} {K : Value → Hp → Prop} (n0 : 0 ≤ n) (n1 : n < 100)
    (hk : ∀ H', Le H H' → K (vS (decT n.toNat)) H') : HT prg I.spec_l05Number [(.int .i64 (n))].toArray H K := by
 have lE := Le.refl H
 refine R.spec_l05Number ?_
 unfold F.spec_l05Number
 have d1 := decT_len (n / 10).toNat
 have d2 : (btT ([48 + (n % 10)])).length = 1 := rfl
 refine ob_i (vInt_lss _ _ _) ?_
 refine cnd_d (fun hg1 => ?_) (fun hg1 => ?_)
 ·skip
  refine ob_i (vInt_add (by omega) (by omega)) ?_
  refine ob_i (vCI_u8 (by omega) (by omega)) ?_
  refine bS_i (enc := eU) (l := [48 + n]) (by omega) rfl (by kernel_rfl) (fun u2 H3 ou2 nn4 le6 => ?_)
  replace lE := lE.trans le6
  refine ob_i (val_convT (by kernel_rfl) ou2.sl) ?_
  skip
  exact keq (K := K) (by rw [show (decT n.toNat) = (btT ([48 + n])) from by exact (num_one (by omega) (by omega)).symm]; try rfl) (hk   _    lE)
 ·skip
  refine ⟨?_, ?_⟩
  ·skip
   refine ob_i (vInt_quoN (by omega) (by omega) (by omega)) ?_
   refine ob_i (vInt_remN (by omega) (by omega)) ?_
   refine ob_i (vInt_add (by omega) (by omega)) ?_
   refine ob_i (vCI_u8 (by omega) (by omega)) ?_
   refine C.l05Number_d (by first | omega | assumption) (by first | omega | assumption) (fun   H7    le8 => ?_)
   replace lE := lE.trans le8
   refine ⟨le8, ?_⟩
   refine bS_i (enc := eU) (l := [48 + (n % 10)]) (by omega) rfl (by kernel_rfl) (fun u9 H10 ou9 nn11 le13 => ?_)
   replace lE := lE.trans le13
   refine ob_i (val_convT (by kernel_rfl) ou9.sl) ?_
   refine ob_i (vStr_add (a := decT (n / 10).toNat) (b := btT ([48 + (n % 10)])) (by first | omega | (simp only [List.length_append, List.length_cons, List.length_nil, List.length_take, List.length_drop]; omega))) ?_
   skip
   exact keq (K := K) (by rw [show (decT n.toNat) = ((decT (n / 10).toNat) ++ (btT ([48 + (n % 10)]))) from by exact (num_two (by omega) (by omega)).symm]; try rfl) (hk   _    lE)
  ·skip
   refine ob_i (vInt_quoN (by omega) (by omega) (by omega)) ?_
   refine ob_i (vInt_remN (by omega) (by omega)) ?_
   refine ob_i (vInt_add (by omega) (by omega)) ?_
   refine ob_i (vCI_u8 (by omega) (by omega)) ?_
   refine bS_i (enc := eU) (l := [48 + (n % 10)]) (by omega) rfl (by kernel_rfl) (fun u14 H15 ou14 nn16 le18 => ?_)
   replace lE := lE.trans le18
   refine ob_i (val_convT (by kernel_rfl) ou14.sl) ?_
   refine C.l05Number_d (by first | omega | assumption) (by first | omega | assumption) (fun   H19    le20 => ?_)
   replace lE := lE.trans le20
   refine ⟨le20, ?_⟩
   refine ob_i (vStr_add (a := decT (n / 10).toNat) (b := btT ([48 + (n % 10)])) (by first | omega | (simp only [List.length_append, List.length_cons, List.length_nil, List.length_take, List.length_drop]; omega))) ?_
   skip
   exact keq (K := K) (by rw [show (decT n.toNat) = ((decT (n / 10).toNat) ++ (btT ([48 + (n % 10)]))) from by exact (num_two (by omega) (by omega)).symm]; try rfl) (hk   _    lE)
theorem C.impl_runsText {v : Value} {row : List Int}  {H : Hp} {K : Value → Hp → Prop} (hv0 : Sl eI H v row) (h1 : row.length ≤ 24) (hx : ∀ x ∈ row, 0 ≤ x ∧ x ≤ 1)
    (hk : ∀ H', Le H H' → K (vS (rtx row)) H') : HT prg I.impl_runsText [v].toArray H K := by
 have lE := Le.refl H
 have hv := hv0
 refine R.impl_runsText ?_
 unfold F.impl_runsText
 have rl := rtx_len row.length row (Nat.le_refl _)
 refine jn_i (fun σ' H' => σ' 3 = (vS (rtx row)) ∧ Le H H') (fun σ1 H1 hP => ?_) (fun J1 hJ1 => ?_)
 ·skip
  obtain ⟨g3L1, lE⟩ := hP
  try simp only [g3L1]
  skip
  exact hk   _    lE
 refine ⟨fun n' σ' H' => ∃ i : Nat, n' = row.length - i ∧ i ≤ row.length ∧ ∃ out : List UInt8, ∃ a : Nat, σ' 0 = v ∧ σ' 3 = (vS (out)) ∧ σ' 4 = (.int .i64 ((a : Int))) ∧ Le H H' ∧ i ≤ a ∧ a ≤ row.length ∧ out ++ rtx (row.drop a) = rtx row,
  ⟨_, 0, rfl, by omega, [], 0, rfl, rfl, (congrArg (Value.int .i64) (by first | omega | rfl | (simp; done))), lE, (by omega), (by omega), rfl⟩, ?_⟩
 rintro n2 σ2 H2 ⟨i, rfl, hiN, out, a, g0L2, g3L2, g4L2, lE, hm0, hm1, hm2⟩
 have hv := hv0.le lE
 try simp only [g0L2, g4L2]
 have ol := congrArg List.length hm2
 rw [List.length_append] at ol
 refine ob_i (hv.len) ?_
 refine ob_i (vInt_lss _ _ _) ?_
 refine cnd_d (fun hg3 => ?_) (fun hg3 => ?_)
 ·skip
  have ti := hg3
  refine jn_i (fun σ' H' => ∃ k : Nat, σ' 0 = v ∧ σ' 3 = (vS (out)) ∧ σ' 4 = (.int .i64 ((a : Int))) ∧ σ' 5 = (.int .i64 ((a : Int) + (k : Int))) ∧ Le H H' ∧ k = rN (at_ 0 row (a : Int)) (row.drop a) ∧ a + k ≤ row.length ∧ 1 ≤ k) (fun σ4 H4 hP => ?_) (fun J4 hJ4 => ?_)
  ·skip
   obtain ⟨k, g0L4, g3L4, g4L4, g5L4, lE, hk, hk2, hk3⟩ := hP
   have hv := hv0.le lE
   try simp only [g0L4, g3L4, g4L4, g5L4]
   have dl := decT_len (((a : Int) + (k : Int)) - (a : Int)).toNat
   have xa := hx _ (at_mem 0 row (i := (a : Int)) (by omega) (by omega))
   refine ob_i (hv.ix (by omega) (by omega)) ?_
   refine ob_i (hv.ld 0 (by omega) (by omega)) ?_
   refine ob_i (vInt_eql _ _ _) ?_
   by_cases hc5 : (at_ 0 (row) ((a : Int))) = 0
   ·skip
    refine gop_e (decide_eq_true hc5) ?_
    refine gop_rt ?_
    refine gop_e (decide_eq_true hc5) ?_
    refine gop_rt ?_
    refine gop_e (decide_eq_true hc5) ?_
    refine gop_rt ?_
    refine ob_i (hv.len) ?_
    refine gop_e (decide_eq_true hc5) ?_
    refine gop_rt ?_
    refine ob_i (vInt_eql _ _ _) ?_
    refine ob_i (vPick_et (decide_eq_true hc5) _ _) ?_
    refine cnd_d (fun hg6 => ?_) (fun hg6 => ?_)
    ·skip
     have hfin : out = rtx row := by rw [← hm2, rtx_stop (a := a) (k := k) (by omega) hk ⟨hc5, by omega⟩, List.append_nil]
     exact hJ1 _ _ ⟨(g3L4.trans (congrArg vS hfin)), lE⟩
    ·skip
     refine ob_i (vInt_sub (by omega) (by omega)) ?_
     refine ob_i (vInt_gtr _ _ _) ?_
     refine cnd_d (fun hg7 => ?_) (fun hg7 => ?_)
     ·skip
      refine ob_i (vInt_sub (by omega) (by omega)) ?_
      refine C.impl_Decimal (by first | omega | assumption) (by first | omega | assumption) ?_
      refine ob_i (vStr_add (a := out) (b := decT (((a : Int) + (k : Int)) - (a : Int)).toNat) (by first | omega | (simp only [List.length_append, List.length_cons, List.length_nil, List.length_take, List.length_drop]; omega))) ?_
      refine ob_i (hv.ix (by omega) (by omega)) ?_
      refine ob_i (hv.ld 0 (by omega) (by omega)) ?_
      refine ob_i (hv.ix (by omega) (by omega)) ?_
      refine ob_i (hv.ld 0 (by omega) (by omega)) ?_
      refine ob_i (vInt_add (by omega) (by omega)) ?_
      refine ob_i (vSlS_t (a := ([98, 111] : List UInt8)) (by omega) (by omega) (by first | omega | (simp only [List.length_cons, List.length_nil]; omega))) ?_
      refine ob_i (vStr_add (a := out ++ (decT (((a : Int) + (k : Int)) - (a : Int)).toNat)) (b := ((([98, 111] : List UInt8)).drop (at_ 0 (row) ((a : Int)) : Int).toNat).take (((at_ 0 (row) ((a : Int))) + 1 : Int).toNat - (at_ 0 (row) ((a : Int)) : Int).toNat)) (by first | omega | (simp only [List.length_append, List.length_cons, List.length_nil, List.length_take, List.length_drop]; omega))) ?_
      exact nxt (row.length - (i + 1)) (by omega) ⟨i + 1, rfl, by omega, ((out ++ (decT (((a : Int) + (k : Int)) - (a : Int)).toNat)) ++ (((([98, 111] : List UInt8)).drop (at_ 0 (row) ((a : Int)) : Int).toNat).take (((at_ 0 (row) ((a : Int))) + 1 : Int).toNat - (at_ 0 (row) ((a : Int)) : Int).toNat))), (a + k), g0L4, rfl, (congrArg (Value.int .i64) (by omega)), lE, (by omega), (by omega), (by have hr := rtx_run (a := a) (k := k) (by omega) hk (fun h => by exact hg6 (by omega)); rw [← hm2, hr, if_neg (show ¬ k = 1 by omega)]; rw [bo_T (hx _ (at_mem 0 row (by omega) (by omega))).1 (hx _ (at_mem 0 row (by omega) (by omega))).2]; rw [show ((a : Int) + (k : Int) - (a : Int)).toNat = k by omega]; simp only [List.append_assoc])⟩
     ·skip
      refine ob_i (hv.ix (by omega) (by omega)) ?_
      refine ob_i (hv.ld 0 (by omega) (by omega)) ?_
      refine ob_i (hv.ix (by omega) (by omega)) ?_
      refine ob_i (hv.ld 0 (by omega) (by omega)) ?_
      refine ob_i (vInt_add (by omega) (by omega)) ?_
      refine ob_i (vSlS_t (a := ([98, 111] : List UInt8)) (by omega) (by omega) (by first | omega | (simp only [List.length_cons, List.length_nil]; omega))) ?_
      refine ob_i (vStr_add (a := out) (b := ((([98, 111] : List UInt8)).drop (at_ 0 (row) ((a : Int)) : Int).toNat).take (((at_ 0 (row) ((a : Int))) + 1 : Int).toNat - (at_ 0 (row) ((a : Int)) : Int).toNat)) (by first | omega | (simp only [List.length_cons, List.length_nil, List.length_take, List.length_drop]; omega))) ?_
      exact nxt (row.length - (i + 1)) (by omega) ⟨i + 1, rfl, by omega, (out ++ (((([98, 111] : List UInt8)).drop (at_ 0 (row) ((a : Int)) : Int).toNat).take (((at_ 0 (row) ((a : Int))) + 1 : Int).toNat - (at_ 0 (row) ((a : Int)) : Int).toNat))), (a + k), g0L4, rfl, (congrArg (Value.int .i64) (by omega)), lE, (by omega), (by omega), (by have hr := rtx_run (a := a) (k := k) (by omega) hk (fun h => by exact hg6 (by omega)); rw [← hm2, hr, if_pos (show k = 1 by omega)]; rw [bo_T (hx _ (at_mem 0 row (by omega) (by omega))).1 (hx _ (at_mem 0 row (by omega) (by omega))).2]; simp only [List.append_assoc, List.nil_append])⟩
   ·skip
    refine gop_e (decide_eq_false hc5) ?_
    refine gop_sf ?_
    refine gop_e (decide_eq_false hc5) ?_
    refine gop_sf ?_
    refine gop_e (decide_eq_false hc5) ?_
    refine gop_sf ?_
    refine gop_e (decide_eq_false hc5) ?_
    refine gop_sf ?_
    refine ob_i (vPick_ef (decide_eq_false hc5) _ _) ?_
    refine cnd_f1 ?_
    refine ob_i (vInt_sub (by omega) (by omega)) ?_
    refine ob_i (vInt_gtr _ _ _) ?_
    refine cnd_d (fun hg8 => ?_) (fun hg8 => ?_)
    ·skip
     refine ob_i (vInt_sub (by omega) (by omega)) ?_
     refine C.impl_Decimal (by first | omega | assumption) (by first | omega | assumption) ?_
     refine ob_i (vStr_add (a := out) (b := decT (((a : Int) + (k : Int)) - (a : Int)).toNat) (by first | omega | (simp only [List.length_append, List.length_cons, List.length_nil, List.length_take, List.length_drop]; omega))) ?_
     refine ob_i (hv.ix (by omega) (by omega)) ?_
     refine ob_i (hv.ld 0 (by omega) (by omega)) ?_
     refine ob_i (hv.ix (by omega) (by omega)) ?_
     refine ob_i (hv.ld 0 (by omega) (by omega)) ?_
     refine ob_i (vInt_add (by omega) (by omega)) ?_
     refine ob_i (vSlS_t (a := ([98, 111] : List UInt8)) (by omega) (by omega) (by first | omega | (simp only [List.length_cons, List.length_nil]; omega))) ?_
     refine ob_i (vStr_add (a := out ++ (decT (((a : Int) + (k : Int)) - (a : Int)).toNat)) (b := ((([98, 111] : List UInt8)).drop (at_ 0 (row) ((a : Int)) : Int).toNat).take (((at_ 0 (row) ((a : Int))) + 1 : Int).toNat - (at_ 0 (row) ((a : Int)) : Int).toNat)) (by first | omega | (simp only [List.length_append, List.length_cons, List.length_nil, List.length_take, List.length_drop]; omega))) ?_
     exact nxt (row.length - (i + 1)) (by omega) ⟨i + 1, rfl, by omega, ((out ++ (decT (((a : Int) + (k : Int)) - (a : Int)).toNat)) ++ (((([98, 111] : List UInt8)).drop (at_ 0 (row) ((a : Int)) : Int).toNat).take (((at_ 0 (row) ((a : Int))) + 1 : Int).toNat - (at_ 0 (row) ((a : Int)) : Int).toNat))), (a + k), g0L4, rfl, (congrArg (Value.int .i64) (by omega)), lE, (by omega), (by omega), (by have hr := rtx_run (a := a) (k := k) (by omega) hk (fun h => by exact hc5 h.1); rw [← hm2, hr, if_neg (show ¬ k = 1 by omega)]; rw [bo_T (hx _ (at_mem 0 row (by omega) (by omega))).1 (hx _ (at_mem 0 row (by omega) (by omega))).2]; rw [show ((a : Int) + (k : Int) - (a : Int)).toNat = k by omega]; simp only [List.append_assoc])⟩
    ·skip
     refine ob_i (hv.ix (by omega) (by omega)) ?_
     refine ob_i (hv.ld 0 (by omega) (by omega)) ?_
     refine ob_i (hv.ix (by omega) (by omega)) ?_
     refine ob_i (hv.ld 0 (by omega) (by omega)) ?_
     refine ob_i (vInt_add (by omega) (by omega)) ?_
     refine ob_i (vSlS_t (a := ([98, 111] : List UInt8)) (by omega) (by omega) (by first | omega | (simp only [List.length_cons, List.length_nil]; omega))) ?_
     refine ob_i (vStr_add (a := out) (b := ((([98, 111] : List UInt8)).drop (at_ 0 (row) ((a : Int)) : Int).toNat).take (((at_ 0 (row) ((a : Int))) + 1 : Int).toNat - (at_ 0 (row) ((a : Int)) : Int).toNat)) (by first | omega | (simp only [List.length_cons, List.length_nil, List.length_take, List.length_drop]; omega))) ?_
     exact nxt (row.length - (i + 1)) (by omega) ⟨i + 1, rfl, by omega, (out ++ (((([98, 111] : List UInt8)).drop (at_ 0 (row) ((a : Int)) : Int).toNat).take (((at_ 0 (row) ((a : Int))) + 1 : Int).toNat - (at_ 0 (row) ((a : Int)) : Int).toNat))), (a + k), g0L4, rfl, (congrArg (Value.int .i64) (by omega)), lE, (by omega), (by omega), (by have hr := rtx_run (a := a) (k := k) (by omega) hk (fun h => by exact hc5 h.1); rw [← hm2, hr, if_pos (show k = 1 by omega)]; rw [bo_T (hx _ (at_mem 0 row (by omega) (by omega))).1 (hx _ (at_mem 0 row (by omega) (by omega))).2]; simp only [List.append_assoc, List.nil_append])⟩
  refine ⟨fun n' σ' H' => ∃ j : Nat, n' = row.length - j ∧ j ≤ row.length ∧ σ' 0 = v ∧ σ' 3 = (vS (out)) ∧ σ' 4 = (.int .i64 ((a : Int))) ∧ σ' 5 = (.int .i64 ((a : Int) + (j : Int))) ∧ Le H H' ∧ j ≤ rN (at_ 0 row (a : Int)) (row.drop a) ∧ a + j ≤ row.length,
   ⟨_, 0, rfl, by omega, g0L2, g3L2, g4L2, (congrArg (Value.int .i64) (by first | omega | rfl | (simp; done))), lE, (by omega), (by omega)⟩, ?_⟩
  rintro n9 σ9 H9 ⟨j, rfl, hjN, g0L9, g3L9, g4L9, g5L9, lE, hm0', hm1'⟩
  have hv := hv0.le lE
  try simp only [g0L9, g4L9, g5L9]
  refine ob_i (hv.len) ?_
  refine ob_i (vInt_lss _ _ _) ?_
  by_cases hc10 : ((a : Int) + (j : Int)) < (((row).length : Int))
  ·skip
   refine gop_e (decide_eq_true hc10) ?_
   refine gop_rt ?_
   refine gop_e (decide_eq_true hc10) ?_
   refine gop_rt ?_
   refine gop_e (decide_eq_true hc10) ?_
   refine gop_rt ?_
   refine ob_i (hv.ix (by omega) (by omega)) ?_
   refine gop_e (decide_eq_true hc10) ?_
   refine gop_rt ?_
   refine ob_i (hv.ld 0 (by omega) (by omega)) ?_
   refine gop_e (decide_eq_true hc10) ?_
   refine gop_rt ?_
   refine gop_e (decide_eq_true hc10) ?_
   refine gop_rt ?_
   refine gop_e (decide_eq_true hc10) ?_
   refine gop_rt ?_
   refine ob_i (hv.ix (by omega) (by omega)) ?_
   refine gop_e (decide_eq_true hc10) ?_
   refine gop_rt ?_
   refine ob_i (hv.ld 0 (by omega) (by omega)) ?_
   refine gop_e (decide_eq_true hc10) ?_
   refine gop_rt ?_
   refine ob_i (vInt_eql _ _ _) ?_
   refine ob_i (vPick_et (decide_eq_true hc10) _ _) ?_
   refine cnd_d (fun hg11 => ?_) (fun hg11 => ?_)
   ·skip
    refine ob_i (vInt_add (by omega) (by omega)) ?_
    exact nxt (row.length - (j + 1)) (by omega) ⟨j + 1, rfl, by omega, g0L9, g3L9, g4L9, (congrArg (Value.int .i64) (by first | omega | rfl | (simp; done))), lE, (by have := run_next (a := a) (e := a + j) (by omega) (by rw [show a + j - a = j by omega]; exact hm0') (by omega) (by rw [show ((a + j : Nat) : Int) = (a : Int) + (j : Int) by omega]; exact hg11); omega), (by omega)⟩
   ·skip
    exact hJ4 _ _ ⟨j, g0L9, g3L9, g4L9, (g5L9.trans (congrArg (Value.int .i64) (by first | omega | rfl | (simp; done)))), lE, (by have := run_end (a := a) (e := a + j) (by omega) (by rw [show a + j - a = j by omega]; exact hm0') (by omega) (Or.inr (by rw [show ((a + j : Nat) : Int) = (a : Int) + (j : Int) by omega]; exact hg11)); omega), (by omega), (by have h9 := run_end (a := a) (e := a + j) (by omega) (by rw [show a + j - a = j by omega]; exact hm0') (by omega) (Or.inr (by rw [show ((a + j : Nat) : Int) = (a : Int) + (j : Int) by omega]; exact hg11)); have := (run_pos (row := row) (a := a) (by omega)).1; omega)⟩
  ·skip
   refine gop_e (decide_eq_false hc10) ?_
   refine gop_sf ?_
   refine gop_e (decide_eq_false hc10) ?_
   refine gop_sf ?_
   refine gop_e (decide_eq_false hc10) ?_
   refine gop_sf ?_
   refine gop_e (decide_eq_false hc10) ?_
   refine gop_sf ?_
   refine gop_e (decide_eq_false hc10) ?_
   refine gop_sf ?_
   refine gop_e (decide_eq_false hc10) ?_
   refine gop_sf ?_
   refine gop_e (decide_eq_false hc10) ?_
   refine gop_sf ?_
   refine gop_e (decide_eq_false hc10) ?_
   refine gop_sf ?_
   refine gop_e (decide_eq_false hc10) ?_
   refine gop_sf ?_
   refine ob_i (vPick_ef (decide_eq_false hc10) _ _) ?_
   refine cnd_f1 ?_
   exact hJ4 _ _ ⟨j, g0L9, g3L9, g4L9, (g5L9.trans (congrArg (Value.int .i64) (by first | omega | rfl | (simp; done)))), lE, (by have := run_end (a := a) (e := a + j) (by omega) (by rw [show a + j - a = j by omega]; exact hm0') (by omega) (Or.inl (by omega)); omega), (by omega), (by have h9 := run_end (a := a) (e := a + j) (by omega) (by rw [show a + j - a = j by omega]; exact hm0') (by omega) (Or.inl (by omega)); have := (run_pos (row := row) (a := a) (by omega)).1; omega)⟩
 ·skip
  have ti := hg3
  have hfin : out = rtx row := by rw [← hm2, show row.drop a = [] from List.drop_eq_nil_of_le (by omega), rtx_nil, List.append_nil]
  exact hJ1 _ _ ⟨(g3L2.trans (congrArg vS hfin)), lE⟩
theorem C.spec_l05Write {p vc : Value} {r c : Int} {l : List Int}  {H : Hp} {K : Value → Hp → Prop} (hp0 : CelR H p [(.int .i64 (r)), (.int .i64 (c)), vc]) (hvc0 : Sl eI H vc l) (hf : fieldN 1 r c l)
    (hk : ∀ H', Le H H' → K (vS (fieldT r c l)) H') : HT prg I.spec_l05Write [p].toArray H K := by
 have lE := Le.refl H
 have hp := hp0
 refine R.spec_l05Write ?_
 unfold F.spec_l05Write
 have hs := hf.1
 have hl := hf.2.1
 have q1 := hs.1
 have q2 := hs.2
 have qm := sidesF_mul hs
 have l1 := fieldN_len hf
 have dc := decT_len c.toNat
 have dr := decT_len r.toNat
 refine ob_i (hp.nilC) ?_
 refine ob_i (hp.fa 1) ?_
 refine ob_i (hp.ld 1 rfl) ?_
 refine ob_i (hp.nilC) ?_
 refine ob_i (hp.fa 0) ?_
 refine ob_i (hp.ld 0 rfl) ?_
 refine C.spec_l05Number (by first | omega | assumption) (by first | omega | assumption) (fun   H1    le2 => ?_)
 replace hp := hp.le le2
 replace lE := lE.trans le2
 refine ⟨le2, ?_⟩
 refine ob_i (vStr_add (a := decT c.toNat) (b := ([44] : List UInt8)) (by first | omega | (simp only [List.length_cons, List.length_nil]; omega))) ?_
 refine C.spec_l05Number (by first | omega | assumption) (by first | omega | assumption) (fun   H3    le4 => ?_)
 replace hp := hp.le le4
 replace lE := lE.trans le4
 refine ⟨le4, ?_⟩
 refine ob_i (vStr_add (a := (decT c.toNat) ++ ([44] : List UInt8)) (b := decT r.toNat) (by first | omega | (simp only [List.length_append, List.length_cons, List.length_nil]; omega))) ?_
 refine ob_i (vStr_add (a := ((decT c.toNat) ++ ([44] : List UInt8)) ++ (decT r.toNat)) (b := ([58] : List UInt8)) (by first | omega | (simp only [List.length_append, List.length_cons, List.length_nil]; omega))) ?_
 refine jn_i (fun σ' H' => σ' 3 = (vS (headT r c ++ joinR c.toNat l r.toNat)) ∧ Le H H') (fun σ5 H5 hP => ?_) (fun J5 hJ5 => ?_)
 ·skip
  obtain ⟨g3L5, lE⟩ := hP
  try simp only [g3L5]
  have jl0 := joinR_len (c := c.toNat) (l := l) r.toNat
  have jm0 : r.toNat * (3 * c.toNat + 1) ≤ 24 * 73 := Nat.mul_le_mul (by omega) (by omega)
  have hl0 := headT_len r c
  refine ob_i (vStr_add (a := headT r c ++ joinR c.toNat l r.toNat) (b := ([33] : List UInt8)) (by first | omega | (simp only [List.length_append, List.length_cons, List.length_nil]; omega))) ?_
  skip
  exact keq (K := K) (by rw [show (fieldT r c l) = ((headT r c ++ joinR c.toNat l r.toNat) ++ ([33] : List UInt8)) from by rfl]; try rfl) (hk   _    lE)
 refine ⟨fun n' σ' H' => ∃ i : Nat, n' = r.toNat - i ∧ i ≤ r.toNat ∧ σ' 0 = p ∧ σ' 3 = (vS (headT r c ++ joinR c.toNat l i)) ∧ σ' 4 = (.int .i64 ((i : Int))) ∧ Le H H',
  ⟨_, 0, rfl, by omega, rfl, (congrArg vS (by rw [joinR_zero, List.append_nil]; rfl)), (congrArg (Value.int .i64) (by first | omega | rfl | (simp; done))), lE⟩, ?_⟩
 rintro n6 σ6 H6 ⟨i, rfl, hiN, g0L6, g3L6, g4L6, lE⟩
 have hp := hp0.le lE
 try simp only [g0L6, g3L6, g4L6]
 have jl0 := joinR_len (c := c.toNat) (l := l) i
 have jm0 : i * (3 * c.toNat + 1) ≤ 24 * 73 := Nat.mul_le_mul (by omega) (by omega)
 have hl0 := headT_len r c
 refine ob_i (hp.nilC) ?_
 refine ob_i (hp.fa 0) ?_
 refine ob_i (hp.ld 0 rfl) ?_
 refine ob_i (vInt_lss _ _ _) ?_
 refine cnd_d (fun hg7 => ?_) (fun hg7 => ?_)
 ·skip
  have ti := hg7
  have rm := row_mul (i := i) hs (by omega)
  refine jn_i (fun σ' H' => σ' 0 = p ∧ σ' 3 = (vS (headT r c ++ joinR c.toNat l (i + 1))) ∧ σ' 4 = (.int .i64 ((i : Int))) ∧ Le H H') (fun σ8 H8 hP => ?_) (fun J8 hJ8 => ?_)
  ·skip
   obtain ⟨g0L8, g3L8, g4L8, lE⟩ := hP
   try simp only [g4L8]
   refine ob_i (vInt_add (by omega) (by omega)) ?_
   exact nxt (r.toNat - (i + 1)) (by omega) ⟨i + 1, rfl, by omega, g0L8, g3L8, (congrArg (Value.int .i64) (by first | omega | rfl | (simp; done))), lE⟩
  refine jn_i (fun σ' H' => ∃ B : List UInt8, σ' 0 = p ∧ σ' 3 = (vS (B)) ∧ σ' 4 = (.int .i64 ((i : Int))) ∧ Le H H' ∧ B ++ rtx (rowL c.toNat l i) = headT r c ++ joinR c.toNat l (i + 1)) (fun σ9 H9 hP => ?_) (fun J9 hJ9 => ?_)
  ·skip
   obtain ⟨B, g0L9, g3L9, g4L9, lE, hB⟩ := hP
   have hp := hp0.le lE
   try simp only [g0L9, g4L9]
   refine ob_i (hp.nilC) ?_
   refine ob_i (hp.fa 2) ?_
   refine ob_i (hp.ld 2 rfl) ?_
   refine ob_i (hp.nilC) ?_
   refine ob_i (hp.fa 1) ?_
   refine ob_i (hp.ld 1 rfl) ?_
   refine ob_i (vInt_mul (by omega) (by omega)) ?_
   refine ob_i (vInt_add (by omega) (by omega)) ?_
   refine ob_i (hp.nilC) ?_
   refine ob_i (hp.fa 1) ?_
   refine ob_i (hp.ld 1 rfl) ?_
   refine ob_i (vInt_mul (by omega) (by omega)) ?_
   obtain ⟨x10, eq11a, eq11b, eq11c, eq11d, hx100, hb12⟩ := hvc0.cut (lo := (i : Int) * c) (hi := ((i : Int) + 1) * c) (by omega) (by omega) (by omega)
   refine ob_i (eq11a) ?_
   rw [row_eq (l := l) (i := i) hs (by omega)] at hx100
   obtain ⟨row, hr0⟩ : ∃ row, row = rowL c.toNat l i := ⟨_, rfl⟩
   rw [← hr0] at hx100 hB
   have hrl : row.length = c.toNat := by rw [hr0]; exact rowL_len (r := r.toNat) (by rw [← Int.natCast_inj]; rw [Int.natCast_mul, Int.toNat_of_nonneg (by omega), Int.toNat_of_nonneg (by omega)]; exact hl) (by omega)
   have rtl := rtx_len row.length row (Nat.le_refl _)
   have bl := congrArg List.length hB
   simp only [List.length_append] at bl
   have jl := joinR_len (c := c.toNat) (l := l) (i + 1)
   have jm : (i + 1) * (3 * c.toNat + 1) ≤ 24 * 73 := Nat.mul_le_mul (by omega) (by omega)
   have hl6 := headT_len r c
   have hx10 := hx100.le lE
   refine ob_i (hx10.len) ?_
   refine jn_i (fun σ' H' => ∃ e : Nat, σ' 0 = p ∧ σ' 3 = (vS (B)) ∧ σ' 4 = (.int .i64 ((i : Int))) ∧ σ' 5 = x10 ∧ σ' 6 = (.int .i64 ((e : Int))) ∧ Le H H' ∧ endP row e ∧ (0 < e → at_ 0 row ((e - 1 : Nat) : Int) ≠ 0) ∧ e ≤ c.toNat) (fun σ13 H13 hP => ?_) (fun J13 hJ13 => ?_)
   ·skip
    obtain ⟨e, g0L13, g3L13, g4L13, g5L13, g6L13, lE, hend, hlast, hec⟩ := hP
    have hx10 := hx100.le lE
    try simp only [g3L13, g5L13, g6L13]
    refine ⟨fun n' σ' H' => ∃ t : Nat, n' = c.toNat - t ∧ t ≤ c.toNat ∧ ∃ out : List UInt8, ∃ a : Nat, σ' 0 = p ∧ σ' 3 = (vS (out)) ∧ σ' 4 = (.int .i64 ((i : Int))) ∧ σ' 5 = x10 ∧ σ' 6 = (.int .i64 ((e : Int))) ∧ σ' 7 = (.int .i64 ((a : Int))) ∧ Le H H' ∧ t ≤ a ∧ a ≤ e ∧ out ++ rtx (row.drop a) = B ++ rtx row,
     ⟨_, 0, rfl, by omega, B, 0, g0L13, g3L13, g4L13, g5L13, g6L13, (congrArg (Value.int .i64) (by first | omega | rfl | (simp; done))), lE, (by omega), (by omega), rfl⟩, ?_⟩
    rintro n14 σ14 H14 ⟨t, rfl, htN, out, a, g0L14, g3L14, g4L14, g5L14, g6L14, g7L14, lE, hq0, hq1, hq2⟩
    have hx10 := hx100.le lE
    try simp only [g6L14, g7L14]
    have ol := congrArg List.length hq2
    simp only [List.length_append] at ol
    refine ob_i (vInt_lss _ _ _) ?_
    refine cnd_d (fun hg15 => ?_) (fun hg15 => ?_)
    ·skip
     have tt := hg15
     refine jn_i (fun σ' H' => ∃ k : Nat, σ' 0 = p ∧ σ' 3 = (vS (out)) ∧ σ' 4 = (.int .i64 ((i : Int))) ∧ σ' 5 = x10 ∧ σ' 6 = (.int .i64 ((e : Int))) ∧ σ' 7 = (.int .i64 ((a : Int))) ∧ σ' 8 = (.int .i64 ((k : Int))) ∧ Le H H' ∧ k = rN (at_ 0 row (a : Int)) (row.drop a) ∧ ¬ (at_ 0 row (a : Int) = 0 ∧ a + k = row.length) ∧ 1 ≤ k ∧ a + k ≤ e) (fun σ16 H16 hP => ?_) (fun J16 hJ16 => ?_)
     ·skip
      obtain ⟨k, g0L16, g3L16, g4L16, g5L16, g6L16, g7L16, g8L16, lE, hk, hne, hk1, hk2⟩ := hP
      have hx10 := hx100.le lE
      try simp only [g3L16, g5L16, g7L16, g8L16]
      have dl := decT_len (k : Int).toNat
      refine ob_i (vInt_gtr _ _ _) ?_
      refine cnd_d (fun hg17 => ?_) (fun hg17 => ?_)
      ·skip
       refine C.spec_l05Number (by first | omega | assumption) (by first | omega | assumption) (fun   H18    le19 => ?_)
       replace hx10 := hx10.le le19
       replace lE := lE.trans le19
       refine ob_i (vStr_add (a := out) (b := decT (k : Int).toNat) (by first | omega | (simp only [List.length_append, List.length_cons, List.length_nil, List.length_take, List.length_drop]; omega))) ?_
       refine ob_i (hx10.ix (by omega) (by omega)) ?_
       refine ob_i (hx10.ld 0 (by omega) (by omega)) ?_
       refine ob_i (vInt_eql _ _ _) ?_
       refine cnd_d (fun hg20 => ?_) (fun hg20 => ?_)
       ·skip
        refine ob_i (vStr_add (a := out ++ (decT (k : Int).toNat)) (b := ([111] : List UInt8)) (by first | omega | (simp only [List.length_append, List.length_cons, List.length_nil]; omega))) ?_
        refine ob_i (vInt_add (by omega) (by omega)) ?_
        exact nxt (c.toNat - (t + 1)) (by omega) ⟨t + 1, rfl, by omega, ((out ++ (decT (k : Int).toNat)) ++ ([111] : List UInt8)), (a + k), g0L16, rfl, g4L16, g5L16, g6L16, (congrArg (Value.int .i64) (by omega)), lE, (by omega), (by omega), (by rw [← hq2, rtx_run (a := a) (k := k) (by omega) hk hne, if_neg (show ¬ k = 1 by omega), chT_1 hg20]; simp only [List.append_assoc, Int.toNat_natCast])⟩
       ·skip
        refine ob_i (vStr_add (a := out ++ (decT (k : Int).toNat)) (b := ([98] : List UInt8)) (by first | omega | (simp only [List.length_append, List.length_cons, List.length_nil]; omega))) ?_
        refine ob_i (vInt_add (by omega) (by omega)) ?_
        exact nxt (c.toNat - (t + 1)) (by omega) ⟨t + 1, rfl, by omega, ((out ++ (decT (k : Int).toNat)) ++ ([98] : List UInt8)), (a + k), g0L16, rfl, g4L16, g5L16, g6L16, (congrArg (Value.int .i64) (by omega)), lE, (by omega), (by omega), (by rw [← hq2, rtx_run (a := a) (k := k) (by omega) hk hne, if_neg (show ¬ k = 1 by omega), chT_0 hg20]; simp only [List.append_assoc, Int.toNat_natCast])⟩
      ·skip
       refine ob_i (hx10.ix (by omega) (by omega)) ?_
       refine ob_i (hx10.ld 0 (by omega) (by omega)) ?_
       refine ob_i (vInt_eql _ _ _) ?_
       refine cnd_d (fun hg21 => ?_) (fun hg21 => ?_)
       ·skip
        refine ob_i (vStr_add (a := out) (b := ([111] : List UInt8)) (by first | omega | (simp only [List.length_cons, List.length_nil]; omega))) ?_
        refine ob_i (vInt_add (by omega) (by omega)) ?_
        exact nxt (c.toNat - (t + 1)) (by omega) ⟨t + 1, rfl, by omega, (out ++ ([111] : List UInt8)), (a + k), g0L16, rfl, g4L16, g5L16, g6L16, (congrArg (Value.int .i64) (by omega)), lE, (by omega), (by omega), (by rw [← hq2, rtx_run (a := a) (k := k) (by omega) hk hne, if_pos (show k = 1 by omega), chT_1 hg21]; simp only [List.append_assoc, List.nil_append])⟩
       ·skip
        refine ob_i (vStr_add (a := out) (b := ([98] : List UInt8)) (by first | omega | (simp only [List.length_cons, List.length_nil]; omega))) ?_
        refine ob_i (vInt_add (by omega) (by omega)) ?_
        exact nxt (c.toNat - (t + 1)) (by omega) ⟨t + 1, rfl, by omega, (out ++ ([98] : List UInt8)), (a + k), g0L16, rfl, g4L16, g5L16, g6L16, (congrArg (Value.int .i64) (by omega)), lE, (by omega), (by omega), (by rw [← hq2, rtx_run (a := a) (k := k) (by omega) hk hne, if_pos (show k = 1 by omega), chT_0 hg21]; simp only [List.append_assoc, List.nil_append])⟩
     refine ⟨fun n' σ' H' => ∃ j : Nat, n' = c.toNat - j ∧ j ≤ c.toNat ∧ σ' 0 = p ∧ σ' 3 = (vS (out)) ∧ σ' 4 = (.int .i64 ((i : Int))) ∧ σ' 5 = x10 ∧ σ' 6 = (.int .i64 ((e : Int))) ∧ σ' 7 = (.int .i64 ((a : Int))) ∧ σ' 8 = (.int .i64 ((1 : Int) + (j : Int))) ∧ Le H H' ∧ 1 + j ≤ rN (at_ 0 row (a : Int)) (row.drop a) ∧ a + (1 + j) ≤ e,
      ⟨_, 0, rfl, by omega, g0L14, g3L14, g4L14, g5L14, g6L14, g7L14, (congrArg (Value.int .i64) (by first | omega | rfl | (simp; done))), lE, (by have := run_zero (row := row) (a := a) (by omega); omega), (by omega)⟩, ?_⟩
     rintro n22 σ22 H22 ⟨j, rfl, hjN, g0L22, g3L22, g4L22, g5L22, g6L22, g7L22, g8L22, lE, hj0, hj1⟩
     have hx10 := hx100.le lE
     try simp only [g5L22, g6L22, g7L22, g8L22]
     refine ob_i (vInt_add (by omega) (by omega)) ?_
     refine ob_i (vInt_lss _ _ _) ?_
     by_cases hc23 : ((a : Int) + ((1 : Int) + (j : Int))) < (e : Int)
     ·skip
      refine gop_e (decide_eq_true hc23) ?_
      refine gop_rt ?_
      refine gop_e (decide_eq_true hc23) ?_
      refine gop_rt ?_
      refine gop_e (decide_eq_true hc23) ?_
      refine gop_rt ?_
      refine gop_e (decide_eq_true hc23) ?_
      refine gop_rt ?_
      refine ob_i (vInt_add (by omega) (by omega)) ?_
      refine gop_e (decide_eq_true hc23) ?_
      refine gop_rt ?_
      refine ob_i (hx10.ix (by omega) (by omega)) ?_
      refine gop_e (decide_eq_true hc23) ?_
      refine gop_rt ?_
      refine ob_i (hx10.ld 0 (by omega) (by omega)) ?_
      refine gop_e (decide_eq_true hc23) ?_
      refine gop_rt ?_
      refine gop_e (decide_eq_true hc23) ?_
      refine gop_rt ?_
      refine gop_e (decide_eq_true hc23) ?_
      refine gop_rt ?_
      refine ob_i (hx10.ix (by omega) (by omega)) ?_
      refine gop_e (decide_eq_true hc23) ?_
      refine gop_rt ?_
      refine ob_i (hx10.ld 0 (by omega) (by omega)) ?_
      refine gop_e (decide_eq_true hc23) ?_
      refine gop_rt ?_
      refine ob_i (vInt_eql _ _ _) ?_
      refine ob_i (vPick_et (decide_eq_true hc23) _ _) ?_
      refine cnd_d (fun hg24 => ?_) (fun hg24 => ?_)
      ·skip
       refine ob_i (vInt_add (by omega) (by omega)) ?_
       exact nxt (c.toNat - (j + 1)) (by omega) ⟨j + 1, rfl, by omega, g0L22, g3L22, g4L22, g5L22, g6L22, g7L22, (congrArg (Value.int .i64) (by first | omega | rfl | (simp; done))), lE, (by have := run_next (a := a) (e := a + (1 + j)) (by omega) (by rw [show a + (1 + j) - a = 1 + j by omega]; exact hj0) (by omega) (by rw [show ((a + (1 + j) : Nat) : Int) = (a : Int) + ((1 : Int) + (j : Int)) by omega]; exact hg24); omega), (by omega)⟩
      ·skip
       have hcut := run_cut (k := 1 + j) hend hlast (a := a) (by omega) (by omega) hj0 (by omega) (.inr (by rw [show ((a + (1 + j) : Nat) : Int) = (a : Int) + ((1 : Int) + (j : Int)) by omega]; exact hg24))
       exact hJ16 _ _ ⟨(1 + j), g0L22, g3L22, g4L22, g5L22, g6L22, g7L22, (g8L22.trans (congrArg (Value.int .i64) (by first | omega | rfl | (simp; done)))), lE, hcut.1, hcut.2, (by omega), (by omega)⟩
     ·skip
      refine gop_e (decide_eq_false hc23) ?_
      refine gop_sf ?_
      refine gop_e (decide_eq_false hc23) ?_
      refine gop_sf ?_
      refine gop_e (decide_eq_false hc23) ?_
      refine gop_sf ?_
      refine gop_e (decide_eq_false hc23) ?_
      refine gop_sf ?_
      refine gop_e (decide_eq_false hc23) ?_
      refine gop_sf ?_
      refine gop_e (decide_eq_false hc23) ?_
      refine gop_sf ?_
      refine gop_e (decide_eq_false hc23) ?_
      refine gop_sf ?_
      refine gop_e (decide_eq_false hc23) ?_
      refine gop_sf ?_
      refine gop_e (decide_eq_false hc23) ?_
      refine gop_sf ?_
      refine gop_e (decide_eq_false hc23) ?_
      refine gop_sf ?_
      refine gop_e (decide_eq_false hc23) ?_
      refine gop_sf ?_
      refine ob_i (vPick_ef (decide_eq_false hc23) _ _) ?_
      refine cnd_f1 ?_
      have hcut := run_cut (k := 1 + j) hend hlast (a := a) (by omega) (by omega) hj0 (by omega) (.inl (by omega))
      exact hJ16 _ _ ⟨(1 + j), g0L22, g3L22, g4L22, g5L22, g6L22, g7L22, (g8L22.trans (congrArg (Value.int .i64) (by first | omega | rfl | (simp; done)))), lE, hcut.1, hcut.2, (by omega), (by omega)⟩
    ·skip
     have tt := hg15
     exact hJ8 _ _ ⟨g0L14, (g3L14.trans (congrArg vS (by rw [show a = e by omega, endP_rtx hend, List.append_nil] at hq2; rw [hq2, hB]))), g4L14, lE⟩
   refine ⟨fun n' σ' H' => ∃ j : Nat, n' = c.toNat - j ∧ j ≤ c.toNat ∧ σ' 0 = p ∧ σ' 3 = (vS (B)) ∧ σ' 4 = (.int .i64 ((i : Int))) ∧ σ' 5 = x10 ∧ σ' 6 = (.int .i64 (((c.toNat - j : Nat) : Int))) ∧ Le H H' ∧ endP row (c.toNat - j),
    ⟨_, 0, rfl, by omega, g0L9, g3L9, g4L9, rfl, (congrArg (Value.int .i64) (by first | omega | rfl | (simp; done))), lE, ⟨by omega, fun q h1 h2 => by omega⟩⟩, ?_⟩
   rintro n25 σ25 H25 ⟨j, rfl, hjN, g0L25, g3L25, g4L25, g5L25, g6L25, lE, he0⟩
   have hx10 := hx100.le lE
   try simp only [g5L25, g6L25]
   refine ob_i (vInt_gtr _ _ _) ?_
   by_cases hc26 : 0 < (((c.toNat - j : Nat) : Int))
   ·skip
    refine gop_e (decide_eq_true hc26) ?_
    refine gop_rt ?_
    refine gop_e (decide_eq_true hc26) ?_
    refine gop_rt ?_
    refine gop_e (decide_eq_true hc26) ?_
    refine gop_rt ?_
    refine ob_i (vInt_sub (by omega) (by omega)) ?_
    refine gop_e (decide_eq_true hc26) ?_
    refine gop_rt ?_
    refine ob_i (hx10.ix (by omega) (by omega)) ?_
    refine gop_e (decide_eq_true hc26) ?_
    refine gop_rt ?_
    refine ob_i (hx10.ld 0 (by omega) (by omega)) ?_
    refine gop_e (decide_eq_true hc26) ?_
    refine gop_rt ?_
    refine ob_i (vInt_eql _ _ _) ?_
    refine ob_i (vPick_et (decide_eq_true hc26) _ _) ?_
    refine cnd_d (fun hg27 => ?_) (fun hg27 => ?_)
    ·skip
     refine ob_i (vInt_sub (by omega) (by omega)) ?_
     exact nxt (c.toNat - (j + 1)) (by omega) ⟨j + 1, rfl, by omega, g0L25, g3L25, g4L25, g5L25, (congrArg (Value.int .i64) (by first | omega | rfl | (simp; done))), lE, (endP_back he0 (by omega) hg27 (by omega))⟩
    ·skip
     exact hJ13 _ _ ⟨(c.toNat - j), g0L25, g3L25, g4L25, g5L25, (g6L25.trans (congrArg (Value.int .i64) (by first | omega | rfl | (simp; done)))), lE, he0, (fun h => by rw [show ((c.toNat - j - 1 : Nat) : Int) = ((c.toNat - j : Nat) : Int) - 1 by omega]; exact hg27), (by omega)⟩
   ·skip
    refine gop_e (decide_eq_false hc26) ?_
    refine gop_sf ?_
    refine gop_e (decide_eq_false hc26) ?_
    refine gop_sf ?_
    refine gop_e (decide_eq_false hc26) ?_
    refine gop_sf ?_
    refine gop_e (decide_eq_false hc26) ?_
    refine gop_sf ?_
    refine gop_e (decide_eq_false hc26) ?_
    refine gop_sf ?_
    refine gop_e (decide_eq_false hc26) ?_
    refine gop_sf ?_
    refine ob_i (vPick_ef (decide_eq_false hc26) _ _) ?_
    refine cnd_f1 ?_
    exact hJ13 _ _ ⟨(c.toNat - j), g0L25, g3L25, g4L25, g5L25, (g6L25.trans (congrArg (Value.int .i64) (by first | omega | rfl | (simp; done)))), lE, he0, (fun h => absurd h (by omega)), (by omega)⟩
  refine ob_i (vInt_gtr _ _ _) ?_
  refine cnd_d (fun hg28 => ?_) (fun hg28 => ?_)
  ·skip
   have tj := hg28
   refine ob_i (vStr_add (a := headT r c ++ joinR c.toNat l i) (b := ([36] : List UInt8)) (by first | omega | (simp only [List.length_append, List.length_cons, List.length_nil]; omega))) ?_
   exact hJ9 _ _ ⟨_, g0L6, rfl, g4L6, lE, (by rw [joinR_succ (by omega)]; simp only [List.append_assoc])⟩
  ·skip
   have tj := hg28
   exact hJ9 _ _ ⟨_, g0L6, g3L6, g4L6, lE, (by rw [joinR_one (by omega), show joinR c.toNat l i = [] by rw [show i = 0 by omega, joinR_zero], List.append_nil])⟩
 ·skip
  have ti := hg7
  exact hJ5 _ _ ⟨(g3L6.trans (congrArg vS (by rw [show i = r.toNat by omega]))), lE⟩
theorem C.impl_Field_text {vc : Value} {r c : Int} {l : List Int}  {H : Hp} {K : Value → Hp → Prop} (hvc0 : Sl eI H vc l) (hf : fieldN 1 r c l)
    (hk : ∀ H', Le H H' → K (vS (fieldT r c l)) H') : HT prg I.impl_Field_text [(.agg #[(.int .i64 (r)), (.int .i64 (c)), vc])].toArray H K := by
 have lE := Le.refl H
 have hvc := hvc0
 refine R.impl_Field_text ?_
 unfold F.impl_Field_text
 have hs := hf.1
 have hl := hf.2.1
 have q1 := hs.1
 have q2 := hs.2
 have qm := sidesF_mul hs
 have l1 := fieldN_len hf
 have hlN : l.length = r.toNat * c.toNat := by rw [← Int.natCast_inj, Int.natCast_mul, Int.toNat_of_nonneg (by omega), Int.toNat_of_nonneg (by omega)]; exact hl
 have dc := decT_len c.toNat
 have dr := decT_len r.toNat
 have rf := rowsT_flat (c := c.toNat) (l := l) r.toNat
 have rg : r.toNat * (3 * c.toNat) ≤ 24 * 72 := Nat.mul_le_mul (by omega) (by omega)
 have rjl : (joinT [36] (rowsT c.toNat l r.toNat)).length ≤ r.toNat * (3 * c.toNat + 1) := joinR_len _
 have rjm : r.toNat * (3 * c.toNat + 1) ≤ 24 * 73 := Nat.mul_le_mul (by omega) (by omega)
 have rn := rowsT_len (c := c.toNat) (l := l) (n := r.toNat)
 refine nw_i (fun pf H1 opf nn2 le3 => ?_)
 replace hvc := hvc.le le3
 replace lE := lE.trans le3
 replace opf : Cel H1 pf [(.int .i64 (r)), (.int .i64 (c)), vc] := opf
 refine bS_nil (enc := vS) (fun ou H4 oou nn5 kk6 le7 => ?_)
 have apfXou : Apart pf ou := opf.apart nn5
 have nou : Nw H ou := nn5.le lE
 replace opf := opf.le le7
 replace hvc := hvc.le le7
 replace lE := lE.trans le7
 refine nw_i (fun po H8 opo nn9 le10 => ?_)
 have apfXpo : Apart pf po := opf.apart nn9
 have aouXpo : Apart ou po := oou.apart nn9
 have npo : Nw H po := nn9.le lE
 replace opf := opf.le le10
 replace oou := oou.le le10
 replace hvc := hvc.le le10
 replace lE := lE.trans le10
 replace opo : Cel H8 po [(.slice none 0 0)] := opo
 refine opo.st0 (by simp) oou.one oou.cells (fun H11 opo off12 => ?_)
 replace opf := opf.off off12 apfXpo
 replace oou := oou.off off12 aouXpo
 replace hvc := hvc0.le (off12.le lE npo)
 replace lE := off12.le lE npo
 replace opo : Cel H11 po [ou] := opo
 refine jn_i (fun σ' H' => ∃ ou, σ' 1 = pf ∧ σ' 3 = po ∧ Cel H' pf [(.int .i64 (r)), (.int .i64 (c)), vc] ∧ Own vS H' ou (rowsT c.toNat l r.toNat) ∧ Cel H' po [ou] ∧ Nw H ou ∧ Apart pf ou ∧ Apart ou po ∧ Le H H') (fun σ13 H13 hP => ?_) (fun J13 hJ13 => ?_)
 ·skip
  obtain ⟨ou, g1L13, g3L13, opf, oou, opo, nou, apfXou, aouXpo, lE⟩ := hP
  try simp only [g1L13, g3L13]
  refine ob_i (opf.fa 1) ?_
  refine ob_i (opf.ld 1 rfl) ?_
  refine ob_i (opf.fa 0) ?_
  refine ob_i (opf.ld 0 rfl) ?_
  refine ob_i (opo.ld0 rfl) ?_
  refine C.impl_Decimal (by first | omega | assumption) (by first | omega | assumption) ?_
  refine ⟨Le.refl _, ?_⟩
  refine ob_i (vStr_add (a := decT c.toNat) (b := ([44] : List UInt8)) (by first | omega | (simp only [List.length_cons, List.length_nil]; omega))) ?_
  refine C.impl_Decimal (by first | omega | assumption) (by first | omega | assumption) ?_
  refine ⟨Le.refl _, ?_⟩
  refine ob_i (vStr_add (a := (decT c.toNat) ++ ([44] : List UInt8)) (b := decT r.toNat) (by first | omega | (simp only [List.length_append, List.length_cons, List.length_nil]; omega))) ?_
  refine ob_i (vStr_add (a := ((decT c.toNat) ++ ([44] : List UInt8)) ++ (decT r.toNat)) (b := ([58] : List UInt8)) (by first | omega | (simp only [List.length_append, List.length_cons, List.length_nil]; omega))) ?_
  refine C.strings_Join oou.sl (by first | omega | assumption) (by first | omega | assumption) (fun   H14    le15 => ?_)
  replace lE := lE.trans le15
  refine ⟨le15, ?_⟩
  refine ob_i (vStr_add (a := (((decT c.toNat) ++ ([44] : List UInt8)) ++ (decT r.toNat)) ++ ([58] : List UInt8)) (b := joinT [36] (rowsT c.toNat l r.toNat)) (by first | omega | (simp only [List.length_append, List.length_cons, List.length_nil]; omega))) ?_
  refine ob_i (vStr_add (a := ((((decT c.toNat) ++ ([44] : List UInt8)) ++ (decT r.toNat)) ++ ([58] : List UInt8)) ++ (joinT [36] (rowsT c.toNat l r.toNat))) (b := ([33] : List UInt8)) (by first | omega | (simp only [List.length_append, List.length_cons, List.length_nil]; omega))) ?_
  skip
  exact keq (K := K) (by rw [show (fieldT r c l) = ((((((decT c.toNat) ++ ([44] : List UInt8)) ++ (decT r.toNat)) ++ ([58] : List UInt8)) ++ (joinT [36] (rowsT c.toNat l r.toNat))) ++ ([33] : List UInt8)) from by rfl]; try rfl) (hk   _    lE)
 refine ob_i (opf.fa 2) ?_
 refine ob_i (opf.ld 2 rfl) ?_
 refine ob_i (opf.fa 1) ?_
 refine ob_i (opf.ld 1 rfl) ?_
 refine C.slices_Chunk hvc (by omega) (fun ps16 pn17 H18 ops16 opn17 nn20 nn21 aps16Xpn17 le19 => ?_)
 have aouXps16 : Apart ou ps16 := oou.apart nn20
 have apoXps16 : Apart po ps16 := opo.apart nn20
 have aouXpn17 : Apart ou pn17 := oou.apart nn21
 have apoXpn17 : Apart po pn17 := opo.apart nn21
 replace opf := opf.le le19
 replace oou := oou.le le19
 replace opo := opo.le le19
 replace hvc := hvc.le le19
 replace lE := lE.trans le19
 replace ops16 : Cel H18 ps16 [vc] := ops16
 replace opn17 : Cel H18 pn17 [(.int .i64 (c))] := opn17
 refine rgE_i (r.toNat) (fun (i : Nat) => [chV vc (i * c.toNat) c.toNat]) (fun (i : Nat) H' => ∃ ou, Cel H' pf [(.int .i64 (r)), (.int .i64 (c)), vc] ∧ Own vS H' ou (rowsT c.toNat l i) ∧ Cel H' po [ou] ∧ Cel H' ps16 [vc] ∧ Cel H' pn17 [(.int .i64 (c))] ∧ Nw H ou ∧ Apart pf ou ∧ Apart ou po ∧ Apart ou ps16 ∧ Apart ou pn17 ∧ Le H H') trivial (fun _ => rfl) ⟨ou, opf, (Own.cast (by first | rfl | (simp; done)) oou), opo, ops16, opn17, nou, apfXou, aouXpo, aouXps16, aouXpn17, lE⟩ (fun i H22 σ22 Q22 hiN hσ22 qn22 qr22 qx22 hI22 => ?_) (fun H22 hI22 => ?_) (fun yv J St H1 K1 hJ h0 hst hk1 hs1 => ?_)
 ·obtain ⟨ou, opf, oou, opo, ops16, opn17, nou, apfXou, aouXpo, aouXps16, aouXpn17, lE⟩ := hI22
  have hvc := hvc0.le lE
  have hmz23 : (i + 1) * c.toNat ≤ r.toNat * c.toNat := Nat.mul_le_mul_right _ (by omega)
  rw [Nat.add_mul, Nat.one_mul] at hmz23
  have hz230 : Sl eI H (chV vc (i * c.toNat) c.toNat) (rowL c.toNat l i) := (chV_sl hvc0 (lo := i * c.toNat) (c := c.toNat) (by omega)).2
  obtain ⟨z23, ez23⟩ : ∃ z, z = chV vc (i * c.toNat) c.toNat := ⟨_, rfl⟩
  rw [← ez23] at hz230
  have hz23 := hz230.le lE
  have rz23 : (rowL c.toNat l i).length = c.toNat := rowL_len (r := r.toNat) hlN (by omega)
  have g3L22 : σ22 3 = po := by rw [hσ22]; exact rfl
  have g11L22 : σ22 11 = z23 := by rw [hσ22, ← ez23]; rfl
  try simp only [g3L22, g11L22]
  have ri := rowsT_len (c := c.toNat) (l := l) (n := i)
  refine ob_i (opo.ld0 rfl) ?_
  refine C.impl_runsText hz23 (by first | omega | assumption) (by exact row_01 hf.2.2) (fun   H24    le25 => ?_)
  replace opf := opf.le le25
  replace oou := oou.le le25
  replace opo := opo.le le25
  replace ops16 := ops16.le le25
  replace opn17 := opn17.le le25
  replace hvc := hvc.le le25
  replace hz23 := hz23.le le25
  replace lE := lE.trans le25
  refine ⟨le25, ?_⟩
  refine bS_i (enc := vS) (l := [rtx (rowL c.toNat l i)]) (by omega) rfl (by kernel_rfl) (fun u26 H27 ou26 nn28 le30 => ?_)
  replace opf := opf.le le30
  replace oou := oou.le le30
  replace opo := opo.le le30
  replace ops16 := ops16.le le30
  replace opn17 := opn17.le le30
  replace hvc := hvc.le le30
  replace hz23 := hz23.le le30
  replace lE := lE.trans le30
  refine apd_any oou ou26.sl (fun _ => rfl) (by omega) (by first | omega | (simp only [List.length_cons, List.length_nil]; omega)) (fun u34 H31 ou34 off32 hb33 => ?_)
  have apfXu34 : Apart pf u34 := Apart.ap2 opf.known apfXou hb33
  have apoXu34 : Apart po u34 := Apart.ap2 opo.known aouXpo.symm hb33
  have aps16Xu34 : Apart ps16 u34 := Apart.ap2 ops16.known aouXps16.symm hb33
  have apn17Xu34 : Apart pn17 u34 := Apart.ap2 opn17.known aouXpn17.symm hb33
  have nu34 : Nw H u34 := Nw.ap2 nou lE hb33
  replace opf := opf.off off32 apfXou
  replace opo := opo.off off32 aouXpo.symm
  replace ops16 := ops16.off off32 aouXps16.symm
  replace opn17 := opn17.off off32 aouXpn17.symm
  replace hvc := hvc0.le (off32.le lE nou)
  replace hz23 := hz230.le (off32.le lE nou)
  replace lE := off32.le lE nou
  refine opo.st0 (by simp) ou34.one ou34.cells (fun H35 opo off36 => ?_)
  replace opf := opf.off off36 apfXpo
  replace ops16 := ops16.off off36 apoXps16.symm
  replace opn17 := opn17.off off36 apoXpn17.symm
  replace ou34 := ou34.off off36 apoXu34.symm
  replace hvc := hvc0.le (off36.le lE npo)
  replace hz23 := hz230.le (off36.le lE npo)
  replace lE := off36.le lE npo
  replace opo : Cel H35 po [u34] := opo
  exact qn22 _ _ ⟨u34, opf, (Own.cast rowsT_succ.symm ou34), opo, ops16, opn17, nu34, apfXu34, apoXu34.symm, aps16Xu34.symm, apn17Xu34.symm, lE⟩
 ·obtain ⟨ou, opf, oou, opo, ops16, opn17, nou, apfXou, aouXpo, aouXps16, aouXpn17, lE⟩ := hI22
  exact hJ13 _ _ ⟨ou, rfl, rfl, opf, oou, opo, nou, apfXou, aouXpo, lE⟩
 ·refine ⟨by kernel_rfl, C.slices_ChunkZ1 (r := r.toNat) (c := c.toNat) hvc0 hlN (by omega) (by omega) (by omega) (fun t A hA => ?_) h0 hst hk1 hs1⟩
  obtain ⟨A', b, o, rfl, hn, ou, opf, oou, opo, ops16, opn17, nou, apfXou, aouXpo, aouXps16, aouXpn17, lE⟩ := hJ t A hA
  exact ⟨ops16.le (Le.put _ hn), Cel.castX (by rw [Int.toNat_of_nonneg (by omega)]) (opn17.le (Le.put _ hn))⟩
end Go.Proofs.YtffmfkpobjdmmaaGreatDoor
