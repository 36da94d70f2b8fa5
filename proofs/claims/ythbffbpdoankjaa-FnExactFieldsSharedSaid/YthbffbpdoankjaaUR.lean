/- Runs of some fields. -/
import Derived.Test.YthbffbpdoankjaaUA
import Derived.Test.YthbffbpdoankjaaKL
namespace Go.Proofs.Ythbffbpdoankjaa
open HL
set_option maxRecDepth 100000
def resF (rnd : Bool) (b s : List Int) (st : Int) (f : FdL) : FdL := ⟨selI (runP b s f.r f.c f.l st) f.r, selI (runP b s f.r f.c f.l st) f.c, selL (runP b s f.r f.c f.l st) (rnL rnd b s f.r f.c f.l st.toNat)⟩
def fsP (b s : List Int) (fs : List FdL) (st wk : Int) : Prop := (1 ≤ fs.length ∧ fs.length ≤ 16) ∧ (1 ≤ wk ∧ wk ≤ 8) ∧ ∀ f ∈ fs, runP b s f.r f.c f.l st
instance (b s : List Int) (fs : List FdL) (st wk : Int) : Decidable (fsP b s fs st wk) := by unfold fsP; infer_instance
def fsR (rnd : Bool) (b s : List Int) (st : Int) (fs : List FdL) : List FdL := fs.map (resF rnd b s st)
theorem fsR_len (rnd : Bool) (b s : List Int) (st : Int) (fs : List FdL) : (fsR rnd b s st fs).length = fs.length := by simp [fsR]
theorem fsR_take {rnd : Bool} {b s : List Int} {st : Int} {fs : List FdL} {i : Nat} (h : i < fs.length) : fsR rnd b s st (fs.take i) ++ [resF rnd b s st (at_ fd0 fs (i : Int))] = fsR rnd b s st (fs.take (i + 1)) := by
  unfold fsR
  rw [take_at fd0 fs h, List.map_append]; rfl
theorem fs_tk {fs : List FdL} {i : Nat} {p : FdL → Prop} (h : ∀ x ∈ fs.take i, p x) (hi : i < fs.length) (hp : p (at_ fd0 fs (i : Int))) : ∀ x ∈ fs.take (i + 1), p x := by
  rw [take_at fd0 fs hi]
  intro x hx
  rcases List.mem_append.mp hx with hx | hx
  · exact h x hx
  · simp only [List.mem_singleton] at hx; subst hx; exact hp
theorem fsz_bnd {n : Nat} : ∀ {fs : List FdL}, (∀ f ∈ fs, f.l.length ≤ n) → fsz fs ≤ fs.length * (2 + n)
  | [], _ => by simp [fsz]
  | f :: fs, h => by
    have h1 := h f (by simp)
    have h2 := fsz_bnd (fs := fs) (fun g hg => h g (by simp [hg]))
    simp only [fsz, List.length_cons, Nat.add_mul, Nat.one_mul]
    omega
theorem fsP_len {rnd : Bool} {b s : List Int} {fs : List FdL} {st wk : Int} : (selL (fsP b s fs st wk) (fsR rnd b s st fs)).length ≤ 16 ∧ fsz (selL (fsP b s fs st wk) (fsR rnd b s st fs)) ≤ 10000 ∧ ∀ f ∈ selL (fsP b s fs st wk) (fsR rnd b s st fs), f.l.length ≤ 1000000000 := by
  by_cases h : fsP b s fs st wk
  · rw [selL_t h, fsR_len]
    have hm : ∀ f ∈ fsR rnd b s st fs, f.l.length ≤ 576 := by
      intro f hf
      simp only [fsR, List.mem_map] at hf
      obtain ⟨g, _, rfl⟩ := hf
      exact runP_len
    have := fsz_bnd hm
    rw [fsR_len] at this
    have := h.1.2
    exact ⟨by omega, by omega, fun f hf => by have := hm f hf; omega⟩
  · rw [selL_f h]; simp [fsz]
end Go.Proofs.Ythbffbpdoankjaa
