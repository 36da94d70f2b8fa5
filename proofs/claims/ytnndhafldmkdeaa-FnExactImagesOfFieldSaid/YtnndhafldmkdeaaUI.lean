/- Fields that are turned and mirrored. -/
import Derived.Test.YtnndhafldmkdeaaUQ
import Derived.Test.YtnndhafldmkdeaaKL
namespace Go.Proofs.Ytnndhafldmkdeaa
open HL
set_option maxRecDepth 100000
def turG (r c : Int) (l : List Int) (x y : Int) : Int := at_ 0 l ((r - 1 - y) * c + x)
def turL (r c : Int) (l : List Int) : List Int := mkL r (turG r c l) (c.toNat * r.toNat)
def mirG (c : Int) (l : List Int) (x y : Int) : Int := at_ 0 l (x * c + (c - 1 - y))
def mirL (r c : Int) (l : List Int) : List Int := mkL c (mirG c l) (r.toNat * c.toNat)
theorem at_01 {l : List Int} (h : ∀ x ∈ l, 0 ≤ x ∧ x ≤ 1) (i : Int) : 0 ≤ at_ 0 l i ∧ at_ 0 l i ≤ 1 := by
  unfold at_
  rw [List.getD_eq_getElem?_getD]
  cases he : l[i.toNat]? with
  | none => simp
  | some y => exact h y (List.mem_of_getElem? he)
def turF (f : FdL) : FdL := ⟨f.c, f.r, turL f.r f.c f.l⟩
def mirF (f : FdL) : FdL := ⟨f.r, f.c, mirL f.r f.c f.l⟩
def okF (f : FdL) : Prop := fieldN 1 f.r f.c f.l
theorem turF_ok {f : FdL} (h : okF f) : okF (turF f) := mkL_field ⟨h.1.2, h.1.1⟩ (fun _ _ => at_01 h.2.2 _)
theorem mirF_ok {f : FdL} (h : okF f) : okF (mirF f) := mkL_field h.1 (fun _ _ => at_01 h.2.2 _)
def imK (f : FdL) : Nat → FdL
  | 0 => f
  | k + 1 => turF (imK f k)
theorem imK_ok {f : FdL} (h : okF f) : ∀ k, okF (imK f k)
  | 0 => h
  | k + 1 => turF_ok (imK_ok h k)
/-- The field of a side. -/
def imB (f : FdL) (i : Nat) : FdL := if i = 0 then f else mirF f
theorem imB_ok {f : FdL} (h : okF f) (i : Nat) : okF (imB f i) := by
  unfold imB
  split
  · exact h
  · exact mirF_ok h
def imgs (f : FdL) (n : Nat) : List FdL := (List.range n).map fun t => imK (imB f (t / 4)) (t % 4)
theorem imgs_len (f : FdL) (n : Nat) : (imgs f n).length = n := by simp [imgs]
theorem imgs_succ (f : FdL) {i k : Nat} (hk : k < 4) : imgs f (4 * i + k) ++ [⟨(imK (imB f i) k).r, (imK (imB f i) k).c, (imK (imB f i) k).l⟩] = imgs f (4 * i + k + 1) := by
  simp only [imgs, List.range_succ, List.map_append, List.map_cons, List.map_nil]
  rw [show (4 * i + k) / 4 = i by omega, show (4 * i + k) % 4 = k by omega]
theorem cut_all {r c : Int} {l : List Int} (h1 : 0 ≤ r) (h2 : 0 < c) (hl : (l.length : Int) = r * c) : mkL c (cutG c l 0 0) (r.toNat * c.toNat) = l := by
  have hl2 := mkL_len' (c := c) (g := cutG c l 0 0) (rr := r) (cc := c) h1 (by omega)
  apply List.ext_getElem
  · omega
  · intro j g1 g2
    have d := Int.mul_ediv_add_emod (j : Int) c
    rw [Int.mul_comm] at d
    simp only [mkL, List.getElem_map, List.getElem_range, cutG]
    rw [show (0 + (j : Int) / c) * c + 0 + (j : Int) % c = (j : Int) by rw [Int.zero_add]; omega, at_get 0 g2]
theorem fsz_le_mul {n : Nat} : ∀ {fs : List FdL}, (∀ f ∈ fs, f.l.length ≤ n) → fsz fs ≤ fs.length * (2 + n)
  | [], _ => by simp [fsz]
  | f :: fs, h => by
    have h1 := h f (by simp)
    have h2 := fsz_le_mul (fs := fs) (fun g hg => h g (by simp [hg]))
    simp only [fsz, List.length_cons, Nat.add_mul, Nat.one_mul]
    omega
theorem imgs_mem {f : FdL} (h : okF f) {n : Nat} : ∀ g ∈ imgs f n, g.l.length ≤ 576 := by
  intro g hg
  simp only [imgs, List.mem_map] at hg
  obtain ⟨t, _, rfl⟩ := hg
  exact fieldN_len (imK_ok (imB_ok h _) _)
theorem imB_s (f : FdL) (i : Nat) : imB f (i + 1) = mirF f := rfl
/-- What is told of the field of a round, and of the next one. -/
def gL (f : FdL) (i : Nat) : List Int := if i = 0 then f.l else if i = 1 then (mirF f).l else []
def hL (f : FdL) (i : Nat) : List Int := if i = 0 then (mirF f).l else []
theorem hgL (f : FdL) (i : Nat) : hL f i = gL f (i + 1) := by
  unfold hL gL
  rcases i with _ | i <;> simp
theorem gL_eq {f : FdL} {i : Nat} (h : i < 2) : gL f i = (imB f i).l := by
  rcases (by omega : i = 0 ∨ i = 1) with rfl | rfl <;> rfl
theorem imB_r (f : FdL) (i : Nat) : (imB f i).r = f.r := by unfold imB; split <;> rfl
theorem imB_c (f : FdL) (i : Nat) : (imB f i).c = f.c := by unfold imB; split <;> rfl
theorem imgP_len {r c : Int} {l : List Int} : (selL (fieldN 1 r c l) (imgs ⟨r, c, l⟩ 8)).length ≤ 8 ∧ fsz (selL (fieldN 1 r c l) (imgs ⟨r, c, l⟩ 8)) ≤ 5000 ∧ ∀ f ∈ selL (fieldN 1 r c l) (imgs ⟨r, c, l⟩ 8), f.l.length ≤ 1000000000 := by
  by_cases h : fieldN 1 r c l
  · rw [selL_t h, imgs_len]
    have hm := imgs_mem (f := ⟨r, c, l⟩) h (n := 8)
    have := fsz_le_mul hm
    rw [imgs_len] at this
    exact ⟨by omega, by omega, fun f hf => by have := hm f hf; omega⟩
  · rw [selL_f h]; simp [fsz]
end Go.Proofs.Ytnndhafldmkdeaa
