/- Life on the plane: what a square tells of its inner part behind some steps. -/
import Derived.Test.YthbffbpdoankjaaUQ
namespace Go.Proofs.Ythbffbpdoankjaa
open HL
set_option maxRecDepth 100000
abbrev Pl := Int → Int → Int
/-- The neighbours of a cell of the plane. -/
def plN (g : Pl) (i k : Int) : Int := sumF (fun a => sumF (fun b => if i - 1 + a = i ∧ k - 1 + b = k then 0 else g (i - 1 + a) (k - 1 + b)) 3) 3
/-- A step on the plane, and some steps. -/
def plS (b s : List Int) (g : Pl) : Pl := fun i k => if g i k = 0 then (if plN g i k ∈ b then 1 else 0) else (if plN g i k ∈ s then 1 else 0)
def pl (b s : List Int) : Nat → Pl → Pl
  | 0, g => g
  | n + 1, g => plS b s (pl b s n g)
section
variable {b s : List Int}
theorem plN_congr {g h : Pl} {i k : Int} (e : ∀ x y, i - 1 ≤ x → x ≤ i + 1 → k - 1 ≤ y → y ≤ k + 1 → g x y = h x y) : plN g i k = plN h i k := by
  unfold plN
  simp only [sumF_3]
  rw [e (i - 1 + 0) (k - 1 + 0), e (i - 1 + 0) (k - 1 + 1), e (i - 1 + 0) (k - 1 + 2), e (i - 1 + 1) (k - 1 + 0), e (i - 1 + 1) (k - 1 + 1), e (i - 1 + 1) (k - 1 + 2), e (i - 1 + 2) (k - 1 + 0), e (i - 1 + 2) (k - 1 + 1), e (i - 1 + 2) (k - 1 + 2)] <;> omega
theorem plS_congr {g h : Pl} {i k : Int} (e : ∀ x y, i - 1 ≤ x → x ≤ i + 1 → k - 1 ≤ y → y ≤ k + 1 → g x y = h x y) : plS b s g i k = plS b s h i k := by
  unfold plS
  rw [plN_congr e, e i k (by omega) (by omega) (by omega) (by omega)]
theorem pl_congr {g h : Pl} : ∀ (n : Nat) {i k : Int}, (∀ x y, i - n ≤ x → x ≤ i + n → k - n ≤ y → y ≤ k + n → g x y = h x y) → pl b s n g i k = pl b s n h i k
  | 0, i, k, e => e i k (by omega) (by omega) (by omega) (by omega)
  | n + 1, i, k, e => by
    show plS b s (pl b s n g) i k = plS b s (pl b s n h) i k
    exact plS_congr fun x y h1 h2 h3 h4 => pl_congr n fun x' y' h5 h6 h7 h8 => e x' y' (by omega) (by omega) (by omega) (by omega)
theorem pl_add (m : Nat) (g : Pl) : ∀ n : Nat, pl b s (n + m) g = pl b s n (pl b s m g)
  | 0 => by rw [Nat.zero_add]; rfl
  | n + 1 => by
    rw [show n + 1 + m = (n + m) + 1 by omega]
    show plS b s (pl b s (n + m) g) = plS b s (pl b s n (pl b s m g))
    rw [pl_add m g n]
theorem plN_shift (g : Pl) (p q i k : Int) : plN (fun x y => g (x + p) (y + q)) i k = plN g (i + p) (k + q) := by
  unfold plN
  simp only [sumF_3]
  have e : ∀ a c : Int, i - 1 + a + p = i + p - 1 + a ∧ k - 1 + c + q = k + q - 1 + c := fun a c => by omega
  have f : ∀ a c : Int, (i - 1 + a = i ∧ k - 1 + c = k) ↔ (i + p - 1 + a = i + p ∧ k + q - 1 + c = k + q) := fun a c => by omega
  simp only [(e 0 0).1, (e 0 0).2, (e 1 1).1, (e 1 1).2, (e 2 2).1, (e 2 2).2, f]
theorem plS_shift (g : Pl) (p q i k : Int) : plS b s (fun x y => g (x + p) (y + q)) i k = plS b s g (i + p) (k + q) := by
  unfold plS
  rw [plN_shift]
theorem pl_shift (g : Pl) (p q : Int) : ∀ (n : Nat) (i k : Int), pl b s n (fun x y => g (x + p) (y + q)) i k = pl b s n g (i + p) (k + q)
  | 0, i, k => rfl
  | n + 1, i, k => by
    show plS b s (pl b s n (fun x y => g (x + p) (y + q))) i k = plS b s (pl b s n g) (i + p) (k + q)
    rw [show pl b s n (fun x y => g (x + p) (y + q)) = fun x y => pl b s n g (x + p) (y + q) from funext fun x => funext fun y => pl_shift g p q n x y]
    exact plS_shift _ p q i k
end
/-- A list of rows and columns that has these cells. -/
def Rep (r c : Int) (l : List Int) (g : Pl) : Prop := (l.length : Int) = r * c ∧ ∀ i k, 0 ≤ i → i < r → 0 ≤ k → k < c → at_ 0 l (i * c + k) = g i k
theorem at_mkL {c : Int} {g : Pl} {N : Nat} {i k : Int} (hi : 0 ≤ i) (hk : 0 ≤ k) (hkc : k < c) (h : i * c + k < N) (h0 : 0 ≤ i * c) : at_ 0 (mkL c g N) (i * c + k) = g i k := by
  obtain ⟨j, hj⟩ : ∃ j : Nat, i * c + k = (j : Int) := ⟨(i * c + k).toNat, by omega⟩
  have d := divmod (c := c) (i := i) (k := k) (by omega) hk hkc
  rw [hj] at d ⊢
  rw [at_eq 0 _ (by rw [mkL_length]; omega)]
  simp [mkL, d.1, d.2]
theorem Rep.mk {r c : Int} {g : Pl} (h1 : 0 ≤ r) (h2 : 0 < c) : Rep r c (mkL c g (r.toNat * c.toNat)) g := by
  have hl := mkL_len' (c := c) (g := g) (rr := r) (cc := c) h1 (by omega)
  refine ⟨hl, fun i k hi hir hk hkc => ?_⟩
  have x1 := ix_lt (a := i) (b := k) (r := r) (c := c) hi hir hk hkc
  rw [mkL_length] at hl
  exact at_mkL hi hk hkc (by omega) (by omega)
theorem Rep.eq {r c : Int} {l : List Int} {g : Pl} (h1 : 0 ≤ r) (h2 : 0 < c) (h : Rep r c l g) : l = mkL c g (r.toNat * c.toNat) := by
  have hl := mkL_len' (c := c) (g := g) (rr := r) (cc := c) h1 (by omega)
  apply List.ext_getElem
  · have := h.1; omega
  · intro j g1 g2
    have hj : (j : Int) < r * c := by have := h.1; omega
    have d := Int.mul_ediv_add_emod (j : Int) c
    rw [Int.mul_comm] at d
    have m0 := Int.emod_nonneg (j : Int) (b := c) (by omega)
    have m1 := Int.emod_lt_of_pos (j : Int) h2
    have q0 := Int.ediv_nonneg (a := (j : Int)) (b := c) (by omega) (by omega)
    have q1 : (j : Int) / c < r := Int.ediv_lt_of_lt_mul h2 hj
    have := h.2 ((j : Int) / c) ((j : Int) % c) q0 q1 m0 m1
    rw [d, at_eq 0 l g1] at this
    rw [this]; simp [mkL]
theorem Rep.congr {r c : Int} {l : List Int} {g h : Pl} (e : ∀ i k, 0 ≤ i → i < r → 0 ≤ k → k < c → g i k = h i k) (hr : Rep r c l g) : Rep r c l h := ⟨hr.1, fun i k h1 h2 h3 h4 => by rw [hr.2 i k h1 h2 h3 h4]; exact e i k h1 h2 h3 h4⟩
theorem Rep.flat {r c : Int} {l : List Int} {g : Pl} (h : Rep r c l g) {i k : Int} (h1 : 0 ≤ i) (h2 : i < r) (h3 : 0 ≤ k) (h4 : k < c) : flatF r c l i k = g i k := by
  unfold flatF
  rw [if_pos (by omega)]
  exact h.2 i k h1 h2 h3 h4
theorem arF_plN (r c : Int) (l : List Int) (i k : Int) : arF false r c l i k = plN (flatF r c l) i k := rfl
theorem Rep.field {r c : Int} {l : List Int} (h1 : 0 ≤ r) (h2 : 0 < c) (hl : (l.length : Int) = r * c) : Rep r c l (flatF r c l) := ⟨hl, fun i k a1 a2 a3 a4 => by unfold flatF; rw [if_pos (by omega)]⟩
theorem Rep.next {b s : List Int} {r c : Int} {l : List Int} {g : Pl} (hs : sidesF r c) (h : Rep r c l g) {i k : Int} (h1 : 1 ≤ i) (h2 : i < r - 1) (h3 : 1 ≤ k) (h4 : k < c - 1) : at_ 0 (nxL false b s r c l) (i * c + k) = plS b s g i k := by
  have q1 := hs.1
  have q2 := hs.2
  have h0 := Rep.mk (r := r) (c := c) (g := nxG false b s r c l) (by omega) (by omega)
  have e := h0.2 i k (by omega) (by omega) (by omega) (by omega)
  unfold nxL
  rw [e]
  unfold nxG
  rw [h.2 i k (by omega) (by omega) (by omega) (by omega), arF_plN, plN_congr (g := flatF r c l) (h := g) (fun x y a1 a2 a3 a4 => h.flat (by omega) (by omega) (by omega) (by omega))]
  rfl
theorem Rep.inner {b s : List Int} {r c : Int} {l : List Int} {g : Pl} (hs : sidesF r c) (h3r : 3 ≤ r) (h3c : 3 ≤ c) (h : Rep r c l g) : Rep (r - 2) (c - 2) (inL b s r c l) (fun i k => plS b s g (i + 1) (k + 1)) := by
  have h0 := Rep.mk (r := r - 2) (c := c - 2) (g := cutG c (nxL false b s r c l) 1 1) (by omega) (by omega)
  refine Rep.congr (fun i k a1 a2 a3 a4 => ?_) h0
  unfold cutG
  rw [show (1 + i) * c + 1 + k = (i + 1) * c + (k + 1) by rw [Int.add_comm 1 i]; omega]
  exact Rep.next hs h (by omega) (by omega) (by omega) (by omega)
/-- The inner part behind a quarter of the rows. -/
def farL (b s : List Int) (n : Int) (l : List Int) : List Int := mkL (n / 2) (fun i k => pl b s (n / 4).toNat (flatF n n l) (i + n / 4) (k + n / 4)) ((n / 2).toNat * (n / 2).toNat)
theorem Rep.far {b s : List Int} {n : Int} {l : List Int} (h : 2 ≤ n) : Rep (n / 2) (n / 2) (farL b s n l) (fun i k => pl b s (n / 4).toNat (flatF n n l) (i + n / 4) (k + n / 4)) := Rep.mk (by omega) (by omega)
/-- What a part of a field tells. -/
theorem far_cut {b s : List Int} {n q row col : Int} {g : Pl} {r c : Int} {l : List Int} (hq : n = 8 ∧ q = 4 ∨ n = 4 ∧ q = 2) (h : Rep r c l g) (r0 : 0 ≤ row) (c0 : 0 ≤ col) (r1 : row + n ≤ r) (c1 : col + n ≤ c) {x y : Int} (x0 : 0 ≤ x) (x1 : x < q) (y0 : 0 ≤ y) (y1 : y < q) :
    at_ 0 (farL b s n (mkL n (cutG c l row col) (n.toNat * n.toNat))) (x * q + y) = pl b s (q / 2).toNat g (x + q / 2 + row) (y + q / 2 + col) := by
  have hn : n / 2 = q := by omega
  have hn4 : n / 4 = q / 2 := by omega
  have hR := Rep.far (b := b) (s := s) (n := n) (l := mkL n (cutG c l row col) (n.toNat * n.toNat)) (by omega)
  rw [hn] at hR
  rw [hR.2 x y x0 x1 y0 y1, hn4]
  rw [← pl_shift g row col]
  have hc := Rep.mk (r := n) (c := n) (g := cutG c l row col) (by omega) (by omega)
  refine pl_congr _ fun a d a1 a2 a3 a4 => ?_
  have hq2 : ((q / 2).toNat : Int) = q / 2 := by omega
  rw [hq2] at a1 a2 a3 a4
  rw [hc.flat (by omega) (by omega) (by omega) (by omega)]
  unfold cutG
  rw [show (row + a) * c + col + d = (a + row) * c + (d + col) by rw [Int.add_comm row a]; omega]
  exact h.2 _ _ (by omega) (by omega) (by omega) (by omega)
/-- A field of parts, some of which are there. -/
def blkG (q : Int) (g : Pl) (i k x y : Int) : Int := if x / q < i ∨ (x / q = i ∧ y / q < k) then g x y else 0
def putG (g : Pl) (pc : Int) (m : List Int) (row col i k x y : Int) : Int := if (0 ≤ x - row ∧ x - row < i ∧ 0 ≤ y - col ∧ y - col < pc) ∨ (x - row = i ∧ 0 ≤ y - col ∧ y - col < k) then at_ 0 m ((x - row) * pc + (y - col)) else g x y
section
variable {C : Int} {g : Pl} {pc : Int} {m : List Int} {row col i k : Int} {N : Nat}
theorem putG_set (k0 : 0 ≤ k) (k1 : k < pc) (r0 : 0 ≤ row) (c0 : 0 ≤ col) (i0 : 0 ≤ i) (k2 : col + k < C) :
    (mkL C (putG g pc m row col i k) N).set ((row + i) * C + col + k).toNat (at_ 0 m (i * pc + k)) = mkL C (putG g pc m row col i (k + 1)) N := by
  have h0 : 0 ≤ (row + i) * C := Int.mul_nonneg (by omega) (by omega)
  rw [show (row + i) * C + col + k = (row + i) * C + (col + k) by omega, mkL_set (by omega) (by omega) k2 h0]
  apply mkL_congr (by omega)
  intro x y _ _ _ _
  unfold putG
  by_cases e : x = row + i ∧ y = col + k
  · obtain ⟨rfl, rfl⟩ := e
    rw [if_pos ⟨rfl, rfl⟩, if_pos (by omega), show row + i - row = i by omega, show col + k - col = k by omega]
  · rw [if_neg e]
    by_cases e2 : (0 ≤ x - row ∧ x - row < i ∧ 0 ≤ y - col ∧ y - col < pc) ∨ (x - row = i ∧ 0 ≤ y - col ∧ y - col < k)
    · rw [if_pos e2, if_pos (by omega)]
    · rw [if_neg e2, if_neg (by omega)]
theorem putG_row (hC : 0 < C) (i0 : 0 ≤ i) (hk : k = pc) : mkL C (putG g pc m row col i k) N = mkL C (putG g pc m row col (i + 1) 0) N := by
  apply mkL_congr hC
  intro x y _ _ _ _
  unfold putG
  by_cases e2 : (0 ≤ x - row ∧ x - row < i ∧ 0 ≤ y - col ∧ y - col < pc) ∨ (x - row = i ∧ 0 ≤ y - col ∧ y - col < k)
  · rw [if_pos e2, if_pos (by omega)]
  · rw [if_neg e2, if_neg (by omega)]
theorem putG_zero (hC : 0 < C) : mkL C g N = mkL C (putG g pc m row col 0 0) N := by
  apply mkL_congr hC
  intro x y _ _ _ _
  unfold putG
  rw [if_neg (by omega)]
end
theorem blk_zero {C q : Int} {g : Pl} {N : Nat} (hC : 0 < C) (hq : 0 < q) : List.replicate N 0 = mkL C (blkG q g 0 0) N := by
  rw [← mkL_zero (c := C)]
  apply mkL_congr hC
  intro x y h1 h2 _ _
  unfold blkG
  have a1 := Int.ediv_nonneg (a := x) (b := q) h1 (by omega)
  have a2 := Int.ediv_nonneg (a := y) (b := q) h2 (by omega)
  rw [if_neg (by omega)]
theorem div_iff {x q i : Int} (hq : 0 < q) : x / q = i ↔ (0 ≤ x - i * q ∧ x - i * q < q) := by
  constructor
  · rintro rfl
    have d := Int.mul_ediv_add_emod x q
    rw [Int.mul_comm] at d
    have m0 := Int.emod_nonneg x (b := q) (by omega)
    have m1 := Int.emod_lt_of_pos x hq
    omega
  · rintro ⟨h1, h2⟩
    have e : x = (x - i * q) + i * q := by omega
    rw [e, Int.add_mul_ediv_right _ _ (by omega), Int.ediv_eq_zero_of_lt h1 h2]; omega
theorem blk_put {C q i k : Int} {g : Pl} {m : List Int} {N : Nat} (hC : 0 < C) (hq : 0 < q) (hm : ∀ x y, 0 ≤ x → x < q → 0 ≤ y → y < q → at_ 0 m (x * q + y) = g (i * q + x) (k * q + y)) :
    mkL C (putG (blkG q g i k) q m (i * q) (k * q) q 0) N = mkL C (blkG q g i (k + 1)) N := by
  apply mkL_congr hC
  intro x y _ _ _ _
  unfold putG
  have hx := div_iff (x := x) (i := i) hq
  have hy := div_iff (x := y) (i := k) hq
  by_cases e : (0 ≤ x - i * q ∧ x - i * q < q) ∧ 0 ≤ y - k * q ∧ y - k * q < q
  · rw [if_pos (by omega), hm _ _ (by omega) (by omega) (by omega) (by omega), show i * q + (x - i * q) = x by omega, show k * q + (y - k * q) = y by omega]
    unfold blkG
    rw [if_pos (.inr ⟨hx.mpr (by omega), by rw [hy.mpr (by omega)]; omega⟩)]
  · rw [if_neg (by omega)]
    unfold blkG
    have hne : ¬ (x / q = i ∧ y / q = k) := fun h => e ⟨hx.mp h.1, hy.mp h.2⟩
    by_cases e2 : x / q < i ∨ (x / q = i ∧ y / q < k)
    · rw [if_pos e2, if_pos (by omega)]
    · rw [if_neg e2, if_neg (by omega)]
theorem blk_row {C q i : Int} {g : Pl} {N : Nat} (hC : 0 < C) (hq : 0 < q) {k : Int} (hk : C = k * q) : mkL C (blkG q g i k) N = mkL C (blkG q g (i + 1) 0) N := by
  apply mkL_congr hC
  intro x y _ h2 h3 _
  have a2 := Int.ediv_nonneg (a := y) (b := q) h2 (by omega)
  have a3 : y / q < k := Int.ediv_lt_of_lt_mul hq (by omega)
  unfold blkG
  by_cases e2 : x / q < i ∨ (x / q = i ∧ y / q < k)
  · rw [if_pos e2, if_pos (by omega)]
  · rw [if_neg e2, if_neg (by omega)]
theorem blk_end {C q k : Int} {g : Pl} {N : Nat} (hC : 0 < C) (hq : 0 < q) (hk : C = k * q) (hN : (N : Int) ≤ C * C) : mkL C (blkG q g k 0) N = mkL C g N := by
  apply mkL_congr hC
  intro x y h1 h2 h3 h4
  have hx : x * C < C * C := by omega
  have hx2 : x < C := Int.lt_of_mul_lt_mul_right hx (by omega)
  have a3 : x / q < k := Int.ediv_lt_of_lt_mul hq (by omega)
  unfold blkG
  rw [if_pos (.inl a3)]
theorem plS_01 {b s : List Int} {g : Pl} (i k : Int) : 0 ≤ plS b s g i k ∧ plS b s g i k ≤ 1 := by
  unfold plS
  split <;> split <;> omega
theorem pl_01 {b s : List Int} {g : Pl} {n : Nat} (h : 1 ≤ n) (i k : Int) : 0 ≤ pl b s n g i k ∧ pl b s n g i k ≤ 1 := by
  obtain ⟨m, rfl⟩ : ∃ m, n = m + 1 := ⟨n - 1, by omega⟩
  exact plS_01 i k
theorem cut_field {r c row col n : Int} {l : List Int} (h : fieldN 1 r c l) (r0 : 0 ≤ row) (c0 : 0 ≤ col) (n1 : 1 ≤ n) (n2 : n ≤ 24) (r1 : row + n ≤ r) (c1 : col + n ≤ c) : fieldN 1 n n (mkL n (cutG c l row col) (n.toNat * n.toNat)) := by
  refine ⟨⟨by omega, by omega⟩, mkL_len' (by omega) (by omega), fun x hx => ?_⟩
  simp only [mkL, List.mem_map, List.mem_range] at hx
  obtain ⟨j, hj, rfl⟩ := hx
  have hj2 : (j : Int) < n * n := by
    have : ((n.toNat * n.toNat : Nat) : Int) = n * n := by rw [Int.natCast_mul, Int.toNat_of_nonneg (by omega)]
    omega
  have m0 := Int.emod_nonneg (j : Int) (b := n) (by omega)
  have m1 := Int.emod_lt_of_pos (j : Int) (b := n) (by omega)
  have q0 := Int.ediv_nonneg (a := (j : Int)) (b := n) (by omega) (by omega)
  have q1 : (j : Int) / n < n := Int.ediv_lt_of_lt_mul (by omega) hj2
  unfold cutG
  have x1 := ix_lt (a := row + (j : Int) / n) (b := col + (j : Int) % n) (r := r) (c := c) (by omega) (by omega) (by omega) (by omega)
  exact fieldN_at h (by omega) (by omega)
theorem far_field {b s : List Int} {n : Int} {l : List Int} (h : n = 4 ∨ n = 8 ∨ n = 16) : fieldN 1 (n / 2) (n / 2) (farL b s n l) :=
  mkL_field ⟨by omega, by omega⟩ (fun i k => pl_01 (by omega) _ _)
theorem far_4 {b s : List Int} {l : List Int} (hl : (l.length : Int) = 4 * 4) : inL b s 4 4 l = farL b s 4 l :=
  (Rep.inner ⟨by omega, by omega⟩ (by omega) (by omega) (Rep.field (r := 4) (c := 4) (by omega) (by omega) hl)).eq (by omega) (by omega)
/-- What nine parts tell, and what four parts of these tell. -/
def nineG (b s : List Int) (n : Int) (l : List Int) : Pl := fun x y => pl b s (n / 8).toNat (flatF n n l) (x + n / 8) (y + n / 8)
def fourG (b s : List Int) (n : Int) (l : List Int) : Pl := fun x y => pl b s (n / 4).toNat (flatF n n l) (x + n / 4) (y + n / 4)
def nineL (b s : List Int) (n : Int) (l : List Int) : List Int := mkL (3 * (n / 4)) (nineG b s n l) ((3 * (n / 4)).toNat * (3 * (n / 4)).toNat)
theorem nine_at {b s : List Int} {n : Int} {l : List Int} (hn : n = 8 ∨ n = 16) (hl : (l.length : Int) = n * n) {i k : Int} (i0 : 0 ≤ i) (i1 : i < 3) (k0 : 0 ≤ k) (k1 : k < 3) {x y : Int} (x0 : 0 ≤ x) (x1 : x < n / 4) (y0 : 0 ≤ y) (y1 : y < n / 4) :
    at_ 0 (farL b s (n / 2) (mkL (n / 2) (cutG n l (i * (n / 4)) (k * (n / 4))) ((n / 2).toNat * (n / 2).toNat))) (x * (n / 4) + y) = nineG b s n l (i * (n / 4) + x) (k * (n / 4) + y) := by
  have hR := Rep.field (r := n) (c := n) (l := l) (by omega) (by omega) hl
  rcases hn with rfl | rfl
  · show at_ 0 (farL b s 4 (mkL 4 (cutG 8 l (i * 2) (k * 2)) ((4 : Int).toNat * (4 : Int).toNat))) (x * 2 + y) = nineG b s 8 l (i * (8 / 4) + x) (k * (8 / 4) + y)
    rw [far_cut (n := 4) (q := 2) (by omega) hR (by omega) (by omega) (by omega) (by omega) x0 (by omega) y0 (by omega)]
    unfold nineG
    rw [show i * ((8 : Int) / 4) + x + 8 / 8 = x + 2 / 2 + i * 2 by omega, show k * ((8 : Int) / 4) + y + 8 / 8 = y + 2 / 2 + k * 2 by omega]; rfl
  · show at_ 0 (farL b s 8 (mkL 8 (cutG 16 l (i * 4) (k * 4)) ((8 : Int).toNat * (8 : Int).toNat))) (x * 4 + y) = nineG b s 16 l (i * (16 / 4) + x) (k * (16 / 4) + y)
    rw [far_cut (n := 8) (q := 4) (by omega) hR (by omega) (by omega) (by omega) (by omega) x0 (by omega) y0 (by omega)]
    unfold nineG
    rw [show i * ((16 : Int) / 4) + x + 16 / 8 = x + 4 / 2 + i * 4 by omega, show k * ((16 : Int) / 4) + y + 16 / 8 = y + 4 / 2 + k * 4 by omega]; rfl
theorem nineG_pl {b s : List Int} {n : Int} {l : List Int} (h : Nat) (i k : Int) (hh : (n / 8).toNat = h) : pl b s h (nineG b s n l) i k = pl b s (h + h) (flatF n n l) (i + n / 8) (k + n / 8) := by
  unfold nineG
  rw [pl_shift (pl b s (n / 8).toNat (flatF n n l)) (n / 8) (n / 8) h i k, pl_add, hh]
theorem four_at {b s : List Int} {n : Int} {l : List Int} (hn : n = 8 ∨ n = 16) {i k : Int} (i0 : 0 ≤ i) (i1 : i < 2) (k0 : 0 ≤ k) (k1 : k < 2) {x y : Int} (x0 : 0 ≤ x) (x1 : x < n / 4) (y0 : 0 ≤ y) (y1 : y < n / 4) :
    at_ 0 (farL b s (n / 2) (mkL (n / 2) (cutG (3 * (n / 4)) (nineL b s n l) (i * (n / 4)) (k * (n / 4))) ((n / 2).toNat * (n / 2).toNat))) (x * (n / 4) + y) = fourG b s n l (i * (n / 4) + x) (k * (n / 4) + y) := by
  have hR : Rep (3 * (n / 4)) (3 * (n / 4)) (nineL b s n l) (nineG b s n l) := Rep.mk (by omega) (by omega)
  rcases hn with rfl | rfl
  · show at_ 0 (farL b s 4 (mkL 4 (cutG (3 * (8 / 4)) (nineL b s 8 l) (i * 2) (k * 2)) ((4 : Int).toNat * (4 : Int).toNat))) (x * 2 + y) = fourG b s 8 l (i * (8 / 4) + x) (k * (8 / 4) + y)
    rw [far_cut (n := 4) (q := 2) (by omega) hR (by omega) (by omega) (by omega) (by omega) x0 (by omega) y0 (by omega)]
    rw [show ((2 : Int) / 2).toNat = 1 from rfl, nineG_pl 1 _ _ rfl]
    unfold fourG
    rw [show i * ((8 : Int) / 4) + x + 8 / 4 = x + 2 / 2 + i * 2 + 8 / 8 by omega, show k * ((8 : Int) / 4) + y + 8 / 4 = y + 2 / 2 + k * 2 + 8 / 8 by omega]; rfl
  · show at_ 0 (farL b s 8 (mkL 8 (cutG (3 * (16 / 4)) (nineL b s 16 l) (i * 4) (k * 4)) ((8 : Int).toNat * (8 : Int).toNat))) (x * 4 + y) = fourG b s 16 l (i * (16 / 4) + x) (k * (16 / 4) + y)
    rw [far_cut (n := 8) (q := 4) (by omega) hR (by omega) (by omega) (by omega) (by omega) x0 (by omega) y0 (by omega)]
    rw [show ((4 : Int) / 2).toNat = 2 from rfl, nineG_pl 2 _ _ rfl]
    unfold fourG
    rw [show i * ((16 : Int) / 4) + x + 16 / 4 = x + 4 / 2 + i * 4 + 16 / 8 by omega, show k * ((16 : Int) / 4) + y + 16 / 4 = y + 4 / 2 + k * 4 + 16 / 8 by omega]; rfl
theorem nineL_field {b s : List Int} {n : Int} {l : List Int} (hn : n = 8 ∨ n = 16) : fieldN 1 (3 * (n / 4)) (3 * (n / 4)) (nineL b s n l) := mkL_field ⟨by omega, by omega⟩ (fun i k => pl_01 (by omega) _ _)
/-- The program's way: inner parts of inner parts. -/
def inrL (b s : List Int) (n : Int) (l : List Int) : Nat → List Int
  | 0 => l
  | t + 1 => inL b s (n - 2 * t) (n - 2 * t) (inrL b s n l t)
theorem inr_rep {b s : List Int} {n : Int} {l : List Int} (hn : n ≤ 24) (hl : (l.length : Int) = n * n) : ∀ t : Nat, 2 * (t : Int) < n → Rep (n - 2 * t) (n - 2 * t) (inrL b s n l t) (fun i k => pl b s t (flatF n n l) (i + t) (k + t))
  | 0, h => by
    have := Rep.field (r := n) (c := n) (l := l) (by omega) (by omega) hl
    have e : n - 2 * ((0 : Nat) : Int) = n := by omega
    rw [e]
    refine Rep.congr (fun i k _ _ _ _ => ?_) this
    rw [show i + ((0 : Nat) : Int) = i by omega, show k + ((0 : Nat) : Int) = k by omega]; rfl
  | t + 1, h => by
    have ih := inr_rep (b := b) (s := s) hn hl t (by omega)
    have := Rep.inner (b := b) (s := s) (show sidesF (n - 2 * t) (n - 2 * t) from ⟨by omega, by omega⟩) (by omega) (by omega) ih
    rw [show n - 2 * ((t + 1 : Nat) : Int) = n - 2 * (t : Int) - 2 by omega]
    refine Rep.congr (fun i k _ _ _ _ => ?_) this
    show plS b s (fun i k => pl b s t (flatF n n l) (i + t) (k + t)) (i + 1) (k + 1) = plS b s (pl b s t (flatF n n l)) (i + ((t + 1 : Nat) : Int)) (k + ((t + 1 : Nat) : Int))
    rw [plS_shift (pl b s t (flatF n n l)) (t : Int) (t : Int), show i + 1 + (t : Int) = i + ((t + 1 : Nat) : Int) by omega, show k + 1 + (t : Int) = k + ((t + 1 : Nat) : Int) by omega]
theorem inr_field {b s : List Int} {n : Int} {l : List Int} (h : fieldN 1 n n l) (t : Nat) (ht : 2 * (t : Int) < n) : fieldN 1 (n - 2 * t) (n - 2 * t) (inrL b s n l t) := by
  have q := h.1.1
  cases t with
  | zero => rw [show n - 2 * ((0 : Nat) : Int) = n by omega]; exact h
  | succ t =>
    have e := (inr_rep (b := b) (s := s) (by omega) h.2.1 (t + 1) ht).eq (by omega) (by omega)
    rw [e]
    exact mkL_field ⟨by omega, by omega⟩ (fun i k => pl_01 (by omega) _ _)
theorem inr_far {b s : List Int} {n : Int} {l : List Int} (h : fieldN 1 n n l) (hn : n = 4 ∨ n = 8 ∨ n = 16) : inrL b s n l (n / 4).toNat = farL b s n l := by
  have hr := inr_rep (b := b) (s := s) (by omega) h.2.1 (n / 4).toNat (by omega)
  have e := hr.eq (by omega) (by omega)
  rw [e]
  unfold farL
  rcases hn with rfl | rfl | rfl <;> rfl
def infP (b s : List Int) (r c : Int) (l : List Int) : Prop := lifP b s ∧ sqP r c l
theorem inf_len {b s : List Int} {r c : Int} {l : List Int} : (selL (inP b s r c l) (farL b s r l)).length ≤ 576 := selL_len fun h => by
  unfold farL
  rw [mkL_length]
  have h2 := h.2.2.2
  have := Nat.mul_le_mul (show (r / 2).toNat ≤ 8 by omega) (show (r / 2).toNat ≤ 8 by omega)
  omega
theorem C.spec_l05Put {f p uf vp : Value} {RR C pr pc row col : Int} {g : Pl} {m : List Int} {H : Hp} {K : Value → Hp → Prop} (hf : Cel H f [.int .i64 RR, .int .i64 C, uf]) (hp : Cel H p [.int .i64 pr, .int .i64 pc, vp]) (hu : Own eI H uf (mkL C g (RR.toNat * C.toNat))) (hv : Ro eI H vp m)
    (afu : Apart f uf) (apu : Apart p uf) (avu : Apart vp uf) (b1 : 0 ≤ pr) (b2 : 1 ≤ pc) (b3 : 0 ≤ row) (b4 : 0 ≤ col) (b5 : row + pr ≤ RR) (b6 : col + pc ≤ C) (b7 : RR ≤ 24) (b8 : C ≤ 24) (hm : (m.length : Int) = pr * pc)
    (hk : ∀ H', Own eI H' uf (mkL C (putG g pc m row col pr 0) (RR.toNat * C.toNat)) → Off uf H H' → K (.tuple #[]) H') : HT prg I.spec_l05Put [f, p, .int .i64 row, .int .i64 col].toArray H K := by
  refine R.spec_l05Put ?_
  unfold F.spec_l05Put
  refine ⟨fun n σ H' => ∃ i : Nat, n = pr.toNat - i ∧ (i : Int) ≤ pr ∧ σ 0 = f ∧ σ 1 = p ∧ σ 2 = .int .i64 row ∧ σ 3 = .int .i64 col ∧ σ 8 = .int .i64 (i : Nat) ∧ Own eI H' uf (mkL C (putG g pc m row col (i : Int) 0) (RR.toNat * C.toNat)) ∧ Off uf H H',
    ⟨_, 0, rfl, by omega, rfl, rfl, rfl, rfl, rfl, by rw [show ((0 : Nat) : Int) = 0 from rfl, ← putG_zero (by omega)]; exact hu, Off.of_le (Le.refl H)⟩, ?_⟩
  rintro n σ H1 ⟨i, rfl, hiR, g0, g1, g2, g3, g8, ou, of1⟩
  have f1 := hf.off of1 afu
  have p1 := hp.off of1 apu
  simp only [g1, g8]
  refine ob_i p1.nilC ?_
  refine ob_i (p1.fa 0) ?_
  refine ob_i (p1.ld 0 rfl) ?_
  refine ob_i (vInt_lss _ _ _) ?_
  refine cnd_d (fun hlt => ?_) (fun hge => ?_)
  · refine jn_i (fun σ' H' => σ' 0 = f ∧ σ' 1 = p ∧ σ' 2 = .int .i64 row ∧ σ' 3 = .int .i64 col ∧ σ' 8 = .int .i64 (i : Nat) ∧ Own eI H' uf (mkL C (putG g pc m row col ((i : Int) + 1) 0) (RR.toNat * C.toNat)) ∧ Off uf H H') (fun σ' H' hP => ?_) (fun J hJ => ?_)
    · obtain ⟨z0, z1, z2, z3, z8, zu, zo⟩ := hP
      rw [z8]
      refine ob_i (vInt_add (by omega) (by omega)) ?_
      exact nxt (pr.toNat - (i + 1)) (by omega) ⟨i + 1, rfl, by omega, z0, z1, z2, z3, rfl, zu, zo⟩
    refine ⟨fun n σ H' => ∃ k : Nat, n = pc.toNat - k ∧ (k : Int) ≤ pc ∧ σ 0 = f ∧ σ 1 = p ∧ σ 2 = .int .i64 row ∧ σ 3 = .int .i64 col ∧ σ 8 = .int .i64 (i : Nat) ∧ σ 9 = .int .i64 (k : Nat) ∧ Own eI H' uf (mkL C (putG g pc m row col (i : Int) (k : Int)) (RR.toNat * C.toNat)) ∧ Off uf H H',
      ⟨_, 0, rfl, by omega, g0, g1, g2, g3, g8, rfl, ou, of1⟩, ?_⟩
    rintro n σ2 H2 ⟨k, rfl, hkC, z0, z1, z2, z3, z8, z9, zu, of2⟩
    have f2 := hf.off of2 afu
    have p2 := hp.off of2 apu
    have v2 := hv.off of2 avu
    simp only [z0, z1, z2, z3, z8, z9]
    refine ob_i p2.nilC ?_
    refine ob_i (p2.fa 1) ?_
    refine ob_i (p2.ld 1 rfl) ?_
    refine ob_i (vInt_lss _ _ _) ?_
    refine cnd_d (fun hkl => ?_) (fun hkg => ?_)
    · have x1 := ix_lt (a := (i : Int)) (b := (k : Int)) (r := pr) (c := pc) (by omega) hlt (by omega) hkl
      have x2 := ix_lt (a := row + (i : Int)) (b := col + (k : Int)) (r := RR) (c := C) (by omega) (by omega) (by omega) (by omega)
      have x3 := ix_le (a := RR) (b := C) (by omega) (by omega) (by omega) (by omega)
      have x4 := ix_le (a := pr) (b := pc) (by omega) (by omega) (by omega) (by omega)
      have xl := mkL_len' (c := C) (g := putG g pc m row col (i : Int) (k : Int)) (rr := RR) (cc := C) (by omega) (by omega)
      refine ob_i f2.nilC ?_
      refine ob_i (f2.fa 2) ?_
      refine ob_i (f2.ld 2 rfl) ?_
      refine ob_i (vInt_add (by omega) (by omega)) ?_
      refine ob_i f2.nilC ?_
      refine ob_i (f2.fa 1) ?_
      refine ob_i (f2.ld 1 rfl) ?_
      refine ob_i (vInt_mul (by omega) (by omega)) ?_
      refine ob_i (vInt_add (by omega) (by omega)) ?_
      refine ob_i (vInt_add (by omega) (by omega)) ?_
      refine ob_i p2.nilC ?_
      refine ob_i (p2.fa 2) ?_
      refine ob_i (p2.ld 2 rfl) ?_
      refine ob_i p2.nilC ?_
      refine ob_i (p2.fa 1) ?_
      refine ob_i (p2.ld 1 rfl) ?_
      refine ob_i (vInt_mul (by omega) (by omega)) ?_
      refine ob_i (vInt_add (by omega) (by omega)) ?_
      refine ob_i (v2.sl.ix (by omega) (by omega)) ?_
      refine ob_i (v2.sl.ld 0 (by omega) (by omega)) ?_
      refine ob_i (zu.sl.ix (by omega) (by omega)) ?_
      refine zu.st (x := at_ 0 m ((i : Int) * pc + (k : Int))) (by omega) (by omega) rfl rfl (fun H3 zu3 of3 => ?_)
      refine ob_i (vInt_add (by omega) (by omega)) ?_
      refine nxt (pc.toNat - (k + 1)) (by omega) ⟨k + 1, rfl, by omega, z0, z1, z2, z3, z8, rfl, ?_, of2.trans of3⟩
      rw [putG_set (by omega) (by omega) (by omega) (by omega) (by omega) (by omega)] at zu3
      exact zu3
    · refine hJ _ _ ⟨z0, z1, z2, z3, z8, ?_, of2⟩
      rw [putG_row (by omega) (by omega) (show (k : Int) = pc by omega)] at zu
      exact zu
  · have e : (i : Int) = pr := by omega
    rw [e] at ou
    exact hk _ ou of1
end Go.Proofs.Ythbffbpdoankjaa
