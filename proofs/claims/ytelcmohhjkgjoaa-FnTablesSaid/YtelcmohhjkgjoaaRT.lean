/- Tables of rules, by plain law: numbers, counts, sums, totals. -/
import Derived.Test.YtelcmohhjkgjoaaRKT
import Derived.Test.YtelcmohhjkgjoaaRG
import Derived.Test.YtelcmohhjkgjoaaFO
import Derived.Test.YtelcmohhjkgjoaaUGA
namespace Go.Proofs.Ytelcmohhjkgjoaa
open HL
set_option maxRecDepth 100000
set_option maxHeartbeats 4000000
/-- The bits of a number, the least first. -/
def nbF (N : Int) (n : Nat) : List Int := (List.range n).map fun (i : Nat) => N / 2 ^ ((i : Nat) : Int).toNat % 2
theorem nbF_len (N : Int) (n : Nat) : (nbF N n).length = n := by simp [nbF]
theorem nbF_succ (N : Int) (n : Nat) : nbF N n ++ [N / 2 ^ ((n : Nat) : Int).toNat % 2] = nbF N (n + 1) := by simp [nbF, List.range_succ]
theorem nbF_in {N : Int} {n : Nat} : ∀ x ∈ nbF N n, 0 ≤ x ∧ x ≤ 1 := by
  intro x hx
  simp only [nbF, List.mem_map, List.mem_range] at hx
  obtain ⟨i, _, rfl⟩ := hx
  omega
theorem nb_rule {N : Int} : ruleP 2 1 (nbF N 8) := ruleP8 (nbF_len N 8) nbF_in
/-- The number that bits make. -/
def orN (T : List Int) : Nat → Int
  | 0 => 0
  | n + 1 => (((orN T n).toNat ||| (at_ 0 T (n : Int) * 2 ^ n).toNat : Nat) : Int)
theorem orN_num : ∀ N : Nat, N < 256 → orN (nbF (N : Int) 8) 8 = (N : Int) := by decide +kernel
theorem bit_shl {x : Int} (h : 0 ≤ x ∧ x ≤ 1) (n : Nat) : 0 ≤ x * 2 ^ n ∧ (x * 2 ^ n).toNat < 2 ^ (n + 1) := by
  have p : (0 : Int) < 2 ^ n := Int.pow_pos (by omega)
  have e : x = 0 ∨ x = 1 := by omega
  have e2 : (2 : Nat) ^ (n + 1) = 2 * 2 ^ n := by rw [Nat.pow_succ]; omega
  have e3 : ((2 : Int) ^ n).toNat = 2 ^ n := by rw [Int.toNat_pow_of_nonneg (by omega)]; rfl
  have : 0 < (2 : Nat) ^ n := Nat.pow_pos (by omega)
  rcases e with rfl | rfl
  · rw [Int.zero_mul]; exact ⟨by omega, by rw [Int.toNat_zero]; omega⟩
  · rw [Int.one_mul, e3]; omega
theorem orN_bnd {T : List Int} (h : ∀ x ∈ T, 0 ≤ x ∧ x ≤ 1) : ∀ n : Nat, n ≤ T.length → 0 ≤ orN T n ∧ (orN T n).toNat < 2 ^ n
  | 0, _ => by simp [orN]
  | n + 1, hn => by
    have ih := orN_bnd h n (by omega)
    have hx := h _ (at_mem 0 T (i := (n : Int)) (by omega) (by omega))
    have b := (bit_shl hx n).2
    simp only [orN]
    refine ⟨by omega, ?_⟩
    rw [Int.toNat_natCast]
    exact Nat.or_lt_two_pow (Nat.lt_of_lt_of_le ih.2 (Nat.pow_le_pow_right (by omega) (by omega))) b
theorem HL.vInt_orN {a b : Int} (a0 : 0 ≤ a) (a1 : a < 4611686018427387904) (b0 : 0 ≤ b) (b1 : b < 4611686018427387904) : vInt .or (.int .i64 a) (.int .i64 b) = some (.int .i64 ((a.toNat ||| b.toNat : Nat) : Int)) := by
  obtain ⟨n, rfl⟩ := Int.eq_ofNat_of_zero_le a0
  obtain ⟨m, rfl⟩ := Int.eq_ofNat_of_zero_le b0
  have hl : n ||| m < 2 ^ 62 := Nat.or_lt_two_pow (by omega) (by omega)
  have e : (BitVec.ofInt 64 (n : Int) ||| BitVec.ofInt 64 (m : Int)).toNat = n ||| m := by
    have e1 : BitVec.ofInt 64 (n : Int) = BitVec.ofNat 64 n := BitVec.ofInt_natCast 64 n
    have e2 : BitVec.ofInt 64 (m : Int) = BitVec.ofNat 64 m := BitVec.ofInt_natCast 64 m
    rw [e1, e2, BitVec.toNat_or, BitVec.toNat_ofNat, BitVec.toNat_ofNat, Nat.mod_eq_of_lt (by omega), Nat.mod_eq_of_lt (by omega)]
  simp only [vInt, if_true]
  show some (Value.int .i64 (IntKind.i64.wrap ((BitVec.ofInt 64 (n : Int) ||| BitVec.ofInt 64 (m : Int)).toNat : Int))) = _
  rw [e, wrap64 (by omega) (by omega)]; rfl
theorem HL.vInt_shlN {k : IntKind} {a w : Int} (w0 : 0 ≤ w) (w1 : w ≤ 63) (a0 : -9223372036854775808 ≤ a * 2 ^ w.toNat) (a1 : a * 2 ^ w.toNat < 9223372036854775808) : vInt .shl (.int .i64 a) (.int k w) = some (.int .i64 (a * 2 ^ w.toNat)) := by
  simp only [vInt]
  rw [if_pos w0, show min w.toNat IntKind.i64.bits = w.toNat by simp [IntKind.bits]; omega, wrap64 a0 (by omega)]
/-- How many entries are not 0. -/
def czF (T : List Int) : Nat → Int
  | 0 => 0
  | n + 1 => czF T n + (if at_ 0 T (n : Int) = 0 then 0 else 1)
theorem czF_bnd (T : List Int) : ∀ n : Nat, 0 ≤ czF T n ∧ czF T n ≤ n
  | 0 => by simp [czF]
  | n + 1 => by
    have ih := czF_bnd T n
    simp only [czF]; split <;> omega
theorem czF_t {T : List Int} {n : Nat} (h : at_ 0 T (n : Int) = 0) : czF T n = czF T (n + 1) := by simp only [czF]; rw [if_pos h]; omega
theorem czF_f {T : List Int} {n : Nat} (h : at_ 0 T (n : Int) ≠ 0) : czF T n + 1 = czF T (n + 1) := by simp only [czF]; rw [if_neg h]
/-- The sum of bits. -/
def btF (N : Int) : Nat → Int
  | 0 => 0
  | n + 1 => btF N n + N / 2 ^ ((n : Nat) : Int).toNat % 2
theorem btF_bnd (N : Int) : ∀ n : Nat, 0 ≤ btF N n ∧ btF N n ≤ n
  | 0 => by simp [btF]
  | n + 1 => by
    have ih := btF_bnd N n
    simp only [btF]; omega
theorem bt_cz : ∀ N : Nat, N < 256 → btF (N : Int) 8 = czF (nbF (N : Int) 8) 8 := by decide +kernel
/-- Sense: what changes when one cell of a neighbourhood does (two states, three cells). -/
def snK (T : List Int) (i : Nat) (k : Nat) : Int := if zrN 2 T ((digL (i : Int) 2 3).set k (1 - at_ 0 (digL (i : Int) 2 3) (k : Int))) ≠ at_ 0 T (i : Int) then 1 else 0
def snF (T : List Int) (i n : Nat) : Int := sumZ (snK T i) n
def snT (T : List Int) (n : Nat) : Int := sumZ (fun i => snF T i 3) n
theorem sn_zero : ∀ N : Nat, N < 256 → (snT (nbF (N : Int) 8) 8 = 0 ↔ (N : Int) = 0 ∨ (N : Int) = 255) := by decide +kernel
theorem snF_bnd (T : List Int) (i n : Nat) : 0 ≤ snF T i n ∧ snF T i n ≤ n := by
  have := sumZ_bnd (f := snK T i) (a := 0) (b := 1) (by omega) (by omega) (fun k => by unfold snK; split <;> omega) n
  unfold snF; omega
theorem snT_bnd (T : List Int) (n : Nat) : 0 ≤ snT T n ∧ snT T n ≤ 3 * n := by
  have := sumZ_bnd (f := fun i => snF T i 3) (a := 0) (b := 3) (by omega) (by omega) (fun k => by have := snF_bnd T k 3; exact ⟨this.1, by omega⟩) n
  unfold snT; omega
def HL.fEq (x y : Nat) : Bool := FloatKind.f32.format.order x y == some .eq
theorem HL.vF_eql (x y : Nat) : vFcmp .eql (.float .f32 x) (.float .f32 y) = some (.bool (fEq x y)) := by simp [vFcmp, fEq]
theorem HL.vF_neq (x y : Nat) : vFcmp .neq (.float .f32 x) (.float .f32 y) = some (.bool (!(fEq x y))) := by simp [vFcmp, fEq, bne]
/-- The shares. -/
theorem share_ok : ∀ c : Nat, c ≤ 8 → fMul (fDiv (fI (c : Int)) (fI 8)) (some 1090519040) = fI (c : Int) := by decide +kernel
theorem sense_ok : ∀ c : Nat, c ≤ 24 → ∃ z, fDiv (fI (c : Int)) (fI 24) = some z ∧ fLt z 0 = false ∧ fGt z 1065353216 = false ∧ (fEq z 0 = decide (c = 0)) := by
  intro c hc
  have h : ∀ c : Nat, c ≤ 24 → (match fDiv (fI (c : Int)) (fI 24) with | some z => !(fLt z 0) && !(fGt z 1065353216) && (fEq z 0 == decide (c = 0)) | none => false) = true := by decide +kernel
  have := h c hc
  split at this
  · rename_i z hz
    simp only [Bool.and_eq_true, Bool.not_eq_true', beq_iff_eq] at this
    exact ⟨z, hz, this.1.1, this.1.2, this.2⟩
  · simp at this
theorem count_eq : ∀ c : Nat, c ≤ 8 → fEq (FloatKind.nearest .f32 (c : Int)) (FloatKind.nearest .f32 (c : Int)) = true := by decide +kernel
/-- The digits of a power: a single one. -/
theorem dig_pow {b : Int} (hb : 2 ≤ b) {k j : Nat} (hj : j < k) : digL (b ^ (k - 1 - j)) b k = (List.range k).map fun (t : Nat) => if t = j then 1 else 0 := by
  unfold digL
  apply List.map_congr_left
  intro t ht
  have ht := List.mem_range.mp ht
  by_cases h : t = j
  · subst h
    rw [if_pos rfl, Int.ediv_self (by have := Int.pow_pos (n := b) (m := k - 1 - t) (by omega); omega)]
    exact Int.emod_eq_of_lt (by omega) (by omega)
  · rw [if_neg h]
    by_cases h2 : t < j
    · rw [Int.ediv_eq_zero_of_lt (Int.pow_nonneg (by omega)) (Int.pow_lt_pow_of_lt (by omega) (by omega))]; rfl
    · have e : k - 1 - j = (k - 1 - t) + ((t - j - 1) + 1) := by omega
      rw [e, Int.pow_add, Int.mul_ediv_cancel_left _ (by have := Int.pow_pos (n := b) (m := k - 1 - t) (by omega); omega), Int.pow_succ]
      exact Int.mul_emod_left _ _
theorem wgL_at {st : Int} {w : List Int} {h : Nat} (hh : h < (pwr st w.length).toNat) : at_ 0 (wgL st w) (h : Int) = wgS w (digL (h : Int) st w.length) % st := by
  rw [at_eq 0 _ (by unfold wgL; rw [wgF_len]; exact hh)]
  simp [wgL, wgF]
theorem wgL_len {st : Int} {w : List Int} (h : 1 ≤ st) : ((wgL st w).length : Int) = pwr st w.length := by
  unfold wgL; rw [wgF_len]
  have : 0 ≤ pwr st w.length := Int.pow_nonneg (by omega)
  omega
theorem sumZ_one {f : Nat → Int} {j : Nat} : ∀ {n : Nat}, j < n → (∀ i, i < n → i ≠ j → f i = 0) → sumZ f n = f j
  | 0, h, _ => by omega
  | n + 1, h, hz => by
    by_cases e : j = n
    · subst e
      show sumZ f j + f j = f j
      rw [sumZ_zero (fun i hi => hz i (by omega) (by omega))]; omega
    · show sumZ f n + f n = f j
      rw [sumZ_one (by omega) (fun i hi hn => hz i (by omega) hn), hz n (by omega) (by omega)]; omega
theorem wg_rule {st rc : Int} {w : List Int} (hs : st = 2 ∨ st = 3) (hr : 0 ≤ rc ∧ rc ≤ 2) (hl : (w.length : Int) = 2 * rc + 1) : ruleP st rc (wgL st w) := by
  refine ⟨hs, hr, by rw [wgL_len (by omega), hl], fun x hx => ?_⟩
  simp only [wgL, wgF, List.mem_map, List.mem_range] at hx
  obtain ⟨h, _, rfl⟩ := hx
  have := Int.emod_nonneg (wgS w (digL (h : Int) st w.length)) (b := st) (by omega)
  have := Int.emod_lt_of_pos (wgS w (digL (h : Int) st w.length)) (b := st) (by omega)
  omega
theorem add_wg {st rc : Int} {w : List Int} (hs : st = 2 ∨ st = 3) (hr : 0 ≤ rc ∧ rc ≤ 2) (hl : (w.length : Int) = 2 * rc + 1) (hw : ∀ x ∈ w, 0 ≤ x ∧ x ≤ st - 1) : addP st rc (wgL st w) := by
  have hR := wg_rule hs hr hl
  have e : tmL st rc (wgL st w) = w := by
    apply List.ext_getElem
    · unfold tmL; rw [tmF_len]; omega
    · intro j h1 h2
      have hj : j < w.length := h2
      simp only [tmL, tmF, List.getElem_map, List.getElem_range]
      have hp := pwr_lt hR (j := 2 * rc - (j : Int)) (by omega) (by omega)
      have ep : pwr st (2 * rc - (j : Int)) = st ^ (w.length - 1 - j) := by unfold pwr; rw [show (2 * rc - (j : Int)).toNat = w.length - 1 - j by omega]
      obtain ⟨m, hm⟩ := Int.eq_ofNat_of_zero_le hp.1
      have hwl := wgL_len (w := w) (show 1 ≤ st by omega)
      rw [hm, wgL_at (by omega), ← hm, ep, dig_pow (by omega) hj]
      unfold wgS
      rw [sumZ_one (j := j) hj (fun i hi hn => by
        rw [at_eq 0 ((List.range w.length).map _) (by simpa using hi)]
        simp [hn])]
      rw [at_eq 0 ((List.range w.length).map _) (by simpa using hj), at_eq 0 w hj]
      simp only [List.getElem_map, List.getElem_range, if_true, Int.mul_one]
      have := hw _ (List.getElem_mem hj)
      exact Int.emod_eq_of_lt this.1 (by omega)
  unfold addP
  rw [e]
/-- Two rings, cell by cell. -/
def plF (st : Int) (a b : List Int) (n : Nat) : List Int := (List.range n).map fun (i : Nat) => (at_ 0 a (i : Int) + at_ 0 b (i : Int)) % st
def plL (st : Int) (a b : List Int) : List Int := plF st a b a.length
theorem plF_len (st : Int) (a b : List Int) (n : Nat) : (plF st a b n).length = n := by simp [plF]
theorem plF_succ (st : Int) (a b : List Int) (n : Nat) : plF st a b n ++ [(at_ 0 a (n : Int) + at_ 0 b (n : Int)) % st] = plF st a b (n + 1) := by simp [plF, List.range_succ]
theorem plL_in {st : Int} {a b : List Int} (h : 1 ≤ st) : ∀ x ∈ plL st a b, 0 ≤ x ∧ x ≤ st - 1 := by
  intro x hx
  simp only [plL, plF, List.mem_map, List.mem_range] at hx
  obtain ⟨i, _, rfl⟩ := hx
  have := Int.emod_nonneg (at_ 0 a (i : Int) + at_ 0 b (i : Int)) (b := st) (by omega)
  have := Int.emod_lt_of_pos (at_ 0 a (i : Int) + at_ 0 b (i : Int)) (b := st) (by omega)
  omega
theorem plL_at {st : Int} {a b : List Int} {i : Int} (h0 : 0 ≤ i) (h1 : i < a.length) : at_ 0 (plL st a b) i = (at_ 0 a i + at_ 0 b i) % st := by
  obtain ⟨k, rfl⟩ := Int.eq_ofNat_of_zero_le h0
  rw [at_eq 0 _ (by unfold plL; rw [plF_len]; omega)]
  simp [plL, plF]
theorem sumZ_mod {f g : Nat → Int} {st : Int} : ∀ n : Nat, (∀ i, i < n → f i % st = g i % st) → sumZ f n % st = sumZ g n % st
  | 0, _ => rfl
  | n + 1, h => by
    show (sumZ f n + f n) % st = (sumZ g n + g n) % st
    rw [Int.add_emod, sumZ_mod n (fun i hi => h i (by omega)), h n (by omega), ← Int.add_emod]
theorem add_step {st rc : Int} {T a b : List Int} (h : ruleP st rc T) (ha : addP st rc T) (pa : ringP st a) (pb : ringP st b) (hl : b.length = a.length) : stpL st rc T (plL st a b) = plL st (stpL st rc T a) (stpL st rc T b) := by
  have hs : 1 ≤ st := by have := h.1; omega
  have l0 : 0 < a.length := by have := pa.2; omega
  have lp : (plL st a b).length = a.length := plF_len _ _ _ _
  apply List.ext_getElem
  · rw [stpL_len, lp]; unfold plL; rw [plF_len, stpL_len]
  · intro j h1 h2
    have hj : j < a.length := by rw [stpL_len, lp] at h1; exact h1
    have e1 : (stpL st rc T (plL st a b))[j] = tdN st rc T (plL st a b) (j : Int) := by simp [stpL, stpF]
    have e2 : (plL st (stpL st rc T a) (stpL st rc T b))[j] = (tdN st rc T a (j : Int) + tdN st rc T b (j : Int)) % st := by
      simp only [plL, plF, List.getElem_map, List.getElem_range]
      rw [stpL_at (by omega) (by omega), stpL_at (by omega) (by omega)]
    rw [e1, e2, add_td h ha (plL_in hs) (by omega), add_td h ha pa.1 l0, add_td h ha pb.1 (by omega), lp, hl, ← Int.add_emod, ← sumZ_add]
    apply sumZ_mod
    intro t ht
    have m0 := Int.emod_nonneg ((j : Int) - rc + (t : Int)) (b := (a.length : Int)) (by omega)
    have m1 := Int.emod_lt_of_pos ((j : Int) - rc + (t : Int)) (b := (a.length : Int)) (by omega)
    rw [plL_at m0 m1, ← Int.mul_add]
    rw [Int.mul_emod, Int.emod_emod_of_dvd _ (Int.dvd_refl st), ← Int.mul_emod]
/-- Zeros stay. -/
theorem add_zero {st rc : Int} {T : List Int} {n : Nat} (h : ruleP st rc T) (ha : addP st rc T) (hn : 0 < n) : stpL st rc T (List.replicate n 0) = List.replicate n 0 := by
  have hs : 1 ≤ st := by have := h.1; omega
  apply List.ext_getElem
  · rw [stpL_len]
  · intro j h1 h2
    have e1 : (stpL st rc T (List.replicate n 0))[j] = tdN st rc T (List.replicate n 0) (j : Int) := by simp [stpL, stpF]
    rw [e1, add_td h ha (fun x hx => by have := List.eq_of_mem_replicate hx; omega) (by simp; omega), sumZ_zero, List.getElem_replicate]
    · simp
    · intro i hi
      have z : ∀ k : Int, at_ 0 (List.replicate n (0 : Int)) k = 0 := fun k => by
        unfold at_
        rw [List.getD_eq_getElem?_getD]
        cases e : (List.replicate n (0 : Int))[k.toNat]? with
        | none => rfl
        | some y => have := List.mem_of_getElem? e; rw [List.eq_of_mem_replicate this]; rfl
      rw [z, Int.mul_zero]
/-- Totals. -/
def totF (told : List Int) (st : Int) (n : Nat) : List Int := (List.range n).map fun (h : Nat) => at_ 0 told (numL 1 (digL (h : Int) st 3))
def totL (told : List Int) (st : Int) : List Int := totF told st (pwr st 3).toNat
theorem totF_len (told : List Int) (st : Int) (n : Nat) : (totF told st n).length = n := by simp [totF]
theorem totF_succ (told : List Int) (st : Int) (n : Nat) : totF told st n ++ [at_ 0 told (numL 1 (digL (n : Int) st 3))] = totF told st (n + 1) := by simp [totF, List.range_succ]
theorem totL_at {told : List Int} {st : Int} {h : Nat} (hh : h < (totL told st).length) : at_ 0 (totL told st) (h : Int) = at_ 0 told (numL 1 (digL (h : Int) st 3)) := by
  rw [at_eq 0 _ hh]; simp [totL, totF]
theorem tot_rule {told : List Int} {st : Int} (hs : st = 2 ∨ st = 3) (hl : (told.length : Int) = 3 * (st - 1) + 1) (ht : ∀ x ∈ told, 0 ≤ x ∧ x ≤ st - 1) : ruleP st 1 (totL told st) := by
  refine ⟨hs, ⟨by omega, by omega⟩, ?_, fun x hx => ?_⟩
  · unfold totL; rw [totF_len]
    have : 0 ≤ pwr st 3 := Int.pow_nonneg (by omega)
    show _ = pwr st 3
    omega
  · simp only [totL, totF, List.mem_map, List.mem_range] at hx
    obtain ⟨h, _, rfl⟩ := hx
    have b := sum_bnd (m := st - 1) (digL_in (n := (h : Int)) (b := st) (k := 3) (by omega))
    rw [digL_len] at b
    exact ht _ (at_mem 0 told b.1 (by omega))
/-- A list of three, the other way round. -/
def rv3 (l : List Int) : Nat → List Int
  | 0 => l
  | _ + 1 => [at_ 0 l 2, at_ 0 l 1, at_ 0 l 0]
theorem rv3_sum {l : List Int} (h : l.length = 3) : numL 1 (rv3 l 1) = numL 1 l := by
  match l, h with
  | [a, b, c], _ => show numL 1 [c, b, a] = numL 1 [a, b, c]; simp [numL]; omega
theorem rv3_in {l : List Int} {p : Int → Prop} (h : l.length = 3) (hp : ∀ x ∈ l, p x) : ∀ x ∈ rv3 l 1, p x := by
  match l, h with
  | [a, b, c], _ =>
    intro x hx
    have : x ∈ [c, b, a] := hx
    exact hp x (by simp at this ⊢; omega)
theorem rv3_set {l : List Int} (h : l.length = 3) : (l.set 2 (at_ 0 l 0)).set 0 (at_ 0 l 2) = rv3 l 1 ∧ (l.set 0 (at_ 0 l 2)).set 2 (at_ 0 l 0) = rv3 l 1 := by
  match l, h with
  | [a, b, c], _ => exact ⟨rfl, rfl⟩
def mirF (st : Int) (T : List Int) (n : Nat) : List Int := (List.range n).map fun (h : Nat) => zrN st T (rv3 (digL (h : Int) st 3) 1)
def mirL (st : Int) (T : List Int) : List Int := mirF st T T.length
theorem mirF_len (st : Int) (T : List Int) (n : Nat) : (mirF st T n).length = n := by simp [mirF]
theorem mirF_succ (st : Int) (T : List Int) (n : Nat) : mirF st T n ++ [zrN st T (rv3 (digL (n : Int) st 3) 1)] = mirF st T (n + 1) := by simp [mirF, List.range_succ]
theorem mir_tot {told : List Int} {st : Int} (hs : st = 2 ∨ st = 3) (hl : (told.length : Int) = 3 * (st - 1) + 1) (ht : ∀ x ∈ told, 0 ≤ x ∧ x ≤ st - 1) : mirL st (totL told st) = totL told st := by
  have hR := tot_rule hs hl ht
  apply List.ext_getElem
  · unfold mirL; rw [mirF_len]
  · intro j h1 h2
    have e : (mirL st (totL told st))[j] = zrN st (totL told st) (rv3 (digL (j : Int) st 3) 1) := by simp [mirL, mirF]
    have hd := digL_in (n := (j : Int)) (b := st) (k := 3) (by omega)
    have h3 := digL_len (j : Int) st 3
    have hx := rv3_in (p := fun x => 0 ≤ x ∧ x ≤ st - 1) h3 hd
    have l3 : (rv3 (digL (j : Int) st 3) 1).length = 3 := rfl
    have ix := zr_ix hR hx (by rw [l3]; omega)
    rw [e]
    unfold zrN
    obtain ⟨m, hm⟩ := Int.eq_ofNat_of_zero_le ix.1
    rw [hm, totL_at (by omega), ← hm]
    have e2 := digL_numL (b := st) (by omega) hx
    rw [l3] at e2
    rw [e2, rv3_sum h3, ← totL_at h2, at_eq 0 _ h2]
/-- A neighbourhood while one cell is tried. -/
def lsO (D : List Int) (k o : Nat) : List Int := if 1 - at_ 0 D (k : Int) < (o : Int) then D.set k (1 - at_ 0 D (k : Int)) else D
def cO (D : List Int) (k o : Nat) (s : Int) : Int := if 1 - at_ 0 D (k : Int) < (o : Int) then s else 0
section
variable {D : List Int} {k o : Nat}
theorem lsO_len : (lsO D k o).length = D.length := by unfold lsO; split <;> simp
theorem lsO_in (hD : ∀ x ∈ D, 0 ≤ x ∧ x ≤ 1) (hk : k < D.length) : ∀ x ∈ lsO D k o, 0 ≤ x ∧ x ≤ 1 := by
  intro x hx
  unfold lsO at hx
  split at hx
  · rcases List.mem_or_eq_of_mem_set hx with h | h
    · exact hD x h
    · have := hD _ (at_mem 0 D (i := (k : Int)) (by omega) (by omega)); omega
  · exact hD x hx
theorem lsO_zero (hb : 0 ≤ at_ 0 D (k : Int) ∧ at_ 0 D (k : Int) ≤ 1) : lsO D k 0 = D := by unfold lsO; rw [if_neg (by omega)]
theorem lsO_skip (hb : 0 ≤ at_ 0 D (k : Int) ∧ at_ 0 D (k : Int) ≤ 1) (h : (o : Int) = at_ 0 D (k : Int)) : lsO D k o = lsO D k (o + 1) := by
  unfold lsO
  by_cases c : 1 - at_ 0 D (k : Int) < (o : Int)
  · rw [if_pos c, if_pos (by omega)]
  · rw [if_neg c, if_neg (by omega)]
theorem lsO_put (hb : 0 ≤ at_ 0 D (k : Int) ∧ at_ 0 D (k : Int) ≤ 1) (ho : o < 2) (h : ¬ (o : Int) = at_ 0 D (k : Int)) : (lsO D k o).set (k : Int).toNat (o : Int) = lsO D k (o + 1) := by
  have e : (o : Int) = 1 - at_ 0 D (k : Int) := by omega
  unfold lsO
  rw [if_neg (by omega), if_pos (by omega), Int.toNat_natCast, e]
theorem lsO_back (hb : 0 ≤ at_ 0 D (k : Int) ∧ at_ 0 D (k : Int) ≤ 1) (hk : k < D.length) : (lsO D k 2).set (k : Int).toNat (at_ 0 D (k : Int)) = D := by
  unfold lsO
  rw [if_pos (by omega), Int.toNat_natCast, List.set_set, at_eq 0 D hk, List.set_getElem_self]
theorem cO_skip (hb : 0 ≤ at_ 0 D (k : Int) ∧ at_ 0 D (k : Int) ≤ 1) (h : (o : Int) = at_ 0 D (k : Int)) (s : Int) : cO D k (o + 1) s = cO D k o s := by
  unfold cO
  by_cases c : 1 - at_ 0 D (k : Int) < (o : Int)
  · rw [if_pos c, if_pos (by omega)]
  · rw [if_neg c, if_neg (by omega)]
theorem cO_put (hb : 0 ≤ at_ 0 D (k : Int) ∧ at_ 0 D (k : Int) ≤ 1) (ho : o < 2) (h : ¬ (o : Int) = at_ 0 D (k : Int)) (s : Int) : cO D k o s = 0 ∧ cO D k (o + 1) s = s := by
  unfold cO
  rw [if_neg (by omega), if_pos (by omega)]; exact ⟨rfl, rfl⟩
theorem cO_two (hb : 0 ≤ at_ 0 D (k : Int) ∧ at_ 0 D (k : Int) ≤ 1) (s : Int) : cO D k 2 s = s := by unfold cO; rw [if_pos (by omega)]
theorem cO_zero (hb : 0 ≤ at_ 0 D (k : Int) ∧ at_ 0 D (k : Int) ≤ 1) (s : Int) : cO D k 0 s = 0 := by unfold cO; rw [if_neg (by omega)]
theorem cO_bnd (s : Int) : cO D k o s = 0 ∨ cO D k o s = s := by unfold cO; split <;> simp
end
theorem snK_of {T : List Int} {i k o : Nat} (hb : 0 ≤ at_ 0 (digL (i : Int) 2 3) (k : Int) ∧ at_ 0 (digL (i : Int) 2 3) (k : Int) ≤ 1) (ho : o < 2) (h : ¬ (o : Int) = at_ 0 (digL (i : Int) 2 3) (k : Int)) :
    (zrN 2 T ((lsO (digL (i : Int) 2 3) k o).set (k : Int).toNat (o : Int)) ≠ at_ 0 T (i : Int) → snK T i k = 1) ∧ (¬ zrN 2 T ((lsO (digL (i : Int) 2 3) k o).set (k : Int).toNat (o : Int)) ≠ at_ 0 T (i : Int) → snK T i k = 0) := by
  rw [lsO_put hb ho h]
  unfold lsO snK
  rw [if_pos (by omega)]
  exact ⟨fun g => if_pos g, fun g => if_neg g⟩
theorem snK_bnd (T : List Int) (i k : Nat) : 0 ≤ snK T i k ∧ snK T i k ≤ 1 := by unfold snK; split <;> omega
theorem share_fin {T : List Int} {z : Nat} (h8 : T.length = 8) (h : FR .f32 (fMul (fDiv (fI (czF T T.length)) (fI (T.length : Int))) (some 1090519040)) z) : fEq z (FloatKind.nearest .f32 (czF T 8)) = true := by
  rw [h8] at h
  have b := czF_bnd T 8
  obtain ⟨c, hc⟩ := Int.eq_ofNat_of_zero_le b.1
  rw [hc] at h ⊢
  have e := share_ok c (by omega)
  have h2 : FR .f32 (fI (c : Int)) z := FR_cast e h
  have h3 : z = FloatKind.nearest .f32 (c : Int) := h2
  rw [h3]; exact count_eq c (by omega)
theorem sense_fin {T : List Int} {z : Nat} (h : FR .f32 (fDiv (fI (snT T 8)) (fI 24)) z) : fLt z 0 = false ∧ fGt z 1065353216 = false ∧ fEq z 0 = decide (snT T 8 = 0) := by
  have b := snT_bnd T 8
  obtain ⟨c, hc⟩ := Int.eq_ofNat_of_zero_le b.1
  rw [hc] at h ⊢
  obtain ⟨y, h1, h2, h3, h4⟩ := sense_ok c (by omega)
  rw [h1] at h
  have h5 : z = y := h
  rw [h5]
  refine ⟨h2, h3, h4.trans (decide_eq_decide.mpr ?_)⟩
  omega
theorem zero_ring {st n : Int} (hs : 1 ≤ st) (n0 : 1 ≤ n) (n1 : n ≤ 64) : ringP st (List.replicate n.toNat 0) :=
  ⟨fun x hx => by have := List.eq_of_mem_replicate hx; omega, by simp; omega, by simp; omega⟩
theorem mir_tot2 {told : List Int} {st : Int} (hs : st = 2 ∨ st = 3) (hl : (told.length : Int) = 3 * (st - 1) + 1) (ht : ∀ x ∈ told, 0 ≤ x ∧ x ≤ st - 1) : mirF st (totL told st) (pwr st 3).toNat = totL told st := by
  have := mir_tot hs hl ht
  unfold mirL at this
  rwa [show (totL told st).length = (pwr st 3).toNat from totF_len _ _ _] at this
theorem num_facts {num : Int} (h0 : 0 ≤ num) (h1 : num ≤ 255) : orN (nbF num 8) 8 = num ∧ btF num 8 = czF (nbF num 8) 8 ∧ (snT (nbF num 8) 8 = 0 ↔ num = 0 ∨ num = 255) := by
  obtain ⟨N, rfl⟩ := Int.eq_ofNat_of_zero_le h0
  exact ⟨orN_num N (by omega), bt_cz N (by omega), sn_zero N (by omega)⟩
theorem sense_bad {num : Int} {z : Nat} (h0 : 0 ≤ num) (h1 : num ≤ 255) (h : FR .f32 (fDiv (fI (snT (nbF num 8) 8)) (fI 24)) z) : fEq z 0 = decide (num = 0 ∨ num = 255) := by
  rw [(sense_fin h).2.2]
  exact decide_eq_decide.mpr (num_facts h0 h1).2.2
end Go.Proofs.Ytelcmohhjkgjoaa
