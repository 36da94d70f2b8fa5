/- Spins: what a sweep does to them, by plain law; shares that are drawn lie below 1. -/
import Derived.Test.YtkehomlkgcfjnaaTB
import Derived.Test.YtkehomlkgcfjnaaUL
import Derived.Test.YtkehomlkgcfjnaaUGA
namespace Go.Proofs.Ytkehomlkgcfjnaa
open HL Ieee
set_option maxRecDepth 100000
theorem log2_at {m k : Nat} (h1 : 2 ^ k ≤ m) (h2 : m < 2 ^ (k + 1)) : m.log2 = k := by
  have h0 : m ≠ 0 := fun h => by subst h; have := Nat.two_pow_pos k; omega
  have a := (Nat.le_log2 h0).mpr h1
  have b := (Nat.log2_lt h0).mpr h2
  omega
theorem cut_zero (g : Bool) (n : Nat) : Toward.even.cut g n 0 = n := by
  unfold Toward.cut
  simp [Nat.mod_one]
theorem cut_mul (g : Bool) {m d : Nat} (hm : 0 < m) : Toward.even.cut g (m * 2 ^ d) d = m := by
  unfold Toward.cut
  have h0 : m * 2 ^ d ≠ 0 := Nat.ne_of_gt (Nat.mul_pos hm (Nat.two_pow_pos d))
  have hl : d ≤ (m * 2 ^ d).log2 := (Nat.le_log2 h0).mpr (Nat.le_mul_of_pos_left _ hm)
  rw [Nat.min_eq_left (by omega), Nat.shiftLeft_eq, Nat.one_mul]
  have hp := Nat.two_pow_pos d
  simp only [Nat.mul_div_cancel _ hp, Nat.mul_mod_left, Nat.mul_zero]
  have : ¬ 2 ^ d < 0 := by omega
  have h2 : (2 ^ d == 0) = false := by simp
  simp [this]
/-- A number whose digits fit, written. -/
theorem wr_dn {g : Bool} {m d : Nat} {e : Int} (h1 : 8388608 ≤ m) (h2 : m < 16777216) (e0 : -149 ≤ e + d) (e1 : e + d ≤ 104) :
    single.nearest g (m * 2 ^ d) e = single.word g ((e + d + 149).toNat * 8388608 + m) := by
  have hl : (m * 2 ^ d).log2 = 23 + d := log2_at (by rw [Nat.pow_add]; exact Nat.mul_le_mul_right _ h1) (by rw [show 23 + d + 1 = 24 + d by omega, Nat.pow_add]; exact Nat.mul_lt_mul_of_pos_right h2 (Nat.two_pow_pos d))
  have hfb : single.fractionBits = 23 := rfl
  have hlp : single.leastPlace = -149 := by decide
  have hb : single.binade = 8388608 := by decide
  have hi : single.infRung = 2139095040 := by decide
  unfold Format.nearest
  rw [if_neg (Nat.ne_of_gt (Nat.mul_pos (by omega) (Nat.two_pow_pos d))), hl]
  simp only [hfb, hlp, hb, hi]
  rw [show max (e + ((23 + d : Nat) : Int) - ((23 : Nat) : Int)) (-149) = e + d by omega, show (e - (e + (d : Int))).toNat = 0 by omega, show (e + (d : Int) - e).toNat = d by omega, Nat.shiftLeft_zero, cut_mul g (by omega)]
  rw [show e + (d : Int) - -149 = e + d + 149 by omega]
  have ht : (e + (d : Int) + 149).toNat ≤ 253 := by omega
  generalize (e + (d : Int) + 149).toNat = q at ht
  rw [Nat.min_eq_left (by omega)]
theorem wr_up {g : Bool} {n s : Nat} {e : Int} (h1 : 8388608 ≤ n * 2 ^ s) (h2 : n * 2 ^ s < 16777216) (e0 : -149 ≤ e - s) (e1 : e - s ≤ 104) :
    single.nearest g n e = single.word g ((e - s + 149).toNat * 8388608 + n * 2 ^ s) := by
  have hn : 0 < n := Nat.pos_of_ne_zero (fun h => by rw [h, Nat.zero_mul] at h1; omega)
  have hl0 : (n * 2 ^ s).log2 = 23 := log2_at h1 h2
  have hl : (n.log2 : Int) = 23 - s := by
    have a1 := Nat.log2_self_le (n := n) (by omega)
    have a2 := Nat.lt_log2_self (n := n)
    have b : (n * 2 ^ s).log2 = n.log2 + s := log2_at (by rw [Nat.pow_add]; exact Nat.mul_le_mul_right _ a1) (by rw [show n.log2 + s + 1 = n.log2 + 1 + s by omega, Nat.pow_add]; exact Nat.mul_lt_mul_of_pos_right a2 (Nat.two_pow_pos s))
    omega
  have hfb : single.fractionBits = 23 := rfl
  have hlp : single.leastPlace = -149 := by decide
  have hb : single.binade = 8388608 := by decide
  have hi : single.infRung = 2139095040 := by decide
  unfold Format.nearest
  rw [if_neg (by omega), hl]
  simp only [hfb, hlp, hb, hi]
  rw [show max (e + (23 - (s : Int)) - ((23 : Nat) : Int)) (-149) = e - s by omega, show (e - (e - (s : Int))).toNat = s by omega, show (e - (s : Int) - e).toNat = 0 by omega, cut_zero, Nat.shiftLeft_eq, show e - (s : Int) - -149 = e - s + 149 by omega]
  generalize n * 2 ^ s = m at h1 h2
  have ht : (e - (s : Int) + 149).toNat ≤ 253 := by omega
  generalize (e - (s : Int) + 149).toNat = q at ht
  rw [Nat.min_eq_left (by omega)]
theorem rd_word {m q : Nat} (h1 : 8388608 ≤ m) (h2 : m < 16777216) (hq : q ≤ 253) : single.read (single.word false (q * 8388608 + m)) = .number false m ((q : Int) - 149) := by
  have hlp : single.leastPlace = -149 := by decide
  have hb : single.binade = 8388608 := by decide
  have hi : single.infRung = 2139095040 := by decide
  have hs : single.signWeight = 2147483648 := by decide
  have hw : ∀ r, single.word false r = r := fun r => if_neg (by simp)
  unfold Format.read
  rw [hw, hs, hb, hi, hlp]
  have e1 : (q * 8388608 + m) % 2147483648 = q * 8388608 + m := Nat.mod_eq_of_lt (by omega)
  have e2 : (q * 8388608 + m) / 2147483648 = 0 := by omega
  have e3 : (q * 8388608 + m) % 8388608 = m - 8388608 := by omega
  have e4 : (q * 8388608 + m) / 8388608 - 1 = q := by omega
  rw [e1, e2]
  dsimp only
  rw [e3, e4]
  have e5 : ((0 : Nat) % 2 == 1) = false := rfl
  rw [if_neg (by omega), if_pos (by omega), e5, show 8388608 + (m - 8388608) = m by omega, show (-149 : Int) + (q : Int) = (q : Int) - 149 by omega]
theorem one_rd : single.read 1065353216 = .number false 8388608 (-23) := by decide +kernel
theorem big_rd : single.read 1266679808 = .number false 8388608 1 := by decide +kernel
theorem zero_rd : single.read 0 = .number false 0 (-149) := by decide +kernel
theorem f32_div (x y : Nat) : FloatKind.f32.format.div x y = ((single.read x).quotient 25 (single.read y)).map single.write := rfl
theorem f32_near (n : Nat) : FloatKind.f32.nearest (n : Int) = single.nearest false n 0 := by
  show single.nearest (decide ((n : Int) < 0)) (n : Int).natAbs 0 = _
  rw [decide_eq_false (by omega), Int.natAbs_natCast]
theorem f32_wr (g : Bool) (m : Nat) (e : Int) : single.write (.number g m e) = single.nearest g m e := rfl
theorem f32_lt (x y : Nat) : fLtO (some x) y = ((single.read x).order (single.read y) == some .lt) := rfl
theorem order_nn (m n : Nat) (i j : Int) : (Datum.number false m i).order (.number false n j) = some (compare ((m <<< (i - min i j).toNat : Nat) : Int) ((n <<< (j - min i j).toNat : Nat) : Int)) := rfl
theorem quo_nn (d m n : Nat) (i j : Int) (hn : n ≠ 0) : (Datum.number false m i).quotient d (.number false n j) = some (.number false (2 * ((m <<< (d + n.log2 - m.log2)) / n) + ((m <<< (d + n.log2 - m.log2)) % n != 0).toNat) (i - j - ((d + n.log2 - m.log2 : Nat) : Int) - 1)) := by
  unfold Datum.quotient
  simp only []
  rw [if_neg hn]; rfl
/-- A share that is drawn, as a number. -/
theorem share_rd {n : Nat} (hn : n < 16777216) (h0 : 0 < n) : ∃ (m : Nat) (e : Int), FloatKind.f32.format.div (FloatKind.f32.nearest (n : Int)) 1266679808 = some (single.write (.number false m e)) ∧ single.read (single.write (.number false m e)) = .number false m e ∧ 0 < m ∧ m < 16777216 ∧ e ≤ -24 ∧ -149 ≤ e := by
  have a1 := Nat.log2_self_le (n := n) (by omega)
  have a2 := Nat.lt_log2_self (n := n)
  have hk : n.log2 ≤ 23 := by have := (Nat.log2_lt (n := n) (k := 24) (by omega)).mpr hn; omega
  generalize n.log2 = k at a1 a2 hk
  have hs : 2 ^ (23 - k) * 2 ^ k = 8388608 := by rw [← Nat.pow_add, show 23 - k + k = 23 by omega]
  have b1 : 8388608 ≤ n * 2 ^ (23 - k) := by rw [← hs, Nat.mul_comm]; exact Nat.mul_le_mul_right _ a1
  have b2 : n * 2 ^ (23 - k) < 16777216 := by
    have := Nat.mul_lt_mul_of_pos_right a2 (Nat.two_pow_pos (23 - k))
    rw [Nat.pow_succ, Nat.mul_comm (2 ^ k), Nat.mul_assoc, Nat.mul_comm (2 ^ k), hs] at this; omega
  have e1 : FloatKind.f32.nearest (n : Int) = single.word false ((k + 126) * 8388608 + n * 2 ^ (23 - k)) := by
    rw [f32_near, wr_up b1 b2 (by omega) (by omega), show (0 - ((23 - k : Nat) : Int) + 149).toNat = k + 126 by omega]
  generalize n * 2 ^ (23 - k) = m at b1 b2 e1
  have e2 : single.read (FloatKind.f32.nearest (n : Int)) = .number false m (((k + 126 : Nat) : Int) - 149) := by rw [e1]; exact rd_word b1 b2 (by omega)
  refine ⟨m, (k : Int) - 47, ?_, ?_, by omega, b2, by omega, by omega⟩
  · have hl : m.log2 = 23 := log2_at b1 b2
    have hl2 : Nat.log2 8388608 = 23 := by decide +kernel
    rw [f32_div, e2, big_rd, quo_nn _ _ _ _ _ (by omega), hl, hl2]
    have q1 : m <<< (25 + 23 - 23) / 8388608 = m * 4 := by rw [Nat.shiftLeft_eq, show (2 : Nat) ^ (25 + 23 - 23) = 4 * 8388608 by decide, ← Nat.mul_assoc, Nat.mul_div_cancel _ (by omega)]
    have q2 : m <<< (25 + 23 - 23) % 8388608 = 0 := by rw [Nat.shiftLeft_eq, show (2 : Nat) ^ (25 + 23 - 23) = 4 * 8388608 by decide, ← Nat.mul_assoc, Nat.mul_mod_left]
    rw [q1, q2, Option.map_some, f32_wr, f32_wr]
    have w1 := wr_dn (g := false) (d := 3) (e := ((k + 126 : Nat) : Int) - 149 - 1 - ((25 + 23 - 23 : Nat) : Int) - 1) b1 b2 (by omega) (by omega)
    have w2 := wr_dn (g := false) (d := 0) (e := (k : Int) - 47) b1 b2 (by omega) (by omega)
    rw [Nat.pow_zero, Nat.mul_one] at w2
    rw [show 2 * (m * 4) + ((0 : Nat) != 0).toNat = m * 2 ^ 3 by simp; omega, w1, w2, show (((k + 126 : Nat) : Int) - 149 - 1 - ((25 + 23 - 23 : Nat) : Int) - 1 + ((3 : Nat) : Int) + 149).toNat = ((k : Int) - 47 + ((0 : Nat) : Int) + 149).toNat by omega]
  · have w2 := wr_dn (g := false) (d := 0) (e := (k : Int) - 47) b1 b2 (by omega) (by omega)
    rw [Nat.pow_zero, Nat.mul_one] at w2
    rw [f32_wr, w2, rd_word b1 b2 (by omega), show (((k : Int) - 47 + ((0 : Nat) : Int) + 149).toNat : Int) - 149 = (k : Int) - 47 by omega]
theorem shB_lo {x : Int} (h0 : 0 ≤ x) (h1 : x ≤ 4294967295) : shB x 0 = false := by
  unfold shB
  obtain ⟨n, hn⟩ := Int.eq_ofNat_of_zero_le (show 0 ≤ x / 256 by omega)
  rw [hn]
  by_cases h : n = 0
  · subst h; decide +kernel
  · obtain ⟨m, e, h1, h2, h3, h4, h5, h6⟩ := share_rd (n := n) (by omega) (by omega)
    rw [h1]
    rw [f32_lt, h2, zero_rd, order_nn, Nat.zero_shiftLeft]
    have : 0 < m <<< (e - min e (-149)).toNat := by rw [Nat.shiftLeft_eq]; exact Nat.mul_pos h3 (Nat.two_pow_pos _)
    have hc : compare ((m <<< (e - min e (-149)).toNat : Nat) : Int) ((0 : Nat) : Int) = .gt := by
      rw [Int.compare_eq_gt]; omega
    rw [hc]; rfl
theorem shB_hi {x : Int} (h0 : 0 ≤ x) (h1 : x ≤ 4294967295) : shB x 1065353216 = true := by
  unfold shB
  obtain ⟨n, hn⟩ := Int.eq_ofNat_of_zero_le (show 0 ≤ x / 256 by omega)
  rw [hn]
  by_cases h : n = 0
  · subst h; decide +kernel
  · obtain ⟨m, e, h1, h2, h3, h4, h5, h6⟩ := share_rd (n := n) (by omega) (by omega)
    rw [h1]
    rw [f32_lt, h2, one_rd, order_nn]
    rw [show min e (-23) = e by omega, show (e - e).toNat = 0 by omega, Nat.shiftLeft_zero, Nat.shiftLeft_eq]
    have : 2 ^ 1 ≤ 2 ^ (-23 - e).toNat := Nat.pow_le_pow_right (by omega) (by omega)
    have hc : compare ((m : Nat) : Int) ((8388608 * 2 ^ (-23 - e).toNat : Nat) : Int) = .lt := by
      rw [Int.compare_eq_lt]; omega
    rw [hc]; rfl
/-- What a spin's turning costs. -/
def swD (r c : Int) (l : List Int) (n : Nat) : Int :=
  2 * spinF r c l ((n : Int) / c) ((n : Int) % c) * (spinF r c l ((n : Int) / c - 1) ((n : Int) % c) + spinF r c l ((n : Int) / c) ((n : Int) % c + 1) + spinF r c l ((n : Int) / c + 1) ((n : Int) % c) + spinF r c l ((n : Int) / c) ((n : Int) % c - 1))
/-- The spins behind some visits: hot, each one is turned; cold, those that it costs nothing. -/
def swS (hot : Bool) (r c : Int) (l : List Int) : Nat → List Int
  | 0 => l
  | n + 1 => if hot = true ∨ swD r c (swS hot r c l n) n ≤ 0 then (swS hot r c l n).set n (1 - at_ 0 (swS hot r c l n) (n : Int)) else swS hot r c l n
theorem swS_yes {hot : Bool} {r c : Int} {l : List Int} {n : Nat} (h : hot = true ∨ swD r c (swS hot r c l n) n ≤ 0) : swS hot r c l (n + 1) = (swS hot r c l n).set n (1 - at_ 0 (swS hot r c l n) (n : Int)) := if_pos h
theorem swS_no {hot : Bool} {r c : Int} {l : List Int} {n : Nat} (h : ¬ (hot = true ∨ swD r c (swS hot r c l n) n ≤ 0)) : swS hot r c l (n + 1) = swS hot r c l n := if_neg h
theorem at_setS {l : List Int} {i j : Nat} {x : Int} (hi : i < l.length) : at_ 0 (l.set i x) (j : Int) = if i = j then x else at_ 0 l (j : Int) := by
  unfold at_
  simp only [Int.toNat_natCast, List.getD_eq_getElem?_getD]
  by_cases h : i = j
  · subst h; simp [hi]
  · simp [h]
theorem field_set {r c : Int} {l : List Int} {n : Nat} (h : fieldN 1 r c l) (hn : (n : Int) < r * c) : fieldN 1 r c (l.set n (1 - at_ 0 l (n : Int))) := by
  have b := fieldN_at h (i := (n : Int)) (by omega) hn
  refine ⟨h.1, by rw [List.length_set]; exact h.2.1, fun x hx => ?_⟩
  rcases List.mem_or_eq_of_mem_set hx with hx | hx
  · exact h.2.2 x hx
  · omega
theorem swS_field {hot : Bool} {r c : Int} {l : List Int} (h : fieldN 1 r c l) : ∀ n : Nat, (n : Int) ≤ r * c → fieldN 1 r c (swS hot r c l n)
  | 0, _ => h
  | n + 1, hn => by
    have ih := swS_field (hot := hot) h n (by omega)
    by_cases g : hot = true ∨ swD r c (swS hot r c l n) n ≤ 0
    · rw [swS_yes g]; exact field_set ih (by omega)
    · rw [swS_no g]; exact ih
theorem spin_two {r c : Int} {l : List Int} (h : fieldN 1 r c l) (i k : Int) : spinF r c l i k = -1 ∨ spinF r c l i k = 1 := by
  have b := roundF_lt (i := i) (k := k) h.1
  have := fieldN_at h b.2.2.2.2.2.2.1 b.2.2.2.2.2.2.2
  unfold spinF; omega
theorem swD_at {r c : Int} {l : List Int} (h : fieldN 1 r c l) (n : Nat) (hp : ¬ swD r c l n ≤ 0) : swD r c l n = 4 ∨ swD r c l n = 8 := by
  unfold swD at hp ⊢
  rcases spin_two h ((n : Int) / c) ((n : Int) % c) with e | e <;> rcases spin_two h ((n : Int) / c - 1) ((n : Int) % c) with e1 | e1 <;> rcases spin_two h ((n : Int) / c) ((n : Int) % c + 1) with e2 | e2 <;>
    rcases spin_two h ((n : Int) / c + 1) ((n : Int) % c) with e3 | e3 <;> rcases spin_two h ((n : Int) / c) ((n : Int) % c - 1) with e4 | e4 <;> rw [e, e1, e2, e3, e4] at hp ⊢ <;> omega
theorem swD_bnd {r c : Int} {l : List Int} (h : fieldN 1 r c l) (n : Nat) : -8 ≤ swD r c l n ∧ swD r c l n ≤ 8 := by
  unfold swD
  rcases spin_two h ((n : Int) / c) ((n : Int) % c) with e | e <;> rcases spin_two h ((n : Int) / c - 1) ((n : Int) % c) with e1 | e1 <;> rcases spin_two h ((n : Int) / c) ((n : Int) % c + 1) with e2 | e2 <;>
    rcases spin_two h ((n : Int) / c + 1) ((n : Int) % c) with e3 | e3 <;> rcases spin_two h ((n : Int) / c) ((n : Int) % c - 1) with e4 | e4 <;> rw [e, e1, e2, e3, e4] <;> omega
/-- One spin turned. -/
theorem spin_set {r c : Int} {l : List Int} {n : Nat} (h : fieldN 1 r c l) (hn : (n : Int) < r * c) (i k : Int) :
    spinF r c (l.set n (1 - at_ 0 l (n : Int))) i k = if i % r = (n : Int) / c ∧ k % c = (n : Int) % c then - spinF r c l i k else spinF r c l i k := by
  have b := roundF_lt (i := i) (k := k) h.1
  have hc := h.1.2.1
  have hl := h.2.1
  unfold spinF
  obtain ⟨j, hj⟩ := Int.eq_ofNat_of_zero_le b.2.2.2.2.2.2.1
  rw [hj, at_setS (by omega)]
  have e : (n = j) ↔ (i % r = (n : Int) / c ∧ k % c = (n : Int) % c) := by
    unfold roundF at hj
    have q1 := Int.emod_add_mul_ediv (n : Int) c
    have q2 : (i % r * c + k % c) / c = i % r := by rw [Int.add_comm, Int.add_mul_ediv_right _ _ (by omega), Int.ediv_eq_zero_of_lt b.2.2.1 b.2.2.2.1, Int.zero_add]
    have q3 : (i % r * c + k % c) % c = k % c := by rw [Int.add_comm, Int.add_mul_emod_self_right, Int.emod_emod_of_dvd _ (Int.dvd_refl c)]
    constructor
    · intro hh; subst hh; rw [← hj, q2, q3]; exact ⟨rfl, rfl⟩
    · rintro ⟨h1, h2⟩; rw [h1, h2, Int.mul_comm] at hj; omega
  by_cases g : n = j
  · rw [if_pos g, if_pos (e.mp g), g]; omega
  · rw [if_neg g, if_neg (fun x => g (e.mpr x))]
theorem enRow_diff {r c i b b1 X Y : Int} {l m : List Int} (hb : 0 ≤ b) (hb1 : 0 ≤ b1) : ∀ n : Nat, (∀ k : Nat, k < n → enI r c m i k = enI r c l i k + (if (k : Int) = b then X else 0) + (if (k : Int) = b1 then Y else 0)) →
    enRow r c m i n = enRow r c l i n - (if b < n then X else 0) - (if b1 < n then Y else 0)
  | 0, _ => by rw [if_neg (by omega), if_neg (by omega)]; simp [enRow]
  | n + 1, h => by
    have ih := enRow_diff (i := i) (X := X) (Y := Y) hb hb1 n (fun k hk => h k (by omega))
    have e := h n (by omega)
    simp only [enRow, ih, e]
    split <;> split <;> split <;> split <;> split <;> split <;> omega
theorem enAll_diff {r c a a1 X Y Z : Int} {l m : List Int} (ha : 0 ≤ a) (ha1 : 0 ≤ a1) : ∀ n : Nat, (∀ i : Nat, i < n → enRow r c m i c.toNat = enRow r c l i c.toNat - (if (i : Int) = a then X + Y else 0) - (if (i : Int) = a1 then Z else 0)) →
    enAll r c m n = enAll r c l n - (if a < n then X + Y else 0) - (if a1 < n then Z else 0)
  | 0, _ => by rw [if_neg (by omega), if_neg (by omega)]; simp [enAll]
  | n + 1, h => by
    have ih := enAll_diff (X := X) (Y := Y) (Z := Z) ha ha1 n (fun k hk => h k (by omega))
    have e := h n (by omega)
    simp only [enAll, ih, e]
    split <;> split <;> split <;> split <;> split <;> split <;> omega
theorem mod_succ {i r a : Int} (h0 : 0 ≤ i) (h1 : i < r) (a0 : 0 ≤ a) (a1 : a < r) : (i + 1) % r = a ↔ i = (a - 1) % r := by
  by_cases g : i + 1 = r
  · rw [g, Int.emod_self]
    by_cases z : a = 0
    · subst z
      have : (0 - 1) % r = r - 1 := by rw [show (0 : Int) - 1 = (r - 1) + r * (-1) by omega, Int.add_mul_emod_self_left, Int.emod_eq_of_lt (by omega) (by omega)]
      omega
    · rw [Int.emod_eq_of_lt (show 0 ≤ a - 1 by omega) (by omega)]; omega
  · rw [Int.emod_eq_of_lt (show 0 ≤ i + 1 by omega) (by omega)]
    by_cases z : a = 0
    · subst z
      have : (0 - 1) % r = r - 1 := by rw [show (0 : Int) - 1 = (r - 1) + r * (-1) by omega, Int.add_mul_emod_self_left, Int.emod_eq_of_lt (by omega) (by omega)]
      omega
    · rw [Int.emod_eq_of_lt (show 0 ≤ a - 1 by omega) (by omega)]; omega
theorem spinF_mod {r c : Int} {l : List Int} (i k : Int) : spinF r c l (i % r) k = spinF r c l i k ∧ spinF r c l i (k % c) = spinF r c l i k := by
  unfold spinF roundF
  rw [Int.emod_emod_of_dvd _ (Int.dvd_refl r), Int.emod_emod_of_dvd _ (Int.dvd_refl c)]
  exact ⟨rfl, rfl⟩
/-- What one turn changes. -/
theorem en_set {r c : Int} {l : List Int} {n : Nat} (h : fieldN 1 r c l) (hn : (n : Int) < r * c) (hr : 2 ≤ r) (hc : 2 ≤ c) : energy r c (l.set n (1 - at_ 0 l (n : Int))) = energy r c l + swD r c l n := by
  have hm := field_set h hn
  unfold energy
  rw [if_pos hm, if_pos h]
  have a0 : 0 ≤ (n : Int) / c := Int.ediv_nonneg (by omega) (by omega)
  have a1 : (n : Int) / c < r := Int.ediv_lt_of_lt_mul (by omega) hn
  have b0 := Int.emod_nonneg (n : Int) (b := c) (by omega)
  have b1 := Int.emod_lt_of_pos (n : Int) (b := c) (by omega)
  have sp := fun i k => spin_set h hn i k
  unfold swD
  generalize l.set n (1 - at_ 0 l (n : Int)) = m at hm sp
  generalize (n : Int) / c = a at a0 a1 sp
  generalize (n : Int) % c = b at b0 b1 sp
  have p0 := Int.emod_nonneg (a - 1) (b := r) (by omega)
  have p1 := Int.emod_lt_of_pos (a - 1) (b := r) (by omega)
  have q0 := Int.emod_nonneg (b - 1) (b := c) (by omega)
  have q1 := Int.emod_lt_of_pos (b - 1) (b := c) (by omega)
  have nx : ∀ {x y : Int}, 0 ≤ x → x < y → 2 ≤ y → (x + 1) % y ≠ x := fun {x y} h0 h1 h2 e => by
    by_cases g : x + 1 < y
    · rw [Int.emod_eq_of_lt (by omega) g] at e; omega
    · rw [show x + 1 = y by omega, Int.emod_self] at e; omega
  have na : (a - 1) % r ≠ a := fun e => nx a0 a1 hr ((mod_succ (i := a) a0 a1 a0 a1).mpr e.symm)
  have nb : (b - 1) % c ≠ b := fun e => nx b0 b1 hc ((mod_succ (i := b) b0 b1 b0 b1).mpr e.symm)
  have row := fun i : Nat => fun hi : (i : Int) < r => enRow_diff (r := r) (c := c) (i := (i : Int)) (l := l) (m := m) (b := b) (b1 := (b - 1) % c)
    (X := if (i : Int) = a then -2 * enI r c l a b else if (i : Int) = (a - 1) % r then -2 * (spinF r c l (a - 1) b * spinF r c l a b) else 0)
    (Y := if (i : Int) = a then -2 * (spinF r c l a (b - 1) * spinF r c l a b) else 0) b0 q0 c.toNat (fun k hk => by
      have k1 : (k : Int) < c := by omega
      have e0 := sp (i : Int) (k : Int)
      have e1 := sp (i : Int) ((k : Int) + 1)
      have e2 := sp ((i : Int) + 1) (k : Int)
      rw [Int.emod_eq_of_lt (show 0 ≤ (i : Int) by omega) hi] at e0 e1
      rw [Int.emod_eq_of_lt (show 0 ≤ (k : Int) by omega) k1] at e0 e2
      have m1 := mod_succ (i := (i : Int)) (r := r) (by omega) hi a0 a1
      have m2 := mod_succ (i := (k : Int)) (r := c) (by omega) k1 b0 b1
      unfold enI
      rw [e0, e1, e2]
      by_cases g1 : (i : Int) = a
      · have g2 : ¬ (i : Int) = (a - 1) % r := by omega
        have g5 : ¬ ((i : Int) + 1) % r = a := fun x => g2 (m1.mp x)
        by_cases g3 : (k : Int) = b
        · have g4 : ¬ (k : Int) = (b - 1) % c := by omega
          have g6 : ¬ ((k : Int) + 1) % c = b := fun x => g4 (m2.mp x)
          rw [if_pos ⟨g1, g3⟩, if_neg (fun x => g6 x.2), if_neg (fun x => g5 x.1), if_pos g3, if_neg g4, if_pos g1, g1, g3]
          generalize spinF r c l a b = s
          generalize spinF r c l a (b + 1) + spinF r c l (a + 1) b = t
          rw [Int.neg_mul]; omega
        · by_cases g4 : (k : Int) = (b - 1) % c
          · have g6 : ((k : Int) + 1) % c = b := m2.mpr g4
            rw [if_neg (fun x => g3 x.2), if_pos ⟨g1, g6⟩, if_neg (fun x => g5 x.1), if_neg g3, if_pos g4, if_pos g1]
            have z1 : spinF r c l (i : Int) ((k : Int) + 1) = spinF r c l a b := by rw [← (spinF_mod (i : Int) ((k : Int) + 1)).2, g6, g1]
            have z2 : spinF r c l (i : Int) (k : Int) = spinF r c l a (b - 1) := by rw [g4, (spinF_mod _ _).2, g1]
            rw [z1, z2]
            generalize spinF r c l a b = s
            generalize spinF r c l a (b - 1) = t
            generalize spinF r c l ((i : Int) + 1) (k : Int) = u
            rw [Int.mul_add, Int.mul_add, Int.mul_neg]; omega
          · have g6 : ¬ ((k : Int) + 1) % c = b := fun x => g4 (m2.mp x)
            rw [if_neg (fun x => g3 x.2), if_neg (fun x => g6 x.2), if_neg (fun x => g5 x.1), if_neg g3, if_neg g4]; omega
      · by_cases g2 : (i : Int) = (a - 1) % r
        · have g5 : ((i : Int) + 1) % r = a := m1.mpr g2
          by_cases g3 : (k : Int) = b
          · rw [if_neg (fun x => g1 x.1), if_neg (fun x => g1 x.1), if_pos ⟨g5, g3⟩, if_pos g3, if_neg g1, if_pos g2]
            have z1 : spinF r c l ((i : Int) + 1) (k : Int) = spinF r c l a b := by rw [← (spinF_mod ((i : Int) + 1) (k : Int)).1, g5, g3]
            have z2 : spinF r c l (i : Int) (k : Int) = spinF r c l (a - 1) b := by rw [g2, (spinF_mod _ _).1, g3]
            rw [z1, z2]
            generalize spinF r c l a b = s
            generalize spinF r c l (a - 1) b = t
            generalize spinF r c l (i : Int) ((k : Int) + 1) = u
            have w : (if (k : Int) = (b - 1) % c then (if (i : Int) = a then -2 * (spinF r c l a (b - 1) * s) else 0) else 0) = 0 := by rw [if_neg g1]; split <;> rfl
            rw [if_neg g1]
            rw [Int.mul_add, Int.mul_add, Int.mul_neg]; split <;> omega
          · rw [if_neg (fun x => g1 x.1), if_neg (fun x => g1 x.1), if_neg (fun x => g3 x.2), if_neg g3, if_neg g1]; split <;> omega
        · have g5 : ¬ ((i : Int) + 1) % r = a := fun x => g2 (m1.mp x)
          rw [if_neg (fun x => g1 x.1), if_neg (fun x => g1 x.1), if_neg (fun x => g5 x.1), if_neg g1, if_neg g1, if_neg g2]; split <;> split <;> omega)
  have all := enAll_diff (r := r) (c := c) (a := a) (a1 := (a - 1) % r) (l := l) (m := m) (X := -2 * enI r c l a b) (Y := -2 * (spinF r c l a (b - 1) * spinF r c l a b)) (Z := -2 * (spinF r c l (a - 1) b * spinF r c l a b)) a0 p0 r.toNat (fun i hi => by
    rw [row i (by omega), if_pos (show b < ((c.toNat : Nat) : Int) by omega), if_pos (show (b - 1) % c < ((c.toNat : Nat) : Int) by omega)]
    by_cases g1 : (i : Int) = a
    · have g2 : ¬ (i : Int) = (a - 1) % r := by omega
      simp only [if_pos g1, if_neg g2]; omega
    · by_cases g2 : (i : Int) = (a - 1) % r
      · simp only [if_neg g1, if_pos g2]; omega
      · simp only [if_neg g1, if_neg g2])
  rw [all, if_pos (show a < ((r.toNat : Nat) : Int) by omega), if_pos (show (a - 1) % r < ((r.toNat : Nat) : Int) by omega)]
  unfold enI
  generalize spinF r c l a b = s
  generalize spinF r c l a (b + 1) = t1
  generalize spinF r c l (a + 1) b = t2
  generalize spinF r c l (a - 1) b = t3
  generalize spinF r c l a (b - 1) = t4
  rw [Int.mul_comm t4 s, Int.mul_comm t3 s, Int.mul_assoc]
  simp only [Int.mul_add]
  omega
/-- A cold sweep never raises the energy. -/
theorem cold_le {r c : Int} {l : List Int} (h : fieldN 1 r c l) (hr : 2 ≤ r) (hc : 2 ≤ c) : ∀ n : Nat, (n : Int) ≤ r * c → energy r c (swS false r c l n) ≤ energy r c l
  | 0, _ => Int.le_refl _
  | n + 1, hn => by
    have ih := cold_le h hr hc n (by omega)
    by_cases g : false = true ∨ swD r c (swS false r c l n) n ≤ 0
    · rw [swS_yes g, en_set (swS_field h n (by omega)) (by omega) hr hc]
      rcases g with g | g
      · exact absurd g (by simp)
      · omega
    · rw [swS_no g]; exact ih
/-- A hot sweep turns each spin. -/
theorem hot_at {r c : Int} {l : List Int} (h : fieldN 1 r c l) : ∀ (n : Nat), (n : Int) ≤ r * c → ∀ j : Nat, (j : Int) < r * c → at_ 0 (swS true r c l n) (j : Int) = if j < n then 1 - at_ 0 l (j : Int) else at_ 0 l (j : Int)
  | 0, _, j, _ => by rw [if_neg (by omega)]; rfl
  | n + 1, hn, j, hj => by
    have ih := hot_at h n (by omega) j hj
    have ihn := hot_at h n (by omega) n (by omega)
    have f := swS_field (hot := true) h n (by omega)
    have fl := f.2.1
    rw [swS_yes (Or.inl rfl), at_setS (by omega)]
    by_cases e : n = j
    · subst e; rw [if_pos rfl, if_pos (by omega), ihn, if_neg (by omega)]
    · rw [if_neg e, ih]
      by_cases g : j < n
      · rw [if_pos g, if_pos (by omega)]
      · rw [if_neg g, if_neg (by omega)]
/-- The opposite spins. -/
def oppL (l : List Int) : List Int := l.map (fun x => 1 - x)
theorem opp_field {r c : Int} {l : List Int} (h : fieldN 1 r c l) : fieldN 1 r c (oppL l) := by
  refine ⟨h.1, by unfold oppL; rw [List.length_map]; exact h.2.1, fun x hx => ?_⟩
  obtain ⟨y, hy, rfl⟩ := List.mem_map.mp hx
  have := h.2.2 y hy; omega
theorem opp_spin {r c : Int} {l : List Int} (h : fieldN 1 r c l) (i k : Int) : spinF r c (oppL l) i k = - spinF r c l i k := by
  have b := roundF_lt (i := i) (k := k) h.1
  have hl := h.2.1
  unfold spinF
  obtain ⟨j, hj⟩ := Int.eq_ofNat_of_zero_le b.2.2.2.2.2.2.1
  rw [hj, at_eq 0 l (i := j) (by omega), at_eq 0 _ (i := j) (by unfold oppL; rw [List.length_map]; omega)]
  simp only [oppL, List.getElem_map]; omega
theorem enRow_same {r c i : Int} {l m : List Int} (h : ∀ i k, enI r c m i k = enI r c l i k) : ∀ n, enRow r c m i n = enRow r c l i n
  | 0 => rfl
  | n + 1 => by simp only [enRow, enRow_same h n, h]
theorem enAll_same {r c : Int} {l m : List Int} (h : ∀ i k, enI r c m i k = enI r c l i k) : ∀ n, enAll r c m n = enAll r c l n
  | 0 => rfl
  | n + 1 => by simp only [enAll, enAll_same h n, enRow_same h]
theorem opp_en {r c : Int} {l : List Int} (h : fieldN 1 r c l) : energy r c (oppL l) = energy r c l := by
  unfold energy
  rw [if_pos h, if_pos (opp_field h)]
  refine enAll_same (fun i k => ?_) _
  unfold enI
  rw [opp_spin h, opp_spin h, opp_spin h, ← Int.neg_add, Int.neg_mul_neg]
theorem calm_row {r c i : Int} {l : List Int} (h : ∀ i k, enI r c l i k = 2) : ∀ n : Nat, enRow r c l i n = -2 * n
  | 0 => rfl
  | n + 1 => by simp only [enRow, calm_row h n, h]; omega
theorem calm_all {r c : Int} {l : List Int} (h : ∀ i k, enI r c l i k = 2) : ∀ n : Nat, enAll r c l n = -2 * (n * c.toNat : Nat)
  | 0 => by simp [enAll]
  | n + 1 => by simp only [enAll, calm_all h n, calm_row h]; rw [Nat.add_mul]; omega
theorem calm_en {r c : Int} {l : List Int} (h : fieldN 1 r c l) (h0 : ∀ x ∈ l, x = 0) : energy r c l = -2 * (r * c) := by
  unfold energy
  rw [if_pos h, calm_all]
  · have := h.1.1; have := h.1.2
    rw [Int.natCast_mul, Int.toNat_of_nonneg (by omega), Int.toNat_of_nonneg (by omega)]
  · intro i k
    have s : ∀ i k, spinF r c l i k = -1 := fun i k => by
      have b := roundF_lt (i := i) (k := k) h.1
      unfold spinF
      rw [h0 _ (at_mem 0 l b.2.2.2.2.2.2.1 (by rw [h.2.1]; exact b.2.2.2.2.2.2.2))]; rfl
    unfold enI
    rw [s, s, s]; rfl
theorem enAll_two {r c : Int} {l : List Int} (h : fieldN 1 r c l) : ∀ n : Nat, -(2 * (n * c.toNat : Nat) : Int) ≤ enAll r c l n ∧ enAll r c l n ≤ 2 * (n * c.toNat : Nat)
  | 0 => by simp [enAll]
  | n + 1 => by
    have a := enAll_two h n
    have b := enRow_le h (n : Int) c.toNat
    simp only [enAll]
    rw [Nat.add_mul]; omega
theorem en_bnd {r c : Int} {l : List Int} (h : fieldN 1 r c l) : -2 * (r * c) ≤ energy r c l ∧ energy r c l ≤ 2 * (r * c) := by
  unfold energy
  rw [if_pos h]
  have := enAll_two h r.toNat
  have q1 := h.1.1; have q2 := h.1.2
  rw [Int.natCast_mul, Int.toNat_of_nonneg (by omega), Int.toNat_of_nonneg (by omega)] at this
  omega
end Go.Proofs.Ytkehomlkgcfjnaa
