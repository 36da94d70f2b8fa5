/- Numbers with a point: NaNs, what is the same, and single numbers told as double ones. -/
import Derived.Test.YtkehomlkgcfjnaaSG
namespace Go.Proofs.Ytkehomlkgcfjnaa.HL
open Ieee
set_option maxRecDepth 100000
def nanB (k : FloatKind) (x : Nat) : Bool := (k.format.read x).isNaN
theorem read_hi {f : Format} {w : Nat} (h0 : f.binade ≤ f.infRung) (h : f.infRung < w % f.signWeight) : (f.read w).isNaN = true := by
  unfold Format.read
  simp only
  rw [if_neg (by omega), if_neg (by omega), if_neg (by omega)]
  rfl
theorem single_inf : single.infRung = 2139095040 := by decide
theorem single_sw : single.signWeight = 2147483648 := by decide
theorem single_bin : single.binade = 8388608 := by decide
theorem double_inf : double.infRung = 9218868437227405312 := by decide
theorem double_sw : double.signWeight = 9223372036854775808 := by decide
theorem double_bin : double.binade = 4503599627370496 := by decide
theorem hi_mod {s r m : Nat} (h : r < m) : (s * m + r) % m = r := by rw [Nat.add_comm, Nat.add_mul_mod_self_right, Nat.mod_eq_of_lt h]
theorem hi32 (t : Nat) : 2139095040 < (t % 2 * 2147483648 + 2139095040 + 1 + t / 2 % 8388607) % 2147483648 := by
  rw [show t % 2 * 2147483648 + 2139095040 + 1 + t / 2 % 8388607 = t % 2 * 2147483648 + (2139095041 + t / 2 % 8388607) by omega, hi_mod (by omega)]; omega
theorem hi64 (t : Nat) : 9218868437227405312 < (t % 2 * 9223372036854775808 + 9218868437227405312 + 1 + t / 2 % 4503599627370495) % 9223372036854775808 := by
  rw [show t % 2 * 9223372036854775808 + 9218868437227405312 + 1 + t / 2 % 4503599627370495 = t % 2 * 9223372036854775808 + (9218868437227405313 + t / 2 % 4503599627370495) by omega, hi_mod (by omega)]; omega
theorem nan_bits32 (a b t : Nat) : nanB .f32 ((Question.nanBits .f32 a b).cut t) = true := by
  refine read_hi (f := single) (by decide) ?_
  rw [single_inf, single_sw]
  exact hi32 t
theorem nan_bits64 (a b t : Nat) : nanB .f64 ((Question.nanBits .f64 a b).cut t) = true := by
  refine read_hi (f := double) (by decide) ?_
  rw [double_inf, double_sw]
  exact hi64 t
theorem nan_conv64 (b t : Nat) : nanB .f64 ((Question.nanConv .f64 b).cut t) = true := by
  refine read_hi (f := double) (by decide) ?_
  rw [double_inf, double_sw]
  exact hi64 t
theorem order_nan {k : FloatKind} {x y : Nat} (h : nanB k x = true) : k.format.order x y = none := by
  unfold nanB at h
  unfold Format.order
  cases hd : k.format.read x <;> simp only [hd, Datum.isNaN] at h
  · simp at h
  · simp at h
  · cases k.format.read y <;> rfl
theorem order_self {k : FloatKind} {x : Nat} (h : nanB k x = false) : k.format.order x x = some .eq := by
  unfold nanB at h
  unfold Format.order
  cases hd : k.format.read x <;> simp only [hd, Datum.isNaN] at h
  · simp [Datum.order]
  · simp [Datum.order]
  · simp at h
theorem vFcmp_neq (k : FloatKind) (x y : Nat) : vFcmp .neq (.float k x) (.float k y) = some (.bool (k.format.order x y != some .eq)) := by simp [vFcmp]
theorem vFcmp_eql (k : FloatKind) (x y : Nat) : vFcmp .eql (.float k x) (.float k y) = some (.bool (k.format.order x y == some .eq)) := by simp [vFcmp]
theorem vFcmp_gtr (k : FloatKind) (x y : Nat) : vFcmp .gtr (.float k x) (.float k y) = some (.bool (k.format.order x y == some .gt)) := by simp [vFcmp]
/-- What an operation with an outcome, or none, hands back. -/
def FR (k : FloatKind) (o : Option Nat) (x : Nat) : Prop := match o with | some r => x = r | none => nanB k x = true
theorem fA_i {op : BinOp} {k : FloatKind} {x y : Nat} {o : Option Nat} {H : Hp} {K : Value → Hp → Prop} (h : fRes op k x y = some o) (hn : ∀ t, nanB k ((Question.nanBits k x y).cut t) = true) (hk : ∀ z, FR k o z → K (.float k z) H) : fA op (.float k x) (.float k y) H K := by
  refine ⟨rfl, ?_⟩
  rw [h]
  cases o with
  | some r => exact hk r rfl
  | none => exact fun t => hk _ (hn t)
/-- Two double numbers that count as the same. -/
def same64 (a b : Nat) : Prop := (nanB .f64 a = false ∧ a = b) ∨ (nanB .f64 a = true ∧ nanB .f64 b = true)
theorem min_lt (q s : Nat) (hq : q ≤ 1149) (hs : s < 9007199254740992) : min (q * 4503599627370496 + s) 9218868437227405312 < 9218868437227405312 := Nat.lt_of_le_of_lt (Nat.min_le_left _ _) (by omega)
theorem wide_fin {m : Nat} {e : Int} (g : Bool) (hm : m < 16777216) (h0 : -149 ≤ e) (h1 : e ≤ 104) : (double.read (double.write (.number g m e))).isInfinity = false ∧ (double.read (double.write (.number g m e))).isNaN = false := by
  have key : ∀ w, w % double.signWeight < double.infRung → (double.read w).isInfinity = false ∧ (double.read w).isNaN = false := by
    intro w hw
    unfold Format.read
    simp only
    split
    · exact ⟨rfl, rfl⟩
    · exact ⟨rfl, rfl⟩
  have wd : ∀ r, r < double.infRung → double.word g r % double.signWeight < double.infRung := by
    intro r hr
    rw [double_inf] at hr
    unfold Format.word
    rw [double_inf, double_sw]
    cases g <;> simp <;> omega
  refine key _ ?_
  unfold Format.write Format.nearest
  simp only
  split
  · exact wd _ (by rw [double_inf]; omega)
  · rename_i hm0
    refine wd _ ?_
    have hl : m.log2 ≤ 23 := by
      have := Nat.log2_lt (n := m) (k := 24) hm0
      have : m.log2 < 24 := this.mpr (by omega)
      omega
    have hlm : m < 2 ^ (m.log2 + 1) := Nat.lt_log2_self
    have hfb : (double.fractionBits : Int) = 52 := rfl
    have hlp : double.leastPlace = -1074 := by decide
    rw [hlp, hfb]
    obtain ⟨last, hlast⟩ : ∃ last : Int, last = max (e + m.log2 - 52) (-1074) := ⟨_, rfl⟩
    rw [← hlast]
    have b1 : last ≤ e := by omega
    have b2 : last - e ≤ 0 := by omega
    have b3 : (last - e).toNat = 0 := by omega
    have b4 : (e - last).toNat + m.log2 ≤ 52 := by omega
    rw [b3]
    have cut0 : ∀ n, Toward.even.cut g n 0 = n := by
      intro n
      unfold Toward.cut
      simp [Nat.mod_one]
    rw [cut0]
    have k1 : m <<< (e - last).toNat < 9007199254740992 := by
      rw [Nat.shiftLeft_eq]
      have h2 : m * 2 ^ (e - last).toNat < 2 ^ (m.log2 + 1) * 2 ^ (e - last).toNat := Nat.mul_lt_mul_of_pos_right hlm (Nat.pow_pos (by omega))
      rw [← Nat.pow_add] at h2
      have h3 : 2 ^ (m.log2 + 1 + (e - last).toNat) ≤ 2 ^ 53 := Nat.pow_le_pow_right (by omega) (by omega)
      have h4 : (2 : Nat) ^ 53 = 9007199254740992 := by decide
      exact Nat.lt_of_lt_of_le h2 (h4 ▸ h3)
    have k2 : (last - -1074).toNat ≤ 1149 := by omega
    rw [double_bin, double_inf]
    exact min_lt _ _ k2 k1
theorem read_single {x : Nat} {g : Bool} {m : Nat} {e : Int} (h : single.read x = .number g m e) : m < 16777216 ∧ -149 ≤ e ∧ e ≤ 104 := by
  have hlp : single.leastPlace = -149 := by decide
  unfold Format.read at h
  simp only [single_bin, single_inf, single_sw, hlp] at h
  split at h
  · simp only [Datum.number.injEq] at h
    obtain ⟨_, h2, h3⟩ := h
    omega
  · split at h
    · simp only [Datum.number.injEq] at h
      obtain ⟨_, h2, h3⟩ := h
      omega
    · split at h <;> simp at h
/-- A single number's double one. -/
def wide (x : Nat) : Nat := double.write (single.read x)
theorem inf_nan (g : Bool) : (double.read (double.write (.infinity g))).isNaN = false := by
  have e : double.write (.infinity g) % double.signWeight = double.infRung := by
    unfold Format.write Format.word
    rw [double_inf, double_sw]
    cases g <;> simp
  unfold Format.read
  simp only [e]
  rw [if_neg (by rw [double_inf, double_bin]; omega), if_neg (by omega), if_pos trivial]
  rfl
/-- The conversion, told by the number's reading. -/
def fCd (x : Nat) (d : Datum) (H : Hp) (K : Value → Hp → Prop) : Prop :=
  match d with
  | .nan _ _ => ∀ t, K (.float .f64 ((Question.nanConv .f64 x).cut t)) H
  | .infinity g => K (.float .f64 (double.write (.infinity g))) H
  | .number g m e => if (double.read (double.write (.number g m e))).isInfinity then ∀ t, K (.float .f64 ((Question.floatToFloat x).cut t)) H else K (.float .f64 (double.write (.number g m e))) H
theorem fC_eq (x : Nat) (H : Hp) (K : Value → Hp → Prop) : fC .f64 (.float .f32 x) H K = fCd x (single.read x) H K := by
  unfold fC fCd
  simp only
  rw [if_neg (by decide)]
  show (match FloatKind.f32.decode x with | .nan _ _ => _ | .infinity g => _ | .number g m e => _) = _
  rw [show FloatKind.f32.decode x = single.read x from rfl]
  cases single.read x <;> rfl
theorem fC_i {x : Nat} {H : Hp} {K : Value → Hp → Prop} (h1 : nanB .f32 x = false → nanB .f64 (wide x) = false → K (.float .f64 (wide x)) H) (h2 : nanB .f32 x = true → ∀ a, nanB .f64 a = true → K (.float .f64 a) H) : fC .f64 (.float .f32 x) H K := by
  rw [fC_eq]
  have e1 : nanB .f32 x = (single.read x).isNaN := rfl
  have e2 : ∀ w, nanB .f64 w = (double.read w).isNaN := fun _ => rfl
  rw [e1, e2] at h1
  rw [e1] at h2
  unfold wide at h1
  cases hr : single.read x with
  | nan s f =>
    rw [hr] at h2
    exact fun t => h2 rfl _ (nan_conv64 x t)
  | infinity g =>
    rw [hr] at h1
    exact h1 rfl (inf_nan g)
  | number g m e =>
    rw [hr] at h1
    obtain ⟨a1, a2, a3⟩ := read_single hr
    have w := wide_fin g a1 a2 a3
    unfold fCd
    simp only [w.1]
    rw [if_neg (by simp)]
    exact h1 rfl w.2
/-- Two single numbers that come of one outcome, told as double ones. -/
theorem fC_pair {o : Option Nat} {x y : Nat} {H : Hp} {K : Value → Value → Hp → Prop} (hx : FR .f32 o x) (hy : FR .f32 o y) (hk : ∀ a b, same64 a b → K (.float .f64 a) (.float .f64 b) H) :
    fC .f64 (.float .f32 x) H (fun u H1 => fC .f64 (.float .f32 y) H1 (fun v H2 => K u v H2)) := by
  have hn : nanB .f32 x = nanB .f32 y := by
    cases o with
    | some r => simp only [FR] at hx hy; rw [hx, hy]
    | none => simp only [FR] at hx hy; rw [hx, hy]
  refine fC_i (fun h1 h2 => ?_) (fun h1 a ha => ?_)
  · refine fC_i (fun h3 h4 => ?_) (fun h3 b hb => ?_)
    · have : x = y := by
        cases o with
        | some r => simp only [FR] at hx hy; rw [hx, hy]
        | none => simp only [FR] at hx; rw [hx] at h1; simp at h1
      subst this
      exact hk _ _ (.inl ⟨h2, rfl⟩)
    · rw [hn, h3] at h1; simp at h1
  · refine fC_i (fun h3 h4 => ?_) (fun h3 b hb => ?_)
    · rw [← hn, h1] at h3; simp at h3
    · exact hk _ _ (.inr ⟨ha, hb⟩)
end Go.Proofs.Ytkehomlkgcfjnaa.HL
namespace Go.Proofs.Ytkehomlkgcfjnaa
open HL
set_option maxRecDepth 100000
end Go.Proofs.Ytkehomlkgcfjnaa
