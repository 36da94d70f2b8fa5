/- Which flows are the same: by their numbers' bits, and by order and sign. -/
import Derived.Test.YtcjamajenfgddaaFD
namespace Go.Proofs.Ytcjamajenfgddaa.HL
open Ieee
set_option maxRecDepth 100000
theorem single_bin8 : single.binade = 8388608 := by decide
theorem single_lp : single.leastPlace = -149 := by decide
theorem read_num {x : Nat} (h : x < 4294967296) (hn : nanB .f32 x = false) :
    (∃ m e, single.read x = .number (decide (2147483648 ≤ x)) m e ∧ ((e = -149 ∧ m < 8388608) ∨ (-149 < e + 1 ∧ 8388608 ≤ m ∧ m < 16777216)) ∧ (x : Int) = (if 2147483648 ≤ x then 2147483648 else 0) + (e + 149) * 8388608 + m) ∨
    (single.read x = .infinity (decide (2147483648 ≤ x)) ∧ x = (if 2147483648 ≤ x then 2147483648 else 0) + 2139095040) := by
  have hn' : (single.read x).isNaN = false := hn
  have sg : (x / 2147483648 % 2 == 1) = decide (2147483648 ≤ x) := by
    by_cases c : 2147483648 ≤ x
    · rw [decide_eq_true c, show x / 2147483648 = 1 by omega]; rfl
    · rw [decide_eq_false c, show x / 2147483648 = 0 by omega]; rfl
  have md : x = (if 2147483648 ≤ x then 2147483648 else 0) + x % 2147483648 := by split <;> omega
  unfold Format.read at hn' ⊢
  simp only [single_bin, single_inf, single_sw, single_lp, sg] at hn' ⊢
  by_cases c1 : x % 2147483648 < 8388608
  · rw [if_pos c1]
    refine .inl ⟨_, _, rfl, .inl ⟨rfl, c1⟩, ?_⟩
    split at md <;> omega
  · rw [if_neg c1] at hn' ⊢
    by_cases c2 : x % 2147483648 < 2139095040
    · rw [if_pos c2]
      refine .inl ⟨_, _, rfl, .inr ⟨by omega, by omega, by omega⟩, ?_⟩
      split at md <;> omega
    · rw [if_neg c2] at hn' ⊢
      by_cases c3 : x % 2147483648 = 2139095040
      · rw [if_pos c3]
        refine .inr ⟨rfl, ?_⟩
        rw [c3] at md; exact md
      · rw [if_neg c3] at hn'; simp [Datum.isNaN] at hn'
theorem shl_eq {m n : Nat} {i j : Int} (hm : (i = -149 ∧ m < 8388608) ∨ (-149 < i + 1 ∧ 8388608 ≤ m ∧ m < 16777216)) (hn : (j = -149 ∧ n < 8388608) ∨ (-149 < j + 1 ∧ 8388608 ≤ n ∧ n < 16777216)) (hij : i ≤ j)
    (h : m <<< (i - min i j).toNat = n <<< (j - min i j).toNat) : m = n ∧ i = j := by
  rw [show min i j = i by omega, show (i - i).toNat = 0 by omega, Nat.shiftLeft_zero, Nat.shiftLeft_eq] at h
  by_cases c : i = j
  · subst c
    rw [show (i - i).toNat = 0 by omega] at h
    exact ⟨by omega, rfl⟩
  · exfalso
    obtain ⟨k, hk⟩ : ∃ k, (j - i).toNat = k + 1 := ⟨(j - i).toNat - 1, by omega⟩
    rw [hk, Nat.pow_succ] at h
    have hp : 1 ≤ 2 ^ k := Nat.pow_pos (by omega)
    have hq : n * 1 ≤ n * 2 ^ k := Nat.mul_le_mul_left n hp
    have : n * (2 ^ k * 2) = n * 2 ^ k * 2 := by rw [Nat.mul_assoc]
    omega
theorem cmp_eq {a b : Int} (h : compare a b = .eq) : a = b := by simpa using h
theorem order_eq_same {a b : Nat} (ha : a < 4294967296) (hb : b < 4294967296) (na : nanB .f32 a = false) (nb : nanB .f32 b = false) (ho : FloatKind.f32.format.order a b = some .eq) (hs : decide (2147483648 ≤ a) = decide (2147483648 ≤ b)) : a = b := by
  have ho' : (single.read a).order (single.read b) = some .eq := ho
  have hs' : (2147483648 ≤ a) ↔ (2147483648 ≤ b) := decide_eq_decide.mp hs
  rcases read_num ha na with ⟨m, i, ra, hm, ea⟩ | ⟨ra, ea⟩ <;> rcases read_num hb nb with ⟨n, j, rb, hn, eb⟩ | ⟨rb, eb⟩ <;> rw [ra, rb] at ho'
  · have ho2 : some (compare (signed (decide (2147483648 ≤ a)) m (i - min i j).toNat) (signed (decide (2147483648 ≤ b)) n (j - min i j).toNat)) = some .eq := ho'
    rw [Option.some.injEq] at ho2
    have h1 := cmp_eq ho2
    rw [← hs] at h1
    have h2 : m <<< (i - min i j).toNat = n <<< (j - min i j).toNat := by
      unfold signed at h1
      split at h1 <;> omega
    have h3 : m = n ∧ i = j := by
      rcases Int.le_total i j with hij | hij
      · exact shl_eq hm hn hij h2
      · rw [Int.min_comm] at h2
        have := shl_eq hn hm hij h2.symm
        exact ⟨this.1.symm, this.2.symm⟩
    obtain ⟨rfl, rfl⟩ := h3
    by_cases c : 2147483648 ≤ a
    · rw [if_pos c] at ea; rw [if_pos (hs'.mp c)] at eb; omega
    · rw [if_neg c] at ea; rw [if_neg (fun h => c (hs'.mpr h))] at eb; omega
  · have ho2 : some (if decide (2147483648 ≤ b) then Ordering.gt else .lt) = some .eq := ho'
    cases hd : decide (2147483648 ≤ b) <;> rw [hd] at ho2 <;> simp at ho2
  · have ho2 : some (if decide (2147483648 ≤ a) then Ordering.lt else .gt) = some .eq := ho'
    cases hd : decide (2147483648 ≤ a) <;> rw [hd] at ho2 <;> simp at ho2
  · by_cases c : 2147483648 ≤ a
    · rw [if_pos c] at ea; rw [if_pos (hs'.mp c)] at eb; omega
    · rw [if_neg c] at ea; rw [if_neg (fun h => c (hs'.mpr h))] at eb; omega
theorem word_sign {g : Bool} {r : Nat} (h : r ≤ double.infRung) : double.word g r < 18446744073709551616 ∧ decide (9223372036854775808 ≤ double.word g r) = g := by
  rw [double_inf] at h
  unfold Format.word
  rw [double_sw]
  cases g
  · simp only [Bool.false_eq_true, if_false]; exact ⟨by omega, decide_eq_false (by omega)⟩
  · simp only [if_true]; exact ⟨by omega, decide_eq_true (by omega)⟩
theorem nearest_word (g : Bool) (m : Nat) (e : Int) : ∃ r, r ≤ double.infRung ∧ double.nearest g m e = double.word g r := by
  unfold Format.nearest
  simp only
  split
  · exact ⟨0, by omega, rfl⟩
  · exact ⟨_, Nat.min_le_right _ _, rfl⟩
theorem wide_sign {x : Nat} (h : x < 4294967296) (hn : nanB .f32 x = false) : wide x < 18446744073709551616 ∧ decide (9223372036854775808 ≤ wide x) = decide (2147483648 ≤ x) := by
  unfold wide
  rcases read_num h hn with ⟨m, e, r, _⟩ | ⟨r, _⟩ <;> rw [r]
  · obtain ⟨q, hq, e⟩ := nearest_word (decide (2147483648 ≤ x)) m e
    have : double.write (.number (decide (2147483648 ≤ x)) m ‹Int›) = double.word (decide (2147483648 ≤ x)) q := e
    rw [this]; exact word_sign hq
  · exact word_sign (Nat.le_refl _)
/-- A number by which it is told from others. -/
def key32 (x : Nat) : Nat := if nanB .f32 x = true then 2143289344 else x
theorem key_nan : nanB .f32 2143289344 = true := by decide
theorem key_t {x : Nat} (h : nanB .f32 x = true) : key32 x = 2143289344 := if_pos h
theorem key_f {x : Nat} (h : nanB .f32 x = false) : key32 x = x := if_neg (by rw [h]; simp)
theorem key_ne {x y : Nat} (h : nanB .f32 x = true) (h' : nanB .f32 y = false) : key32 x ≠ key32 y := by
  rw [key_t h, key_f h']; rintro rfl; rw [key_nan] at h'; simp at h'
theorem vFcmp_self (k : FloatKind) (x : Nat) : vFcmp .neq (.float k x) (.float k x) = some (.bool (nanB k x)) := by
  rw [vFcmp_neq]
  cases h : nanB k x
  · rw [order_self h]; rfl
  · rw [order_nan h]; rfl
theorem wrap_sign {n : Nat} (h : n < 18446744073709551616) : decide (IntKind.i64.wrap (n : Int) < 0) = decide (9223372036854775808 ≤ n) := by
  apply decide_eq_decide.mpr
  simp [IntKind.wrap, IntKind.signed, IntKind.bits]
  omega
end Go.Proofs.Ytcjamajenfgddaa.HL
namespace Go.Proofs.Ytcjamajenfgddaa
open HL
set_option maxRecDepth 100000
def sameFlow (r1 c1 : Int) (l1 : List Nat) (m1 : List Bool) (r2 c2 : Int) (l2 : List Nat) (m2 : List Bool) : Prop := r1 = r2 ∧ c1 = c2 ∧ m1 = m2 ∧ l1.map key32 = l2.map key32
instance (r1 c1 : Int) (l1 : List Nat) (m1 : List Bool) (r2 c2 : Int) (l2 : List Nat) (m2 : List Bool) : Decidable (sameFlow r1 c1 l1 m1 r2 c2 l2 m2) := by unfold sameFlow; infer_instance
theorem C.spec_l01Bits {x : Nat} {H : Hp} {K : Value → Hp → Prop} (h : x < 4294967296) (hk : K (.int .i64 (key32 x)) H) : HT prg I.spec_l01Bits [.float .f32 x].toArray H K := by
  refine R.spec_l01Bits ?_
  unfold F.spec_l01Bits
  rw [vFcmp_self, ob_some]
  refine cnd_i (fun hn => ?_) (fun hn => ?_)
  · rw [key_t hn] at hk; exact hk
  · rw [key_f hn] at hk
    have e : hp prg (callFunc I.math_Float32bits [Value.float .f32 x].toArray) H (nextH prg (fun v7x2 H3 => ob (vCI .i64 v7x2) fun v8x4 => K v8x4 H3)) = ob (vCI .i64 (.int .u32 x)) fun v8x4 => K v8x4 H := by kernel_rfl
    rw [e, vCI_64 _ (by omega) (by omega), ob_some]
    exact hk
theorem C.spec_l01Same {x y : Nat} {H : Hp} {K : Value → Hp → Prop} (h : x < 4294967296) (h' : y < 4294967296) (hk : K (.bool (decide (key32 x = key32 y))) H) : HT prg I.spec_l01Same [.float .f32 x, .float .f32 y].toArray H K := by
  refine R.spec_l01Same ?_
  unfold F.spec_l01Same
  refine C.spec_l01Bits h ?_
  refine C.spec_l01Bits h' ?_
  rw [vInt_eql, ob_some]
  exact kQ (K := K) hk ⟨fun e => by rw [e], fun e => by omega⟩
theorem C.math_Signbit {x : Nat} {H : Hp} {K : Value → Hp → Prop} (h : x < 18446744073709551616) (hk : K (.bool (decide (9223372036854775808 ≤ x))) H) : HT prg I.math_Signbit [.float .f64 x].toArray H K := by
  refine R.math_Signbit ?_
  unfold F.math_Signbit
  have e : hp prg (callFunc I.math_Float64bits [Value.float .f64 x].toArray) H (nextH prg (fun v4x1 H2 => ob (vCI .i64 v4x1) fun v5x3 => ob (vInt .lss v5x3 (.int .i64 0)) fun v6x4 => K v6x4 H2)) = ob (vCI .i64 (.int .u64 x)) fun v5x3 => ob (vInt .lss v5x3 (.int .i64 0)) fun v6x4 => K v6x4 H := by kernel_rfl
  rw [e]
  refine ob_i (a := .int .i64 (IntKind.i64.wrap x)) rfl ?_
  rw [vInt_lss, ob_some, wrap_sign h]
  exact hk
theorem C.impl_SameNumber {x y : Nat} {H : Hp} {K : Value → Hp → Prop} (h : x < 4294967296) (h' : y < 4294967296) (hk : K (.bool (decide (key32 x = key32 y))) H) : HT prg I.impl_SameNumber [.float .f32 x, .float .f32 y].toArray H K := by
  refine R.impl_SameNumber ?_
  unfold F.impl_SameNumber
  simp only [vFcmp_self, ob_some]
  cases nx : nanB .f32 x
  · simp only [EV, vFcmp_self]
    cases ny : nanB .f32 y
    · simp only [EV, vFcmp_eql]
      cases ho : (FloatKind.f32.format.order x y == some .eq)
      · simp only [EV]
        refine kF (K := K) hk (fun e => ?_)
        rw [key_f nx, key_f ny] at e
        subst e
        rw [order_self nx] at ho; simp at ho
      · simp only [EV]
        refine fC_i (fun _ _ => ?_) (fun h1 => by rw [nx] at h1; simp at h1)
        refine C.math_Signbit (wide_sign h nx).1 ?_
        refine fC_i (fun _ _ => ?_) (fun h1 => by rw [ny] at h1; simp at h1)
        refine C.math_Signbit (wide_sign h' ny).1 ?_
        rw [(wide_sign h nx).2, (wide_sign h' ny).2]
        simp only [vBool_eql, EV]
        have ho' : FloatKind.f32.format.order x y = some .eq := by simpa using ho
        rw [key_f nx, key_f ny] at hk
        cases hs : (decide (2147483648 ≤ x) == decide (2147483648 ≤ y))
        · refine kF (K := K) hk (fun e => ?_)
          subst e; simp at hs
        · exact kT (K := K) hk (order_eq_same h h' nx ny ho' (by simpa using hs))
    · simp only [EV]
      exact kF (K := K) hk (fun e => key_ne ny nx e.symm)
  · simp only [EV]
    cases ny : nanB .f32 y
    · simp only [vFcmp_self, ny, EV]
      exact kF (K := K) hk (fun e => key_ne nx ny e)
    · simp only [vFcmp_self, ny, EV]
      exact kT (K := K) hk (by rw [key_t nx, key_t ny])
theorem C.spec_l06Walls {a b : Value} {l m : List Bool} {H : Hp} {K : Value → Hp → Prop} (ha : Sl eB H a l) (hb : Sl eB H b m) (hl : l.length ≤ 9223372036854775807) (hk : K (.bool (decide (l = m))) H) :
    HT prg I.spec_l06Walls [a, b].toArray H K := by
  refine R.spec_l06Walls ?_
  unfold F.spec_l06Walls jn; dsimp only
  rw [ha.len, hb.len, ob_some, ob_some, vInt_neq, ob_some]
  refine cnd_d (fun hne => ?_) (fun heq => ?_)
  · rw [decide_eq_false] at hk
    · exact hk
    · rintro rfl; exact hne rfl
  · have hlen : l.length = m.length := by omega
    refine ⟨fun n σ H1 => ∃ i : Nat, n = l.length - i ∧ i ≤ l.length ∧ H1 = H ∧ σ 0 = a ∧ σ 1 = b ∧ σ 5 = .int .i64 i ∧ l.take i = m.take i,
      ⟨_, 0, rfl, by omega, rfl, rfl, rfl, rfl, by simp⟩, ?_⟩
    rintro n σ H1 ⟨i, rfl, hi', rfl, h0, h1, h5, hall⟩
    simp only [h0, h1, h5, ha.len, vInt_lss, ob_some]
    refine cnd_d (fun hlt => ?_) (fun hge => ?_)
    · have hlt' : i < l.length := by omega
      rw [ha.ix (by omega) hlt, ob_some, ha.ld false (by omega) hlt, ob_some, hb.ix (by omega) (by omega), ob_some, hb.ld false (by omega) (by omega), ob_some, vBool_neq, ob_some]
      refine cnd_i (fun hne => ?_) (fun heq => ?_)
      · refine retK (K := K) (v' := .bool false) rfl ?_
        rw [decide_eq_false] at hk
        · exact hk
        · rintro rfl; simp at hne
      · rw [vInt_add (by omega) (by omega), ob_some]
        refine nxt (l.length - (i + 1)) (by omega) ⟨i + 1, rfl, by omega, rfl, h0, h1, rfl, ?_⟩
        rw [take_at false l hlt', take_at false m (by omega), hall, show at_ false l (i : Int) = at_ false m (i : Int) by simpa using heq]
    · refine retK (K := K) (v' := .bool true) rfl ?_
      rw [List.take_of_length_le (by omega), List.take_of_length_le (by omega)] at hall
      rw [decide_eq_true hall] at hk
      exact hk
theorem C.slices_Equal_bool_bool {a b : Value} {l m : List Bool} {H : Hp} {K : Value → Hp → Prop} (ha : Sl eB H a l) (hb : Sl eB H b m) (hl : l.length ≤ 9223372036854775807) (hk : K (.bool (decide (l = m))) H) :
    HT prg I.slices_Equal_bool_bool [a, b].toArray H K := by
  refine R.slices_Equal_bool_bool ?_
  unfold F.slices_Equal_bool_bool jn; dsimp only
  rw [ha.len, hb.len, ob_some, ob_some, vInt_neq, ob_some]
  refine cnd_d (fun hne => ?_) (fun heq => ?_)
  · rw [decide_eq_false] at hk
    · exact hk
    · rintro rfl; exact hne rfl
  · have hlen : l.length = m.length := by omega
    rw [ob_some]
    refine ⟨fun n σ H1 => ∃ i : Nat, n = l.length - i ∧ i ≤ l.length ∧ H1 = H ∧ σ 0 = a ∧ σ 1 = b ∧ σ 13 = .int .i64 i ∧ σ 12 = .int .i64 l.length ∧ l.take i = m.take i,
      ⟨_, 0, rfl, by omega, rfl, rfl, rfl, rfl, rfl, by simp⟩, ?_⟩
    rintro n σ H1 ⟨i, rfl, hi', rfl, h0, h1, h5, h12, hall⟩
    simp only [h0, h1, h5, h12, vInt_lss, ob_some]
    refine cnd_d (fun hlt => ?_) (fun hge => ?_)
    · have hlt' : i < l.length := by omega
      rw [ha.ix (by omega) hlt, ob_some, ha.ld false (by omega) hlt, ob_some, hb.ix (by omega) (by omega), ob_some, hb.ld false (by omega) (by omega), ob_some, vBool_neq, ob_some]
      refine cnd_i (fun hne => ?_) (fun heq => ?_)
      · refine retK (K := K) (v' := .bool false) rfl ?_
        rw [decide_eq_false] at hk
        · exact hk
        · rintro rfl; simp at hne
      · rw [vInt_add (by omega) (by omega), ob_some]
        refine nxt (l.length - (i + 1)) (by omega) ⟨i + 1, rfl, by omega, rfl, h0, h1, rfl, h12, ?_⟩
        rw [take_at false l hlt', take_at false m (by omega), hall, show at_ false l (i : Int) = at_ false m (i : Int) by simpa using heq]
    · refine retK (K := K) (v' := .bool true) rfl ?_
      rw [List.take_of_length_le (by omega), List.take_of_length_le (by omega)] at hall
      rw [decide_eq_true hall] at hk
      exact hk
theorem C.spec_l01SameAll {a b : Value} {l m : List Nat} {H : Hp} {K : Value → Hp → Prop} (ha : Sl eF H a l) (hb : Sl eF H b m) (hl : l.length ≤ 9223372036854775807) (bl : ∀ x ∈ l, x < 4294967296) (bm : ∀ x ∈ m, x < 4294967296)
    (hk : K (.bool (decide (l.map key32 = m.map key32))) H) : HT prg I.spec_l01SameAll [a, b].toArray H K := by
  refine R.spec_l01SameAll ?_
  unfold F.spec_l01SameAll jn; dsimp only
  rw [ha.len, hb.len, ob_some, ob_some, vInt_neq, ob_some]
  refine cnd_d (fun hne => ?_) (fun heq => ?_)
  · rw [decide_eq_false] at hk
    · exact hk
    · intro e; have := congrArg List.length e; simp at this; omega
  · have hlen : l.length = m.length := by omega
    refine ⟨fun n σ H1 => ∃ i : Nat, n = l.length - i ∧ i ≤ l.length ∧ H1 = H ∧ σ 0 = a ∧ σ 1 = b ∧ σ 5 = .int .i64 i ∧ (l.take i).map key32 = (m.take i).map key32,
      ⟨_, 0, rfl, by omega, rfl, rfl, rfl, rfl, by simp⟩, ?_⟩
    rintro n σ H1 ⟨i, rfl, hi', rfl, h0, h1, h5, hall⟩
    simp only [h0, h1, h5, ha.len, vInt_lss, ob_some]
    refine cnd_d (fun hlt => ?_) (fun hge => ?_)
    · have hlt' : i < l.length := by omega
      rw [ha.ix (by omega) hlt, ob_some, ha.ld 0 (by omega) hlt, ob_some, hb.ix (by omega) (by omega), ob_some, hb.ld 0 (by omega) (by omega), ob_some]
      refine C.spec_l01Same (bl _ (at_mem 0 l (by omega) hlt)) (bm _ (at_mem 0 m (by omega) (by omega))) ⟨Le.refl _, ?_⟩
      rw [vUn_not, ob_some]
      refine cnd_i (fun hne => ?_) (fun heq => ?_)
      · refine retK (K := K) (v' := .bool false) rfl ?_
        rw [decide_eq_false] at hk
        · exact hk
        · intro e
          have h2 : (l.map key32)[i]? = (m.map key32)[i]? := by rw [e]
          rw [List.getElem?_map, List.getElem?_map, List.getElem?_eq_getElem hlt', List.getElem?_eq_getElem (by omega)] at h2
          simp only [Option.map_some, Option.some.injEq] at h2
          rw [at_eq 0 l hlt', at_eq 0 m (by omega), h2] at hne
          simp at hne
      · rw [vInt_add (by omega) (by omega), ob_some]
        refine nxt (l.length - (i + 1)) (by omega) ⟨i + 1, rfl, by omega, rfl, h0, h1, rfl, ?_⟩
        rw [take_at 0 l hlt', take_at 0 m (by omega), List.map_append, List.map_append, hall, List.map_singleton, List.map_singleton, show key32 (at_ 0 l (i : Int)) = key32 (at_ 0 m (i : Int)) by simpa using heq]
    · refine retK (K := K) (v' := .bool true) rfl ?_
      rw [List.take_of_length_le (by omega), List.take_of_length_le (by omega)] at hall
      rw [decide_eq_true hall] at hk
      exact hk
theorem C.slices_EqualFunc_float32Zfloat32Zfloat32Zfloat32 {a b : Value} {l m : List Nat} {H : Hp} {K : Value → Hp → Prop} (ha : Sl eF H a l) (hb : Sl eF H b m) (hl : l.length ≤ 9223372036854775807) (bl : ∀ x ∈ l, x < 4294967296) (bm : ∀ x ∈ m, x < 4294967296)
    (hk : K (.bool (decide (l.map key32 = m.map key32))) H) : HT prg I.slices_EqualFunc_float32Zfloat32Zfloat32Zfloat32 [a, b, .func (.func I.impl_SameNumber) #[] #[]].toArray H K := by
  refine R.slices_EqualFunc_float32Zfloat32Zfloat32Zfloat32 ?_
  unfold F.slices_EqualFunc_float32Zfloat32Zfloat32Zfloat32 jn; dsimp only
  rw [ha.len, hb.len, ob_some, ob_some, vInt_neq, ob_some]
  refine cnd_d (fun hne => ?_) (fun heq => ?_)
  · rw [decide_eq_false] at hk
    · exact hk
    · intro e; have := congrArg List.length e; simp at this; omega
  · have hlen : l.length = m.length := by omega
    rw [ob_some]
    refine ⟨fun n σ H1 => ∃ i : Nat, n = l.length - i ∧ i ≤ l.length ∧ H1 = H ∧ σ 15 = a ∧ σ 1 = b ∧ σ 17 = .int .i64 i ∧ σ 16 = .int .i64 l.length ∧ σ 2 = .func (.func I.impl_SameNumber) #[] #[] ∧ (l.take i).map key32 = (m.take i).map key32,
      ⟨_, 0, rfl, by omega, rfl, rfl, rfl, rfl, rfl, rfl, by simp⟩, ?_⟩
    rintro n σ H1 ⟨i, rfl, hi', rfl, h0, h1, h5, h16, h2, hall⟩
    simp only [h0, h1, h5, h16, h2, vInt_lss, ob_some]
    refine cnd_d (fun hlt => ?_) (fun hge => ?_)
    · have hlt' : i < l.length := by omega
      rw [ha.ix (by omega) hlt, ob_some, ha.ld 0 (by omega) hlt, ob_some, hb.ix (by omega) (by omega), ob_some, hb.ld 0 (by omega) (by omega), ob_some]
      refine ⟨by kernel_rfl, ?_⟩
      refine C.impl_SameNumber (bl _ (at_mem 0 l (by omega) hlt)) (bm _ (at_mem 0 m (by omega) (by omega))) ?_
      rw [vUn_not, ob_some]
      refine cnd_i (fun hne => ?_) (fun heq => ?_)
      · refine retK (K := K) (v' := .bool false) rfl ?_
        rw [decide_eq_false] at hk
        · exact hk
        · intro e
          have h3 : (l.map key32)[i]? = (m.map key32)[i]? := by rw [e]
          rw [List.getElem?_map, List.getElem?_map, List.getElem?_eq_getElem hlt', List.getElem?_eq_getElem (by omega)] at h3
          simp only [Option.map_some, Option.some.injEq] at h3
          rw [at_eq 0 l hlt', at_eq 0 m (by omega), h3] at hne
          simp at hne
      · rw [vInt_add (by omega) (by omega), ob_some]
        refine nxt (l.length - (i + 1)) (by omega) ⟨i + 1, rfl, by omega, rfl, h0, h1, rfl, h16, h2, ?_⟩
        rw [take_at 0 l hlt', take_at 0 m (by omega), List.map_append, List.map_append, hall, List.map_singleton, List.map_singleton, show key32 (at_ 0 l (i : Int)) = key32 (at_ 0 m (i : Int)) by simpa using heq]
    · refine retK (K := K) (v' := .bool true) rfl ?_
      rw [List.take_of_length_le (by omega), List.take_of_length_le (by omega)] at hall
      rw [decide_eq_true hall] at hk
      exact hk
theorem C.spec_SameFlow {r1 c1 r2 c2 : Int} {a1 b1 a2 b2 : Value} {l1 l2 : List Nat} {m1 m2 : List Bool} {H : Hp} {K : Value → Hp → Prop} (ha1 : Sl eF H a1 l1) (hb1 : Sl eB H b1 m1) (ha2 : Sl eF H a2 l2) (hb2 : Sl eB H b2 m2)
    (k1 : l1.length ≤ 9223372036854775807) (k2 : m1.length ≤ 9223372036854775807) (_ : l2.length ≤ 9223372036854775807) (_ : m2.length ≤ 9223372036854775807) (bl : ∀ x ∈ l1, x < 4294967296) (bm : ∀ x ∈ l2, x < 4294967296)
    (hk : ∀ H', Le H H' → K (.bool (decide (sameFlow r1 c1 l1 m1 r2 c2 l2 m2))) H') :
    HT prg I.spec_SameFlow [.agg #[.int .i64 r1, .int .i64 c1, a1, b1], .agg #[.int .i64 r2, .int .i64 c2, a2, b2]].toArray H K := by
  refine R.spec_SameFlow ?_
  unfold F.spec_SameFlow
  unfold sameFlow at hk
  refine nw_i (fun p H1 op np le1 => ?_)
  refine nw_i (fun q H2 oq nq le2 => ?_)
  replace op := op.le le2
  have le := le1.trans le2
  replace hk := hk H2 le
  replace ha1 := ha1.le le
  replace hb1 := hb1.le le
  replace ha2 := ha2.le le
  replace hb2 := hb2.le le
  simp only [op.fa, oq.fa, op.ld 0 rfl, oq.ld 0 rfl, EV]
  by_cases e1 : r1 = r2
  · simp only [e1, true_and, op.ld 1 rfl, oq.ld 1 rfl, EV] at hk ⊢
    by_cases e2 : c1 = c2
    · simp only [e2, true_and, op.ld 3 rfl, oq.ld 3 rfl, EV] at hk ⊢
      refine C.spec_l06Walls hb1 hb2 k2 ?_
      by_cases e3 : m1 = m2
      · simp only [e3, true_and, op.ld 2 rfl, oq.ld 2 rfl, EV] at hk ⊢
        exact C.spec_l01SameAll ha1 ha2 k1 bl bm hk
      · simp only [e3, false_and, decide_false, EV] at hk ⊢; exact hk
    · simp only [e2, false_and, decide_false, EV] at hk ⊢; exact hk
  · simp only [e1, false_and, decide_false, EV] at hk ⊢; exact hk
theorem C.impl_SameFlow {r1 c1 r2 c2 : Int} {a1 b1 a2 b2 : Value} {l1 l2 : List Nat} {m1 m2 : List Bool} {H : Hp} {K : Value → Hp → Prop} (ha1 : Sl eF H a1 l1) (hb1 : Sl eB H b1 m1) (ha2 : Sl eF H a2 l2) (hb2 : Sl eB H b2 m2)
    (k1 : l1.length ≤ 9223372036854775807) (k2 : m1.length ≤ 9223372036854775807) (_ : l2.length ≤ 9223372036854775807) (_ : m2.length ≤ 9223372036854775807) (bl : ∀ x ∈ l1, x < 4294967296) (bm : ∀ x ∈ l2, x < 4294967296)
    (hk : ∀ H', Le H H' → K (.bool (decide (sameFlow r1 c1 l1 m1 r2 c2 l2 m2))) H') :
    HT prg I.impl_SameFlow [.agg #[.int .i64 r1, .int .i64 c1, a1, b1], .agg #[.int .i64 r2, .int .i64 c2, a2, b2]].toArray H K := by
  refine R.impl_SameFlow ?_
  unfold F.impl_SameFlow
  unfold sameFlow at hk
  refine nw_i (fun p H1 op np le1 => ?_)
  refine nw_i (fun q H2 oq nq le2 => ?_)
  replace op := op.le le2
  have le := le1.trans le2
  replace hk := hk H2 le
  replace ha1 := ha1.le le
  replace hb1 := hb1.le le
  replace ha2 := ha2.le le
  replace hb2 := hb2.le le
  simp only [op.fa, oq.fa, op.ld 0 rfl, oq.ld 0 rfl, EV]
  by_cases e1 : r1 = r2
  · simp only [e1, true_and, op.ld 1 rfl, oq.ld 1 rfl, EV] at hk ⊢
    by_cases e2 : c1 = c2
    · simp only [e2, true_and, op.ld 3 rfl, oq.ld 3 rfl, EV] at hk ⊢
      refine C.slices_Equal_bool_bool hb1 hb2 k2 ?_
      by_cases e3 : m1 = m2
      · simp only [e3, true_and, op.ld 2 rfl, oq.ld 2 rfl, EV] at hk ⊢
        exact C.slices_EqualFunc_float32Zfloat32Zfloat32Zfloat32 ha1 ha2 k1 bl bm hk
      · simp only [e3, false_and, decide_false, EV] at hk ⊢; exact hk
    · simp only [e2, false_and, decide_false, EV] at hk ⊢; exact hk
  · simp only [e1, false_and, decide_false, EV] at hk ⊢; exact hk
end Go.Proofs.Ytcjamajenfgddaa
