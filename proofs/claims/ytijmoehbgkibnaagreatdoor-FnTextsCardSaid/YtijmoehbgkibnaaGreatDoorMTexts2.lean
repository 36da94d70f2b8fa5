/- Several texts in one. -/
import Derived.Test.YtijmoehbgkibnaaGreatDoorMTexts1
import Derived.Test.YtijmoehbgkibnaaGreatDoorMTexts0
set_option linter.unusedVariables false
/- strings.Join, with one byte between the texts. -/
namespace Go.Proofs.YtijmoehbgkibnaaGreatDoor
open HL
set_option maxRecDepth 100000
theorem joinT_len (x : UInt8) (a : List UInt8) : ∀ r : List (List UInt8), (joinT [x] (a :: r)).length = r.length + (a :: r).flatten.length
  | [] => by simp [joinT]
  | b :: r => by
    have ih := joinT_len x a r
    simp only [joinT, List.flatMap_cons, List.length_append, List.length_cons, List.length_nil, List.flatten_cons] at ih ⊢
    omega
theorem flat_snoc (ls : List (List UInt8)) (x : List UInt8) : (ls ++ [x]).flatten.length = ls.flatten.length + x.length := by simp
theorem flat_take (ls : List (List UInt8)) (t : Nat) : (ls.take t).flatten.length ≤ ls.flatten.length := by
  have := congrArg (fun l => l.flatten.length) (List.take_append_drop t ls)
  simp only [List.flatten_append, List.length_append] at this
  omega
theorem flat_at (ls : List (List UInt8)) {t : Nat} (ht : t < ls.length) : (ls.take t).flatten.length + (at_ [] ls (t : Int)).length ≤ ls.flatten.length := by
  have := flat_take ls (t + 1)
  rw [take_at [] ls ht, flat_snoc] at this
  exact this
theorem C.strings_Join {v : Value} {ls : List (List UInt8)} {x : UInt8} {H : Hp} {K : Value → Hp → Prop} (hv : Sl vS H v ls) (h1 : ls.length ≤ 1000000) (h2 : ls.flatten.length ≤ 1000000000) (hk : ∀ H', Le H H' → K (vS (joinT [x] ls)) H') :
    HT prg I.strings_Join [v, vS [x]].toArray H K := by
 refine R.strings_Join ?_
 unfold F.strings_Join
 refine ob_i hv.len ?_
 refine ob_i (vInt_eql _ _ _) ?_
 refine cnd_d (fun h0 => ?_) (fun h0 => ?_)
 ·obtain rfl : ls = [] := List.length_eq_zero_iff.mp (by omega)
  exact hk H (Le.refl H)
 refine ob_i (vInt_eql _ _ _) ?_
 refine cnd_d (fun h3 => ?_) (fun h3 => ?_)
 ·refine ob_i (hv.ix (by omega) (by omega)) ?_
  refine ob_i (hv.ld [] (by omega) (by omega)) ?_
  obtain ⟨a, rfl⟩ := List.length_eq_one_iff.mp (show ls.length = 1 by omega)
  have := hk H (Le.refl H)
  simp only [joinT, List.flatMap_nil, List.append_nil] at this
  exact this
 obtain ⟨a, r, rfl⟩ : ∃ a r, ls = a :: r := by cases ls with | nil => simp at h0 | cons a r => exact ⟨a, r, rfl⟩
 have hjl := joinT_len x a r
 have hrl : (a :: r).length = r.length + 1 := rfl
 have h2' := h2
 generalize hLS : a :: r = ls at *
 refine jn_i (fun σ H' => σ 0 = v ∧ σ 1 = vS [x] ∧ σ 5 = .int .i64 (r.length : Int) ∧ H' = H) (fun σ H6 hP => ?_) (fun J6 hJ6 => ?_)
 ·obtain ⟨g0, g1, g5, rfl⟩ := hP
  refine jn_i (fun σ' H' => σ' 0 = v ∧ σ' 1 = vS [x] ∧ σ' 5 = .int .i64 ((joinT [x] ls).length : Int) ∧ H' = H6) (fun σ7 H7 hP => ?_) (fun J7 hJ7 => ?_)
  ·obtain ⟨g0, g1, g5, rfl⟩ := hP
   simp only [g0, g5]
   intro rb hrb
   have hH : (H7.put rb (.cells #[.pointer none, .slice none 0 0] bdE (0, 0))) rb = some (.cells #[.pointer none, .slice none 0 0] bdE (0, 0)) := Hp.put_same _ _ _
   have hle1 : Le H7 (H7.put rb (.cells #[.pointer none, .slice none 0 0] bdE (0, 0))) := Le.put _ hrb
   refine (?_ : HT prg I.pstrings_Builder_Grow [.pointer (some ⟨rb, 0, none⟩), .int .i64 ((joinT [x] ls).length : Int)].toArray (H7.put rb (.cells #[.pointer none, .slice none 0 0] bdE (0, 0))) _)
   refine C.Builder_Grow hH (by omega) (by omega) (fun b c H11 hc1 hc2 hb hB hoth => ?_)
   have hbH : H7 b = none := by
    have : b ≠ rb := by rintro rfl; rw [hH] at hb; exact absurd hb (by simp)
    rw [Hp.put_ne _ _ this] at hb; exact hb
   have hle2 : Le H7 H11 := fun y o hy => hoth y o (hle1 y o hy) (by rintro rfl; rw [hrb] at hy; exact absurd hy (by simp))
   have keep : ∀ {A B : Hp}, Le H7 A → (∀ y o, A y = some o → y ≠ rb → y ≠ b → B y = some o) → Le H7 B := fun hA hAB y o hy =>
    hAB y o (hA y o hy) (by rintro rfl; rw [hrb] at hy; exact absurd hy (by simp)) (by rintro rfl; rw [hbH] at hy; exact absurd hy (by simp))
   have hv11 := hv.le hle2
   refine ob_i (hv11.ix (by omega) (by omega)) ?_
   refine ob_i (hv11.ld [] (by omega) (by omega)) ?_
   have ha0 : at_ [] ls 0 = a := by rw [← hLS]; rfl
   rw [ha0]
   have hal : a.length ≤ (joinT [x] ls).length := by
    rw [hjl, ← hLS]; simp; omega
   refine C.Builder_WriteString hB (by rw [Int.toNat_natCast] at hc1; simp; omega) (fun H15 hB15 hoth15 => ?_)
   have hle3 := keep hle2 hoth15
   rw [List.nil_append] at hB15
   have e1 : vSl3 1 v (some (.int .i64 1)) none none = some (vSl3 1 v (some (.int .i64 1)) none none).get! := by
    obtain ⟨y, _, hy2, _⟩ := hv.cut (lo := 1) (hi := (ls.length : Int)) (by omega) (by omega) (by omega)
    rw [hy2 rfl]; rfl
   obtain ⟨y, _, hy2, _, _, hy5, _⟩ := hv.cut (lo := 1) (hi := (ls.length : Int)) (by omega) (by omega) (by omega)
   have hy2 := hy2 rfl
   have hyl : ((ls.drop (Int.toNat 1)).take ((ls.length : Int).toNat - Int.toNat 1)) = r := by
    rw [← hLS]; simp
   rw [hyl] at hy5
   refine jn_i (fun σ' H' => σ' 8 = .pointer (some ⟨rb, 0, none⟩) ∧ Bd bdE nzE H' rb b c (joinT [x] ls) ∧ Le H7 H') (fun σ16 H16 hP => ?_) (fun J16 hJ16 => ?_)
   ·obtain ⟨g8, hB16, hle16⟩ := hP
    simp only [g8]
    refine C.Builder_String hB16 (by omega) (by omega) (fun H' hoth' => ?_)
    exact hk H' (keep hle16 hoth')
   ·refine ob_i hy2 ?_
    refine ob_i hy5.len ?_
    refine ⟨fun n σ' H' => ∃ t : Nat, n = r.length - t ∧ t ≤ r.length ∧ σ' 1 = vS [x] ∧ σ' 8 = .pointer (some ⟨rb, 0, none⟩) ∧ σ' 63 = y ∧ σ' 64 = .int .i64 (r.length : Int) ∧ σ' 65 = .int .i64 (t : Int) ∧ Bd bdE nzE H' rb b c (joinT [x] (ls.take (t + 1))) ∧ Le H7 H',
     ⟨_, 0, rfl, by omega, g1, rfl, rfl, rfl, rfl, by rw [← hLS]; simpa [joinT] using hB15, hle3⟩, ?_⟩
    rintro n σ' H21 ⟨t, rfl, ht, q1, q8, q63, q64, q65, hB21, hle21⟩
    simp only [q1, q8, q63, q64, q65]
    refine ob_i (vInt_lss _ _ _) ?_
    refine cnd_d (fun hlt => ?_) (fun hge => ?_)
    ·have hy21 := hy5.le hle21
     refine ob_i (hy21.ix (by omega) (by omega)) ?_
     refine ob_i (hy21.ld [] (by omega) (by omega)) ?_
     have hnx : at_ [] r (t : Int) = at_ [] ls ((t + 1 : Nat) : Int) := by
      rw [at_eq [] r (by omega), at_eq [] ls (by rw [hrl]; omega)]
      subst hLS
      simp
     rw [hnx]
     have hsn := joinT_snoc [x] (at_ [] ls ((t + 1 : Nat) : Int)) (ls.take (t + 1)) (by rw [← hLS]; simp)
     rw [← take_at [] ls (by rw [hrl]; omega)] at hsn
     have hl1 : ((joinT [x] (ls.take (t + 1 + 1))).length) ≤ (joinT [x] ls).length := by
      have e2 : ls.take (t + 1 + 1) = a :: r.take (t + 1) := by rw [← hLS]; simp
      have e3 := joinT_len x a (r.take (t + 1))
      have e4 := flat_take ls (t + 1 + 1)
      rw [e2] at e4
      rw [e2, e3, hjl]
      rw [List.length_take]
      have e5 : ls.flatten.length = (a :: r).flatten.length := by rw [hLS]
      omega
     rw [hsn] at hl1
     simp only [List.length_append, List.length_singleton] at hl1
     rw [Int.toNat_natCast] at hc1
     refine C.Builder_WriteString hB21 (by simp only [List.length_singleton]; omega) (fun H26 hB26 hoth26 => ?_)
     refine C.Builder_WriteString hB26 (by simp only [List.length_append, List.length_singleton]; omega) (fun H28 hB28 hoth28 => ?_)
     refine ob_i (vInt_add (by omega) (by omega)) ?_
     exact nxt (r.length - (t + 1)) (by omega) ⟨t + 1, rfl, by omega, q1, q8, q63, q64, rfl, by rw [hsn]; exact hB28, keep (keep hle21 hoth26) hoth28⟩
    ·obtain rfl : t = r.length := by omega
     refine hJ16 _ _ ⟨q8, ?_, hle21⟩
     rw [← hrl, List.take_length] at hB21
     exact hB21
  ·simp only [g0]
   refine ob_i hv.len ?_
   refine ⟨fun n σ' H' => ∃ t : Nat, n = ls.length - t ∧ t ≤ ls.length ∧ σ' 0 = v ∧ σ' 1 = vS [x] ∧ σ' 39 = v ∧ σ' 40 = .int .i64 (ls.length : Int) ∧ σ' 41 = .int .i64 (t : Int) ∧ σ' 5 = .int .i64 ((r.length : Int) + ((ls.take t).flatten.length : Int)) ∧ H' = H6,
    ⟨_, 0, rfl, by omega, g0, g1, rfl, rfl, rfl, g5.trans (congrArg (Value.int .i64) (by simp)), rfl⟩, ?_⟩
   rintro n σ' H31 ⟨t, rfl, ht, q0, q1, q39, q40, q41, q5, rfl⟩
   simp only [q39, q40, q41, q5]
   refine ob_i (vInt_lss _ _ _) ?_
   refine cnd_d (fun hlt => ?_) (fun hge => ?_)
   ·refine ob_i (hv.ix (by omega) (by omega)) ?_
    refine ob_i (hv.ld [] (by omega) (by omega)) ?_
    refine ob_i (vLenS_t _) ?_
    have hf := flat_at ls (t := t) (by omega)
    refine ob_i (vInt_sub (by omega) (by omega)) ?_
    refine ob_i (vInt_gtr _ _ _) ?_
    rw [decide_eq_false (by omega)]
    refine cnd_f1 ?_
    refine ob_i (vLenS_t _) ?_
    refine ob_i (vInt_add (by omega) (by omega)) ?_
    refine ob_i (vInt_add (by omega) (by omega)) ?_
    exact nxt (ls.length - (t + 1)) (by omega) ⟨t + 1, rfl, by omega, q0, q1, q39, q40, congrArg (Value.int .i64) (by omega), congrArg (Value.int .i64) (by rw [take_at [] ls (by omega), flat_snoc]; omega), rfl⟩
   ·obtain rfl : t = ls.length := by omega
    exact hJ7 _ _ ⟨q0, q1, q5.trans (congrArg (Value.int .i64) (by rw [List.take_length, hjl]; omega)), rfl⟩
 ·refine ob_i (vLenS_t [x]) ?_
  refine ob_i (vInt_gtr _ _ _) ?_
  rw [decide_eq_true (show (0 : Int) < (([x] : List UInt8).length : Int) by simp)]
  refine cnd_t1 ?_
  refine ob_i (vLenS_t [x]) ?_
  refine ob_i hv.len ?_
  refine ob_i (vInt_sub (by omega) (by omega)) ?_
  refine ob_i (vInt_quoN (by omega) (by omega) (by omega)) ?_
  refine ob_i (vInt_geq _ _ _) ?_
  have hq : (2 : Int) ≤ 9223372036854775807 / ((ls.length : Int) - 1) := (Int.le_ediv_iff_mul_le (by omega)).mpr (by omega)
  rw [decide_eq_false (by simp only [List.length_singleton]; omega)]
  refine cnd_f1 ?_
  refine ob_i (vLenS_t [x]) ?_
  refine ob_i hv.len ?_
  refine ob_i (vInt_sub (by omega) (by omega)) ?_
  refine ob_i (vInt_mul (by simp only [List.length_singleton]; omega) (by simp only [List.length_singleton]; omega)) ?_
  refine ob_i (vInt_add (by simp only [List.length_singleton]; omega) (by simp only [List.length_singleton]; omega)) ?_
  exact hJ6 _ _ ⟨rfl, rfl, congrArg (Value.int .i64) (by simp only [List.length_singleton]; omega), rfl⟩
end Go.Proofs.YtijmoehbgkibnaaGreatDoor
/- Fields as texts. -/
namespace Go.Proofs.YtijmoehbgkibnaaGreatDoor
open HL
set_option maxRecDepth 100000
attribute [local irreducible] vStr
theorem C.internal_strconv_small {n : Int}  {H : Hp} {K : Value → Hp → Prop} (n0 : 0 ≤ n) (n1 : n < 100)
    (hk : K (vS (decT n.toNat)) H) : HT prg I.internal_strconv_small [(.int .i64 (n))].toArray H K := by
 have lE := Le.refl H
 refine R.internal_strconv_small ?_
 unfold F.internal_strconv_small
 refine ob_i (vInt_lss _ _ _) ?_
 refine cnd_d (fun hg1 => ?_) (fun hg1 => ?_)
 ·skip
  refine ob_i (vInt_add (by omega) (by omega)) ?_
  refine ob_i (vSlS_t (a := ([48, 49, 50, 51, 52, 53, 54, 55, 56, 57, 97, 98, 99, 100, 101, 102, 103, 104, 105, 106, 107, 108, 109, 110, 111, 112, 113, 114, 115, 116, 117, 118, 119, 120, 121, 122] : List UInt8)) (by omega) (by omega) (by first | omega | (simp only [List.length_cons, List.length_nil]; omega))) ?_
  skip
  exact keq (K := K) (by rw [show (decT n.toNat) = (((([48, 49, 50, 51, 52, 53, 54, 55, 56, 57, 97, 98, 99, 100, 101, 102, 103, 104, 105, 106, 107, 108, 109, 110, 111, 112, 113, 114, 115, 116, 117, 118, 119, 120, 121, 122] : List UInt8)).drop (n : Int).toNat).take ((n + 1 : Int).toNat - (n : Int).toNat)) from by exact (small_one (by omega) (by omega)).symm]; try rfl) (hk )
 ·skip
  refine ob_i (vInt_mul (by omega) (by omega)) ?_
  refine ob_i (vInt_mul (by omega) (by omega)) ?_
  refine ob_i (vInt_add (by omega) (by omega)) ?_
  refine ob_i (vSlS_t (a := ([48, 48, 48, 49, 48, 50, 48, 51, 48, 52, 48, 53, 48, 54, 48, 55, 48, 56, 48, 57, 49, 48, 49, 49, 49, 50, 49, 51, 49, 52, 49, 53, 49, 54, 49, 55, 49, 56, 49, 57, 50, 48, 50, 49, 50, 50, 50, 51, 50, 52, 50, 53, 50, 54, 50, 55, 50, 56, 50, 57, 51, 48, 51, 49, 51, 50, 51, 51, 51, 52, 51, 53, 51, 54, 51, 55, 51, 56, 51, 57, 52, 48, 52, 49, 52, 50, 52, 51, 52, 52, 52, 53, 52, 54, 52, 55, 52, 56, 52, 57, 53, 48, 53, 49, 53, 50, 53, 51, 53, 52, 53, 53, 53, 54, 53, 55, 53, 56, 53, 57, 54, 48, 54, 49, 54, 50, 54, 51, 54, 52, 54, 53, 54, 54, 54, 55, 54, 56, 54, 57, 55, 48, 55, 49, 55, 50, 55, 51, 55, 52, 55, 53, 55, 54, 55, 55, 55, 56, 55, 57, 56, 48, 56, 49, 56, 50, 56, 51, 56, 52, 56, 53, 56, 54, 56, 55, 56, 56, 56, 57, 57, 48, 57, 49, 57, 50, 57, 51, 57, 52, 57, 53, 57, 54, 57, 55, 57, 56, 57, 57] : List UInt8)) (by omega) (by omega) (by first | omega | (simp only [List.length_cons, List.length_nil]; omega))) ?_
  skip
  exact keq (K := K) (by rw [show (decT n.toNat) = (((([48, 48, 48, 49, 48, 50, 48, 51, 48, 52, 48, 53, 48, 54, 48, 55, 48, 56, 48, 57, 49, 48, 49, 49, 49, 50, 49, 51, 49, 52, 49, 53, 49, 54, 49, 55, 49, 56, 49, 57, 50, 48, 50, 49, 50, 50, 50, 51, 50, 52, 50, 53, 50, 54, 50, 55, 50, 56, 50, 57, 51, 48, 51, 49, 51, 50, 51, 51, 51, 52, 51, 53, 51, 54, 51, 55, 51, 56, 51, 57, 52, 48, 52, 49, 52, 50, 52, 51, 52, 52, 52, 53, 52, 54, 52, 55, 52, 56, 52, 57, 53, 48, 53, 49, 53, 50, 53, 51, 53, 52, 53, 53, 53, 54, 53, 55, 53, 56, 53, 57, 54, 48, 54, 49, 54, 50, 54, 51, 54, 52, 54, 53, 54, 54, 54, 55, 54, 56, 54, 57, 55, 48, 55, 49, 55, 50, 55, 51, 55, 52, 55, 53, 55, 54, 55, 55, 55, 56, 55, 57, 56, 48, 56, 49, 56, 50, 56, 51, 56, 52, 56, 53, 56, 54, 56, 55, 56, 56, 56, 57, 57, 48, 57, 49, 57, 50, 57, 51, 57, 52, 57, 53, 57, 54, 57, 55, 57, 56, 57, 57] : List UInt8)).drop (n * 2 : Int).toNat).take (((n * 2) + 2 : Int).toNat - (n * 2 : Int).toNat)) from by exact (small_two (by omega) (by omega)).symm]; try rfl) (hk )
theorem C.internal_strconv_FormatInt {n : Int}  {H : Hp} {K : Value → Hp → Prop} (n0 : 0 ≤ n) (n1 : n < 100)
    (hk : K (vS (decT n.toNat)) H) : HT prg I.internal_strconv_FormatInt [(.int .i64 (n)), (.int .i64 (10))].toArray H K := by
 have lE := Le.refl H
 refine R.internal_strconv_FormatInt ?_
 unfold F.internal_strconv_FormatInt
 refine ob_i (a := .bool true) (by kernel_rfl) ?_
 refine cnd_t1 ?_
 refine ob_i (vInt_leq _ _ _) ?_
 by_cases hc1 : 0 ≤ n
 ·skip
  refine gop_e (decide_eq_true hc1) ?_
  refine gop_rt ?_
  refine gop_e (decide_eq_true hc1) ?_
  refine gop_rt ?_
  refine ob_i (vInt_lss _ _ _) ?_
  refine ob_i (vPick_et (decide_eq_true hc1) _ _) ?_
  refine cnd_d (fun hg2 => ?_) (fun hg2 => ?_)
  ·skip
   refine C.internal_strconv_small (by first | omega | assumption) (by first | omega | assumption) ?_
   skip
   exact hk 
  ·skip
   exact absurd hg2 ((fun h => h n1))
 ·skip
  exact absurd hc1 ((fun h => h n0))
theorem C.strconv_FormatInt {n : Int}  {H : Hp} {K : Value → Hp → Prop} (n0 : 0 ≤ n) (n1 : n < 100)
    (hk : K (vS (decT n.toNat)) H) : HT prg I.strconv_FormatInt [(.int .i64 (n)), (.int .i64 (10))].toArray H K := by
 have lE := Le.refl H
 refine R.strconv_FormatInt ?_
 unfold F.strconv_FormatInt
 refine C.internal_strconv_FormatInt (by first | omega | assumption) (by first | omega | assumption) ?_
 skip
 exact hk 
theorem C.impl_Decimal {n : Int}  {H : Hp} {K : Value → Hp → Prop} (n0 : 0 ≤ n) (n1 : n < 100)
    (hk : K (vS (decT n.toNat)) H) : HT prg I.impl_Decimal [(.int .i64 (n))].toArray H K := by
 have lE := Le.refl H
 refine R.impl_Decimal ?_
 unfold F.impl_Decimal
 refine C.strconv_FormatInt (by first | omega | assumption) (by first | omega | assumption) ?_
 skip
 exact hk 
theorem C.l05Number_d {n : Int}  {H : Hp} {K : Value → Hp → Prop} (n0 : 0 ≤ n) (n1 : n < 10)
    (hk : ∀ H', Le H H' → K (vS (decT n.toNat)) H') : HT prg I.spec_l05Number [(.int .i64 (n))].toArray H K := by
 have lE := Le.refl H
 refine R.spec_l05Number ?_
 unfold F.spec_l05Number
 refine ob_i (vInt_lss _ _ _) ?_
 refine cnd_d (fun hg1 => ?_) (fun hg1 => ?_)
 ·skip
  refine ob_i (vInt_add (by omega) (by omega)) ?_
  refine ob_i (vCI_u8 (by omega) (by omega)) ?_
  refine bS_i (enc := eU) (l := [48 + n]) (by omega) rfl (by kernel_rfl) (fun u2 H3 ou2 nn4 le6 => ?_)
  replace lE := lE.trans le6
  refine ob_i (val_convT (by kernel_rfl) ou2.sl) ?_
  skip
  exact keq (K := K) (by rw [show (decT n.toNat) = (btT ([48 + n])) from by exact (num_one (by omega) (by omega)).symm]; try rfl) (hk   _    lE)
 ·skip
  exact absurd hg1 ((fun h => h n1))
theorem C.spec_l05Number {n : Int}  {H : Hp} {K : Value → Hp → Prop} (n0 : 0 ≤ n) (n1 : n < 100)
    (hk : ∀ H', Le H H' → K (vS (decT n.toNat)) H') : HT prg I.spec_l05Number [(.int .i64 (n))].toArray H K := by
 have lE := Le.refl H
 refine R.spec_l05Number ?_
 unfold F.spec_l05Number
 have d1 := decT_len (n / 10).toNat
 have d2 : (btT ([48 + (n % 10)])).length = 1 := rfl
 refine ob_i (vInt_lss _ _ _) ?_
 refine cnd_d (fun hg1 => ?_) (fun hg1 => ?_)
 ·skip
  refine ob_i (vInt_add (by omega) (by omega)) ?_
  refine ob_i (vCI_u8 (by omega) (by omega)) ?_
  refine bS_i (enc := eU) (l := [48 + n]) (by omega) rfl (by kernel_rfl) (fun u2 H3 ou2 nn4 le6 => ?_)
  replace lE := lE.trans le6
  refine ob_i (val_convT (by kernel_rfl) ou2.sl) ?_
  skip
  exact keq (K := K) (by rw [show (decT n.toNat) = (btT ([48 + n])) from by exact (num_one (by omega) (by omega)).symm]; try rfl) (hk   _    lE)
 ·skip
  refine ⟨?_, ?_⟩
  ·skip
   refine ob_i (vInt_quoN (by omega) (by omega) (by omega)) ?_
   refine ob_i (vInt_remN (by omega) (by omega)) ?_
   refine ob_i (vInt_add (by omega) (by omega)) ?_
   refine ob_i (vCI_u8 (by omega) (by omega)) ?_
   refine C.l05Number_d (by first | omega | assumption) (by first | omega | assumption) (fun   H7    le8 => ?_)
   replace lE := lE.trans le8
   refine ⟨le8, ?_⟩
   refine bS_i (enc := eU) (l := [48 + (n % 10)]) (by omega) rfl (by kernel_rfl) (fun u9 H10 ou9 nn11 le13 => ?_)
   replace lE := lE.trans le13
   refine ob_i (val_convT (by kernel_rfl) ou9.sl) ?_
   refine ob_i (vStr_add (a := decT (n / 10).toNat) (b := btT ([48 + (n % 10)])) (by first | omega | (simp only [List.length_append, List.length_cons, List.length_nil, List.length_take, List.length_drop]; omega))) ?_
   skip
   exact keq (K := K) (by rw [show (decT n.toNat) = ((decT (n / 10).toNat) ++ (btT ([48 + (n % 10)]))) from by exact (num_two (by omega) (by omega)).symm]; try rfl) (hk   _    lE)
  ·skip
   refine ob_i (vInt_quoN (by omega) (by omega) (by omega)) ?_
   refine ob_i (vInt_remN (by omega) (by omega)) ?_
   refine ob_i (vInt_add (by omega) (by omega)) ?_
   refine ob_i (vCI_u8 (by omega) (by omega)) ?_
   refine bS_i (enc := eU) (l := [48 + (n % 10)]) (by omega) rfl (by kernel_rfl) (fun u14 H15 ou14 nn16 le18 => ?_)
   replace lE := lE.trans le18
   refine ob_i (val_convT (by kernel_rfl) ou14.sl) ?_
   refine C.l05Number_d (by first | omega | assumption) (by first | omega | assumption) (fun   H19    le20 => ?_)
   replace lE := lE.trans le20
   refine ⟨le20, ?_⟩
   refine ob_i (vStr_add (a := decT (n / 10).toNat) (b := btT ([48 + (n % 10)])) (by first | omega | (simp only [List.length_append, List.length_cons, List.length_nil, List.length_take, List.length_drop]; omega))) ?_
   skip
   exact keq (K := K) (by rw [show (decT n.toNat) = ((decT (n / 10).toNat) ++ (btT ([48 + (n % 10)]))) from by exact (num_two (by omega) (by omega)).symm]; try rfl) (hk   _    lE)
theorem C.impl_runsText {v : Value} {row : List Int}  {H : Hp} {K : Value → Hp → Prop} (hv0 : Sl eI H v row) (h1 : row.length ≤ 24) (hx : ∀ x ∈ row, 0 ≤ x ∧ x ≤ 1)
    (hk : ∀ H', Le H H' → K (vS (rtx row)) H') : HT prg I.impl_runsText [v].toArray H K := by
 have lE := Le.refl H
 have hv := hv0
 refine R.impl_runsText ?_
 unfold F.impl_runsText
 have rl := rtx_len row.length row (Nat.le_refl _)
 refine jn_i (fun σ' H' => σ' 3 = (vS (rtx row)) ∧ Le H H') (fun σ1 H1 hP => ?_) (fun J1 hJ1 => ?_)
 ·skip
  obtain ⟨g3L1, lE⟩ := hP
  try simp only [g3L1]
  skip
  exact hk   _    lE
 refine ⟨fun n' σ' H' => ∃ i : Nat, n' = row.length - i ∧ i ≤ row.length ∧ ∃ out : List UInt8, ∃ a : Nat, σ' 0 = v ∧ σ' 3 = (vS (out)) ∧ σ' 4 = (.int .i64 ((a : Int))) ∧ Le H H' ∧ i ≤ a ∧ a ≤ row.length ∧ out ++ rtx (row.drop a) = rtx row,
  ⟨_, 0, rfl, by omega, [], 0, rfl, rfl, (congrArg (Value.int .i64) (by first | omega | rfl | (simp; done))), lE, (by omega), (by omega), rfl⟩, ?_⟩
 rintro n2 σ2 H2 ⟨i, rfl, hiN, out, a, g0L2, g3L2, g4L2, lE, hm0, hm1, hm2⟩
 have hv := hv0.le lE
 try simp only [g0L2, g4L2]
 have ol := congrArg List.length hm2
 rw [List.length_append] at ol
 refine ob_i (hv.len) ?_
 refine ob_i (vInt_lss _ _ _) ?_
 refine cnd_d (fun hg3 => ?_) (fun hg3 => ?_)
 ·skip
  have ti := hg3
  refine jn_i (fun σ' H' => ∃ k : Nat, σ' 0 = v ∧ σ' 3 = (vS (out)) ∧ σ' 4 = (.int .i64 ((a : Int))) ∧ σ' 5 = (.int .i64 ((a : Int) + (k : Int))) ∧ Le H H' ∧ k = rN (at_ 0 row (a : Int)) (row.drop a) ∧ a + k ≤ row.length ∧ 1 ≤ k) (fun σ4 H4 hP => ?_) (fun J4 hJ4 => ?_)
  ·skip
   obtain ⟨k, g0L4, g3L4, g4L4, g5L4, lE, hk, hk2, hk3⟩ := hP
   have hv := hv0.le lE
   try simp only [g0L4, g3L4, g4L4, g5L4]
   have dl := decT_len (((a : Int) + (k : Int)) - (a : Int)).toNat
   have xa := hx _ (at_mem 0 row (i := (a : Int)) (by omega) (by omega))
   refine ob_i (hv.ix (by omega) (by omega)) ?_
   refine ob_i (hv.ld 0 (by omega) (by omega)) ?_
   refine ob_i (vInt_eql _ _ _) ?_
   by_cases hc5 : (at_ 0 (row) ((a : Int))) = 0
   ·skip
    refine gop_e (decide_eq_true hc5) ?_
    refine gop_rt ?_
    refine gop_e (decide_eq_true hc5) ?_
    refine gop_rt ?_
    refine gop_e (decide_eq_true hc5) ?_
    refine gop_rt ?_
    refine ob_i (hv.len) ?_
    refine gop_e (decide_eq_true hc5) ?_
    refine gop_rt ?_
    refine ob_i (vInt_eql _ _ _) ?_
    refine ob_i (vPick_et (decide_eq_true hc5) _ _) ?_
    refine cnd_d (fun hg6 => ?_) (fun hg6 => ?_)
    ·skip
     have hfin : out = rtx row := by rw [← hm2, rtx_stop (a := a) (k := k) (by omega) hk ⟨hc5, by omega⟩, List.append_nil]
     exact hJ1 _ _ ⟨(g3L4.trans (congrArg vS hfin)), lE⟩
    ·skip
     refine ob_i (vInt_sub (by omega) (by omega)) ?_
     refine ob_i (vInt_gtr _ _ _) ?_
     refine cnd_d (fun hg7 => ?_) (fun hg7 => ?_)
     ·skip
      refine ob_i (vInt_sub (by omega) (by omega)) ?_
      refine C.impl_Decimal (by first | omega | assumption) (by first | omega | assumption) ?_
      refine ob_i (vStr_add (a := out) (b := decT (((a : Int) + (k : Int)) - (a : Int)).toNat) (by first | omega | (simp only [List.length_append, List.length_cons, List.length_nil, List.length_take, List.length_drop]; omega))) ?_
      refine ob_i (hv.ix (by omega) (by omega)) ?_
      refine ob_i (hv.ld 0 (by omega) (by omega)) ?_
      refine ob_i (hv.ix (by omega) (by omega)) ?_
      refine ob_i (hv.ld 0 (by omega) (by omega)) ?_
      refine ob_i (vInt_add (by omega) (by omega)) ?_
      refine ob_i (vSlS_t (a := ([98, 111] : List UInt8)) (by omega) (by omega) (by first | omega | (simp only [List.length_cons, List.length_nil]; omega))) ?_
      refine ob_i (vStr_add (a := out ++ (decT (((a : Int) + (k : Int)) - (a : Int)).toNat)) (b := ((([98, 111] : List UInt8)).drop (at_ 0 (row) ((a : Int)) : Int).toNat).take (((at_ 0 (row) ((a : Int))) + 1 : Int).toNat - (at_ 0 (row) ((a : Int)) : Int).toNat)) (by first | omega | (simp only [List.length_append, List.length_cons, List.length_nil, List.length_take, List.length_drop]; omega))) ?_
      exact nxt (row.length - (i + 1)) (by omega) ⟨i + 1, rfl, by omega, ((out ++ (decT (((a : Int) + (k : Int)) - (a : Int)).toNat)) ++ (((([98, 111] : List UInt8)).drop (at_ 0 (row) ((a : Int)) : Int).toNat).take (((at_ 0 (row) ((a : Int))) + 1 : Int).toNat - (at_ 0 (row) ((a : Int)) : Int).toNat))), (a + k), g0L4, rfl, (congrArg (Value.int .i64) (by omega)), lE, (by omega), (by omega), (by have hr := rtx_run (a := a) (k := k) (by omega) hk (fun h => by exact hg6 (by omega)); rw [← hm2, hr, if_neg (show ¬ k = 1 by omega)]; rw [bo_T (hx _ (at_mem 0 row (by omega) (by omega))).1 (hx _ (at_mem 0 row (by omega) (by omega))).2]; rw [show ((a : Int) + (k : Int) - (a : Int)).toNat = k by omega]; simp only [List.append_assoc])⟩
     ·skip
      refine ob_i (hv.ix (by omega) (by omega)) ?_
      refine ob_i (hv.ld 0 (by omega) (by omega)) ?_
      refine ob_i (hv.ix (by omega) (by omega)) ?_
      refine ob_i (hv.ld 0 (by omega) (by omega)) ?_
      refine ob_i (vInt_add (by omega) (by omega)) ?_
      refine ob_i (vSlS_t (a := ([98, 111] : List UInt8)) (by omega) (by omega) (by first | omega | (simp only [List.length_cons, List.length_nil]; omega))) ?_
      refine ob_i (vStr_add (a := out) (b := ((([98, 111] : List UInt8)).drop (at_ 0 (row) ((a : Int)) : Int).toNat).take (((at_ 0 (row) ((a : Int))) + 1 : Int).toNat - (at_ 0 (row) ((a : Int)) : Int).toNat)) (by first | omega | (simp only [List.length_cons, List.length_nil, List.length_take, List.length_drop]; omega))) ?_
      exact nxt (row.length - (i + 1)) (by omega) ⟨i + 1, rfl, by omega, (out ++ (((([98, 111] : List UInt8)).drop (at_ 0 (row) ((a : Int)) : Int).toNat).take (((at_ 0 (row) ((a : Int))) + 1 : Int).toNat - (at_ 0 (row) ((a : Int)) : Int).toNat))), (a + k), g0L4, rfl, (congrArg (Value.int .i64) (by omega)), lE, (by omega), (by omega), (by have hr := rtx_run (a := a) (k := k) (by omega) hk (fun h => by exact hg6 (by omega)); rw [← hm2, hr, if_pos (show k = 1 by omega)]; rw [bo_T (hx _ (at_mem 0 row (by omega) (by omega))).1 (hx _ (at_mem 0 row (by omega) (by omega))).2]; simp only [List.append_assoc, List.nil_append])⟩
   ·skip
    refine gop_e (decide_eq_false hc5) ?_
    refine gop_sf ?_
    refine gop_e (decide_eq_false hc5) ?_
    refine gop_sf ?_
    refine gop_e (decide_eq_false hc5) ?_
    refine gop_sf ?_
    refine gop_e (decide_eq_false hc5) ?_
    refine gop_sf ?_
    refine ob_i (vPick_ef (decide_eq_false hc5) _ _) ?_
    refine cnd_f1 ?_
    refine ob_i (vInt_sub (by omega) (by omega)) ?_
    refine ob_i (vInt_gtr _ _ _) ?_
    refine cnd_d (fun hg8 => ?_) (fun hg8 => ?_)
    ·skip
     refine ob_i (vInt_sub (by omega) (by omega)) ?_
     refine C.impl_Decimal (by first | omega | assumption) (by first | omega | assumption) ?_
     refine ob_i (vStr_add (a := out) (b := decT (((a : Int) + (k : Int)) - (a : Int)).toNat) (by first | omega | (simp only [List.length_append, List.length_cons, List.length_nil, List.length_take, List.length_drop]; omega))) ?_
     refine ob_i (hv.ix (by omega) (by omega)) ?_
     refine ob_i (hv.ld 0 (by omega) (by omega)) ?_
     refine ob_i (hv.ix (by omega) (by omega)) ?_
     refine ob_i (hv.ld 0 (by omega) (by omega)) ?_
     refine ob_i (vInt_add (by omega) (by omega)) ?_
     refine ob_i (vSlS_t (a := ([98, 111] : List UInt8)) (by omega) (by omega) (by first | omega | (simp only [List.length_cons, List.length_nil]; omega))) ?_
     refine ob_i (vStr_add (a := out ++ (decT (((a : Int) + (k : Int)) - (a : Int)).toNat)) (b := ((([98, 111] : List UInt8)).drop (at_ 0 (row) ((a : Int)) : Int).toNat).take (((at_ 0 (row) ((a : Int))) + 1 : Int).toNat - (at_ 0 (row) ((a : Int)) : Int).toNat)) (by first | omega | (simp only [List.length_append, List.length_cons, List.length_nil, List.length_take, List.length_drop]; omega))) ?_
     exact nxt (row.length - (i + 1)) (by omega) ⟨i + 1, rfl, by omega, ((out ++ (decT (((a : Int) + (k : Int)) - (a : Int)).toNat)) ++ (((([98, 111] : List UInt8)).drop (at_ 0 (row) ((a : Int)) : Int).toNat).take (((at_ 0 (row) ((a : Int))) + 1 : Int).toNat - (at_ 0 (row) ((a : Int)) : Int).toNat))), (a + k), g0L4, rfl, (congrArg (Value.int .i64) (by omega)), lE, (by omega), (by omega), (by have hr := rtx_run (a := a) (k := k) (by omega) hk (fun h => by exact hc5 h.1); rw [← hm2, hr, if_neg (show ¬ k = 1 by omega)]; rw [bo_T (hx _ (at_mem 0 row (by omega) (by omega))).1 (hx _ (at_mem 0 row (by omega) (by omega))).2]; rw [show ((a : Int) + (k : Int) - (a : Int)).toNat = k by omega]; simp only [List.append_assoc])⟩
    ·skip
     refine ob_i (hv.ix (by omega) (by omega)) ?_
     refine ob_i (hv.ld 0 (by omega) (by omega)) ?_
     refine ob_i (hv.ix (by omega) (by omega)) ?_
     refine ob_i (hv.ld 0 (by omega) (by omega)) ?_
     refine ob_i (vInt_add (by omega) (by omega)) ?_
     refine ob_i (vSlS_t (a := ([98, 111] : List UInt8)) (by omega) (by omega) (by first | omega | (simp only [List.length_cons, List.length_nil]; omega))) ?_
     refine ob_i (vStr_add (a := out) (b := ((([98, 111] : List UInt8)).drop (at_ 0 (row) ((a : Int)) : Int).toNat).take (((at_ 0 (row) ((a : Int))) + 1 : Int).toNat - (at_ 0 (row) ((a : Int)) : Int).toNat)) (by first | omega | (simp only [List.length_cons, List.length_nil, List.length_take, List.length_drop]; omega))) ?_
     exact nxt (row.length - (i + 1)) (by omega) ⟨i + 1, rfl, by omega, (out ++ (((([98, 111] : List UInt8)).drop (at_ 0 (row) ((a : Int)) : Int).toNat).take (((at_ 0 (row) ((a : Int))) + 1 : Int).toNat - (at_ 0 (row) ((a : Int)) : Int).toNat))), (a + k), g0L4, rfl, (congrArg (Value.int .i64) (by omega)), lE, (by omega), (by omega), (by have hr := rtx_run (a := a) (k := k) (by omega) hk (fun h => by exact hc5 h.1); rw [← hm2, hr, if_pos (show k = 1 by omega)]; rw [bo_T (hx _ (at_mem 0 row (by omega) (by omega))).1 (hx _ (at_mem 0 row (by omega) (by omega))).2]; simp only [List.append_assoc, List.nil_append])⟩
  refine ⟨fun n' σ' H' => ∃ j : Nat, n' = row.length - j ∧ j ≤ row.length ∧ σ' 0 = v ∧ σ' 3 = (vS (out)) ∧ σ' 4 = (.int .i64 ((a : Int))) ∧ σ' 5 = (.int .i64 ((a : Int) + (j : Int))) ∧ Le H H' ∧ j ≤ rN (at_ 0 row (a : Int)) (row.drop a) ∧ a + j ≤ row.length,
   ⟨_, 0, rfl, by omega, g0L2, g3L2, g4L2, (congrArg (Value.int .i64) (by first | omega | rfl | (simp; done))), lE, (by omega), (by omega)⟩, ?_⟩
  rintro n9 σ9 H9 ⟨j, rfl, hjN, g0L9, g3L9, g4L9, g5L9, lE, hm0', hm1'⟩
  have hv := hv0.le lE
  try simp only [g0L9, g4L9, g5L9]
  refine ob_i (hv.len) ?_
  refine ob_i (vInt_lss _ _ _) ?_
  by_cases hc10 : ((a : Int) + (j : Int)) < (((row).length : Int))
  ·skip
   refine gop_e (decide_eq_true hc10) ?_
   refine gop_rt ?_
   refine gop_e (decide_eq_true hc10) ?_
   refine gop_rt ?_
   refine gop_e (decide_eq_true hc10) ?_
   refine gop_rt ?_
   refine ob_i (hv.ix (by omega) (by omega)) ?_
   refine gop_e (decide_eq_true hc10) ?_
   refine gop_rt ?_
   refine ob_i (hv.ld 0 (by omega) (by omega)) ?_
   refine gop_e (decide_eq_true hc10) ?_
   refine gop_rt ?_
   refine gop_e (decide_eq_true hc10) ?_
   refine gop_rt ?_
   refine gop_e (decide_eq_true hc10) ?_
   refine gop_rt ?_
   refine ob_i (hv.ix (by omega) (by omega)) ?_
   refine gop_e (decide_eq_true hc10) ?_
   refine gop_rt ?_
   refine ob_i (hv.ld 0 (by omega) (by omega)) ?_
   refine gop_e (decide_eq_true hc10) ?_
   refine gop_rt ?_
   refine ob_i (vInt_eql _ _ _) ?_
   refine ob_i (vPick_et (decide_eq_true hc10) _ _) ?_
   refine cnd_d (fun hg11 => ?_) (fun hg11 => ?_)
   ·skip
    refine ob_i (vInt_add (by omega) (by omega)) ?_
    exact nxt (row.length - (j + 1)) (by omega) ⟨j + 1, rfl, by omega, g0L9, g3L9, g4L9, (congrArg (Value.int .i64) (by first | omega | rfl | (simp; done))), lE, (by have := run_next (a := a) (e := a + j) (by omega) (by rw [show a + j - a = j by omega]; exact hm0') (by omega) (by rw [show ((a + j : Nat) : Int) = (a : Int) + (j : Int) by omega]; exact hg11); omega), (by omega)⟩
   ·skip
    exact hJ4 _ _ ⟨j, g0L9, g3L9, g4L9, (g5L9.trans (congrArg (Value.int .i64) (by first | omega | rfl | (simp; done)))), lE, (by have := run_end (a := a) (e := a + j) (by omega) (by rw [show a + j - a = j by omega]; exact hm0') (by omega) (Or.inr (by rw [show ((a + j : Nat) : Int) = (a : Int) + (j : Int) by omega]; exact hg11)); omega), (by omega), (by have h9 := run_end (a := a) (e := a + j) (by omega) (by rw [show a + j - a = j by omega]; exact hm0') (by omega) (Or.inr (by rw [show ((a + j : Nat) : Int) = (a : Int) + (j : Int) by omega]; exact hg11)); have := (run_pos (row := row) (a := a) (by omega)).1; omega)⟩
  ·skip
   refine gop_e (decide_eq_false hc10) ?_
   refine gop_sf ?_
   refine gop_e (decide_eq_false hc10) ?_
   refine gop_sf ?_
   refine gop_e (decide_eq_false hc10) ?_
   refine gop_sf ?_
   refine gop_e (decide_eq_false hc10) ?_
   refine gop_sf ?_
   refine gop_e (decide_eq_false hc10) ?_
   refine gop_sf ?_
   refine gop_e (decide_eq_false hc10) ?_
   refine gop_sf ?_
   refine gop_e (decide_eq_false hc10) ?_
   refine gop_sf ?_
   refine gop_e (decide_eq_false hc10) ?_
   refine gop_sf ?_
   refine gop_e (decide_eq_false hc10) ?_
   refine gop_sf ?_
   refine ob_i (vPick_ef (decide_eq_false hc10) _ _) ?_
   refine cnd_f1 ?_
   exact hJ4 _ _ ⟨j, g0L9, g3L9, g4L9, (g5L9.trans (congrArg (Value.int .i64) (by first | omega | rfl | (simp; done)))), lE, (by have := run_end (a := a) (e := a + j) (by omega) (by rw [show a + j - a = j by omega]; exact hm0') (by omega) (Or.inl (by omega)); omega), (by omega), (by have h9 := run_end (a := a) (e := a + j) (by omega) (by rw [show a + j - a = j by omega]; exact hm0') (by omega) (Or.inl (by omega)); have := (run_pos (row := row) (a := a) (by omega)).1; omega)⟩
 ·skip
  have ti := hg3
  have hfin : out = rtx row := by rw [← hm2, show row.drop a = [] from List.drop_eq_nil_of_le (by omega), rtx_nil, List.append_nil]
  exact hJ1 _ _ ⟨(g3L2.trans (congrArg vS hfin)), lE⟩
theorem C.spec_l05Write {p vc : Value} {r c : Int} {l : List Int}  {H : Hp} {K : Value → Hp → Prop} (hp0 : CelR H p [(.int .i64 (r)), (.int .i64 (c)), vc]) (hvc0 : Sl eI H vc l) (hf : fieldN 1 r c l)
    (hk : ∀ H', Le H H' → K (vS (fieldT r c l)) H') : HT prg I.spec_l05Write [p].toArray H K := by
 have lE := Le.refl H
 have hp := hp0
 refine R.spec_l05Write ?_
 unfold F.spec_l05Write
 have hs := hf.1
 have hl := hf.2.1
 have q1 := hs.1
 have q2 := hs.2
 have qm := sidesF_mul hs
 have l1 := fieldN_len hf
 have dc := decT_len c.toNat
 have dr := decT_len r.toNat
 refine ob_i (hp.nilC) ?_
 refine ob_i (hp.fa 1) ?_
 refine ob_i (hp.ld 1 rfl) ?_
 refine ob_i (hp.nilC) ?_
 refine ob_i (hp.fa 0) ?_
 refine ob_i (hp.ld 0 rfl) ?_
 refine C.spec_l05Number (by first | omega | assumption) (by first | omega | assumption) (fun   H1    le2 => ?_)
 replace hp := hp.le le2
 replace lE := lE.trans le2
 refine ⟨le2, ?_⟩
 refine ob_i (vStr_add (a := decT c.toNat) (b := ([44] : List UInt8)) (by first | omega | (simp only [List.length_cons, List.length_nil]; omega))) ?_
 refine C.spec_l05Number (by first | omega | assumption) (by first | omega | assumption) (fun   H3    le4 => ?_)
 replace hp := hp.le le4
 replace lE := lE.trans le4
 refine ⟨le4, ?_⟩
 refine ob_i (vStr_add (a := (decT c.toNat) ++ ([44] : List UInt8)) (b := decT r.toNat) (by first | omega | (simp only [List.length_append, List.length_cons, List.length_nil]; omega))) ?_
 refine ob_i (vStr_add (a := ((decT c.toNat) ++ ([44] : List UInt8)) ++ (decT r.toNat)) (b := ([58] : List UInt8)) (by first | omega | (simp only [List.length_append, List.length_cons, List.length_nil]; omega))) ?_
 refine jn_i (fun σ' H' => σ' 3 = (vS (headT r c ++ joinR c.toNat l r.toNat)) ∧ Le H H') (fun σ5 H5 hP => ?_) (fun J5 hJ5 => ?_)
 ·skip
  obtain ⟨g3L5, lE⟩ := hP
  try simp only [g3L5]
  have jl0 := joinR_len (c := c.toNat) (l := l) r.toNat
  have jm0 : r.toNat * (3 * c.toNat + 1) ≤ 24 * 73 := Nat.mul_le_mul (by omega) (by omega)
  have hl0 := headT_len r c
  refine ob_i (vStr_add (a := headT r c ++ joinR c.toNat l r.toNat) (b := ([33] : List UInt8)) (by first | omega | (simp only [List.length_append, List.length_cons, List.length_nil]; omega))) ?_
  skip
  exact keq (K := K) (by rw [show (fieldT r c l) = ((headT r c ++ joinR c.toNat l r.toNat) ++ ([33] : List UInt8)) from by rfl]; try rfl) (hk   _    lE)
 refine ⟨fun n' σ' H' => ∃ i : Nat, n' = r.toNat - i ∧ i ≤ r.toNat ∧ σ' 0 = p ∧ σ' 3 = (vS (headT r c ++ joinR c.toNat l i)) ∧ σ' 4 = (.int .i64 ((i : Int))) ∧ Le H H',
  ⟨_, 0, rfl, by omega, rfl, (congrArg vS (by rw [joinR_zero, List.append_nil]; rfl)), (congrArg (Value.int .i64) (by first | omega | rfl | (simp; done))), lE⟩, ?_⟩
 rintro n6 σ6 H6 ⟨i, rfl, hiN, g0L6, g3L6, g4L6, lE⟩
 have hp := hp0.le lE
 try simp only [g0L6, g3L6, g4L6]
 have jl0 := joinR_len (c := c.toNat) (l := l) i
 have jm0 : i * (3 * c.toNat + 1) ≤ 24 * 73 := Nat.mul_le_mul (by omega) (by omega)
 have hl0 := headT_len r c
 refine ob_i (hp.nilC) ?_
 refine ob_i (hp.fa 0) ?_
 refine ob_i (hp.ld 0 rfl) ?_
 refine ob_i (vInt_lss _ _ _) ?_
 refine cnd_d (fun hg7 => ?_) (fun hg7 => ?_)
 ·skip
  have ti := hg7
  have rm := row_mul (i := i) hs (by omega)
  refine jn_i (fun σ' H' => σ' 0 = p ∧ σ' 3 = (vS (headT r c ++ joinR c.toNat l (i + 1))) ∧ σ' 4 = (.int .i64 ((i : Int))) ∧ Le H H') (fun σ8 H8 hP => ?_) (fun J8 hJ8 => ?_)
  ·skip
   obtain ⟨g0L8, g3L8, g4L8, lE⟩ := hP
   try simp only [g4L8]
   refine ob_i (vInt_add (by omega) (by omega)) ?_
   exact nxt (r.toNat - (i + 1)) (by omega) ⟨i + 1, rfl, by omega, g0L8, g3L8, (congrArg (Value.int .i64) (by first | omega | rfl | (simp; done))), lE⟩
  refine jn_i (fun σ' H' => ∃ B : List UInt8, σ' 0 = p ∧ σ' 3 = (vS (B)) ∧ σ' 4 = (.int .i64 ((i : Int))) ∧ Le H H' ∧ B ++ rtx (rowL c.toNat l i) = headT r c ++ joinR c.toNat l (i + 1)) (fun σ9 H9 hP => ?_) (fun J9 hJ9 => ?_)
  ·skip
   obtain ⟨B, g0L9, g3L9, g4L9, lE, hB⟩ := hP
   have hp := hp0.le lE
   try simp only [g0L9, g4L9]
   refine ob_i (hp.nilC) ?_
   refine ob_i (hp.fa 2) ?_
   refine ob_i (hp.ld 2 rfl) ?_
   refine ob_i (hp.nilC) ?_
   refine ob_i (hp.fa 1) ?_
   refine ob_i (hp.ld 1 rfl) ?_
   refine ob_i (vInt_mul (by omega) (by omega)) ?_
   refine ob_i (vInt_add (by omega) (by omega)) ?_
   refine ob_i (hp.nilC) ?_
   refine ob_i (hp.fa 1) ?_
   refine ob_i (hp.ld 1 rfl) ?_
   refine ob_i (vInt_mul (by omega) (by omega)) ?_
   obtain ⟨x10, eq11a, eq11b, eq11c, eq11d, hx100, hb12⟩ := hvc0.cut (lo := (i : Int) * c) (hi := ((i : Int) + 1) * c) (by omega) (by omega) (by omega)
   refine ob_i (eq11a) ?_
   rw [row_eq (l := l) (i := i) hs (by omega)] at hx100
   obtain ⟨row, hr0⟩ : ∃ row, row = rowL c.toNat l i := ⟨_, rfl⟩
   rw [← hr0] at hx100 hB
   have hrl : row.length = c.toNat := by rw [hr0]; exact rowL_len (r := r.toNat) (by rw [← Int.natCast_inj]; rw [Int.natCast_mul, Int.toNat_of_nonneg (by omega), Int.toNat_of_nonneg (by omega)]; exact hl) (by omega)
   have rtl := rtx_len row.length row (Nat.le_refl _)
   have bl := congrArg List.length hB
   simp only [List.length_append] at bl
   have jl := joinR_len (c := c.toNat) (l := l) (i + 1)
   have jm : (i + 1) * (3 * c.toNat + 1) ≤ 24 * 73 := Nat.mul_le_mul (by omega) (by omega)
   have hl6 := headT_len r c
   have hx10 := hx100.le lE
   refine ob_i (hx10.len) ?_
   refine jn_i (fun σ' H' => ∃ e : Nat, σ' 0 = p ∧ σ' 3 = (vS (B)) ∧ σ' 4 = (.int .i64 ((i : Int))) ∧ σ' 5 = x10 ∧ σ' 6 = (.int .i64 ((e : Int))) ∧ Le H H' ∧ endP row e ∧ (0 < e → at_ 0 row ((e - 1 : Nat) : Int) ≠ 0) ∧ e ≤ c.toNat) (fun σ13 H13 hP => ?_) (fun J13 hJ13 => ?_)
   ·skip
    obtain ⟨e, g0L13, g3L13, g4L13, g5L13, g6L13, lE, hend, hlast, hec⟩ := hP
    have hx10 := hx100.le lE
    try simp only [g3L13, g5L13, g6L13]
    refine ⟨fun n' σ' H' => ∃ t : Nat, n' = c.toNat - t ∧ t ≤ c.toNat ∧ ∃ out : List UInt8, ∃ a : Nat, σ' 0 = p ∧ σ' 3 = (vS (out)) ∧ σ' 4 = (.int .i64 ((i : Int))) ∧ σ' 5 = x10 ∧ σ' 6 = (.int .i64 ((e : Int))) ∧ σ' 7 = (.int .i64 ((a : Int))) ∧ Le H H' ∧ t ≤ a ∧ a ≤ e ∧ out ++ rtx (row.drop a) = B ++ rtx row,
     ⟨_, 0, rfl, by omega, B, 0, g0L13, g3L13, g4L13, g5L13, g6L13, (congrArg (Value.int .i64) (by first | omega | rfl | (simp; done))), lE, (by omega), (by omega), rfl⟩, ?_⟩
    rintro n14 σ14 H14 ⟨t, rfl, htN, out, a, g0L14, g3L14, g4L14, g5L14, g6L14, g7L14, lE, hq0, hq1, hq2⟩
    have hx10 := hx100.le lE
    try simp only [g6L14, g7L14]
    have ol := congrArg List.length hq2
    simp only [List.length_append] at ol
    refine ob_i (vInt_lss _ _ _) ?_
    refine cnd_d (fun hg15 => ?_) (fun hg15 => ?_)
    ·skip
     have tt := hg15
     refine jn_i (fun σ' H' => ∃ k : Nat, σ' 0 = p ∧ σ' 3 = (vS (out)) ∧ σ' 4 = (.int .i64 ((i : Int))) ∧ σ' 5 = x10 ∧ σ' 6 = (.int .i64 ((e : Int))) ∧ σ' 7 = (.int .i64 ((a : Int))) ∧ σ' 8 = (.int .i64 ((k : Int))) ∧ Le H H' ∧ k = rN (at_ 0 row (a : Int)) (row.drop a) ∧ ¬ (at_ 0 row (a : Int) = 0 ∧ a + k = row.length) ∧ 1 ≤ k ∧ a + k ≤ e) (fun σ16 H16 hP => ?_) (fun J16 hJ16 => ?_)
     ·skip
      obtain ⟨k, g0L16, g3L16, g4L16, g5L16, g6L16, g7L16, g8L16, lE, hk, hne, hk1, hk2⟩ := hP
      have hx10 := hx100.le lE
      try simp only [g3L16, g5L16, g7L16, g8L16]
      have dl := decT_len (k : Int).toNat
      refine ob_i (vInt_gtr _ _ _) ?_
      refine cnd_d (fun hg17 => ?_) (fun hg17 => ?_)
      ·skip
       refine C.spec_l05Number (by first | omega | assumption) (by first | omega | assumption) (fun   H18    le19 => ?_)
       replace hx10 := hx10.le le19
       replace lE := lE.trans le19
       refine ob_i (vStr_add (a := out) (b := decT (k : Int).toNat) (by first | omega | (simp only [List.length_append, List.length_cons, List.length_nil, List.length_take, List.length_drop]; omega))) ?_
       refine ob_i (hx10.ix (by omega) (by omega)) ?_
       refine ob_i (hx10.ld 0 (by omega) (by omega)) ?_
       refine ob_i (vInt_eql _ _ _) ?_
       refine cnd_d (fun hg20 => ?_) (fun hg20 => ?_)
       ·skip
        refine ob_i (vStr_add (a := out ++ (decT (k : Int).toNat)) (b := ([111] : List UInt8)) (by first | omega | (simp only [List.length_append, List.length_cons, List.length_nil]; omega))) ?_
        refine ob_i (vInt_add (by omega) (by omega)) ?_
        exact nxt (c.toNat - (t + 1)) (by omega) ⟨t + 1, rfl, by omega, ((out ++ (decT (k : Int).toNat)) ++ ([111] : List UInt8)), (a + k), g0L16, rfl, g4L16, g5L16, g6L16, (congrArg (Value.int .i64) (by omega)), lE, (by omega), (by omega), (by rw [← hq2, rtx_run (a := a) (k := k) (by omega) hk hne, if_neg (show ¬ k = 1 by omega), chT_1 hg20]; simp only [List.append_assoc, Int.toNat_natCast])⟩
       ·skip
        refine ob_i (vStr_add (a := out ++ (decT (k : Int).toNat)) (b := ([98] : List UInt8)) (by first | omega | (simp only [List.length_append, List.length_cons, List.length_nil]; omega))) ?_
        refine ob_i (vInt_add (by omega) (by omega)) ?_
        exact nxt (c.toNat - (t + 1)) (by omega) ⟨t + 1, rfl, by omega, ((out ++ (decT (k : Int).toNat)) ++ ([98] : List UInt8)), (a + k), g0L16, rfl, g4L16, g5L16, g6L16, (congrArg (Value.int .i64) (by omega)), lE, (by omega), (by omega), (by rw [← hq2, rtx_run (a := a) (k := k) (by omega) hk hne, if_neg (show ¬ k = 1 by omega), chT_0 hg20]; simp only [List.append_assoc, Int.toNat_natCast])⟩
      ·skip
       refine ob_i (hx10.ix (by omega) (by omega)) ?_
       refine ob_i (hx10.ld 0 (by omega) (by omega)) ?_
       refine ob_i (vInt_eql _ _ _) ?_
       refine cnd_d (fun hg21 => ?_) (fun hg21 => ?_)
       ·skip
        refine ob_i (vStr_add (a := out) (b := ([111] : List UInt8)) (by first | omega | (simp only [List.length_cons, List.length_nil]; omega))) ?_
        refine ob_i (vInt_add (by omega) (by omega)) ?_
        exact nxt (c.toNat - (t + 1)) (by omega) ⟨t + 1, rfl, by omega, (out ++ ([111] : List UInt8)), (a + k), g0L16, rfl, g4L16, g5L16, g6L16, (congrArg (Value.int .i64) (by omega)), lE, (by omega), (by omega), (by rw [← hq2, rtx_run (a := a) (k := k) (by omega) hk hne, if_pos (show k = 1 by omega), chT_1 hg21]; simp only [List.append_assoc, List.nil_append])⟩
       ·skip
        refine ob_i (vStr_add (a := out) (b := ([98] : List UInt8)) (by first | omega | (simp only [List.length_cons, List.length_nil]; omega))) ?_
        refine ob_i (vInt_add (by omega) (by omega)) ?_
        exact nxt (c.toNat - (t + 1)) (by omega) ⟨t + 1, rfl, by omega, (out ++ ([98] : List UInt8)), (a + k), g0L16, rfl, g4L16, g5L16, g6L16, (congrArg (Value.int .i64) (by omega)), lE, (by omega), (by omega), (by rw [← hq2, rtx_run (a := a) (k := k) (by omega) hk hne, if_pos (show k = 1 by omega), chT_0 hg21]; simp only [List.append_assoc, List.nil_append])⟩
     refine ⟨fun n' σ' H' => ∃ j : Nat, n' = c.toNat - j ∧ j ≤ c.toNat ∧ σ' 0 = p ∧ σ' 3 = (vS (out)) ∧ σ' 4 = (.int .i64 ((i : Int))) ∧ σ' 5 = x10 ∧ σ' 6 = (.int .i64 ((e : Int))) ∧ σ' 7 = (.int .i64 ((a : Int))) ∧ σ' 8 = (.int .i64 ((1 : Int) + (j : Int))) ∧ Le H H' ∧ 1 + j ≤ rN (at_ 0 row (a : Int)) (row.drop a) ∧ a + (1 + j) ≤ e,
      ⟨_, 0, rfl, by omega, g0L14, g3L14, g4L14, g5L14, g6L14, g7L14, (congrArg (Value.int .i64) (by first | omega | rfl | (simp; done))), lE, (by have := run_zero (row := row) (a := a) (by omega); omega), (by omega)⟩, ?_⟩
     rintro n22 σ22 H22 ⟨j, rfl, hjN, g0L22, g3L22, g4L22, g5L22, g6L22, g7L22, g8L22, lE, hj0, hj1⟩
     have hx10 := hx100.le lE
     try simp only [g5L22, g6L22, g7L22, g8L22]
     refine ob_i (vInt_add (by omega) (by omega)) ?_
     refine ob_i (vInt_lss _ _ _) ?_
     by_cases hc23 : ((a : Int) + ((1 : Int) + (j : Int))) < (e : Int)
     ·skip
      refine gop_e (decide_eq_true hc23) ?_
      refine gop_rt ?_
      refine gop_e (decide_eq_true hc23) ?_
      refine gop_rt ?_
      refine gop_e (decide_eq_true hc23) ?_
      refine gop_rt ?_
      refine gop_e (decide_eq_true hc23) ?_
      refine gop_rt ?_
      refine ob_i (vInt_add (by omega) (by omega)) ?_
      refine gop_e (decide_eq_true hc23) ?_
      refine gop_rt ?_
      refine ob_i (hx10.ix (by omega) (by omega)) ?_
      refine gop_e (decide_eq_true hc23) ?_
      refine gop_rt ?_
      refine ob_i (hx10.ld 0 (by omega) (by omega)) ?_
      refine gop_e (decide_eq_true hc23) ?_
      refine gop_rt ?_
      refine gop_e (decide_eq_true hc23) ?_
      refine gop_rt ?_
      refine gop_e (decide_eq_true hc23) ?_
      refine gop_rt ?_
      refine ob_i (hx10.ix (by omega) (by omega)) ?_
      refine gop_e (decide_eq_true hc23) ?_
      refine gop_rt ?_
      refine ob_i (hx10.ld 0 (by omega) (by omega)) ?_
      refine gop_e (decide_eq_true hc23) ?_
      refine gop_rt ?_
      refine ob_i (vInt_eql _ _ _) ?_
      refine ob_i (vPick_et (decide_eq_true hc23) _ _) ?_
      refine cnd_d (fun hg24 => ?_) (fun hg24 => ?_)
      ·skip
       refine ob_i (vInt_add (by omega) (by omega)) ?_
       exact nxt (c.toNat - (j + 1)) (by omega) ⟨j + 1, rfl, by omega, g0L22, g3L22, g4L22, g5L22, g6L22, g7L22, (congrArg (Value.int .i64) (by first | omega | rfl | (simp; done))), lE, (by have := run_next (a := a) (e := a + (1 + j)) (by omega) (by rw [show a + (1 + j) - a = 1 + j by omega]; exact hj0) (by omega) (by rw [show ((a + (1 + j) : Nat) : Int) = (a : Int) + ((1 : Int) + (j : Int)) by omega]; exact hg24); omega), (by omega)⟩
      ·skip
       have hcut := run_cut (k := 1 + j) hend hlast (a := a) (by omega) (by omega) hj0 (by omega) (.inr (by rw [show ((a + (1 + j) : Nat) : Int) = (a : Int) + ((1 : Int) + (j : Int)) by omega]; exact hg24))
       exact hJ16 _ _ ⟨(1 + j), g0L22, g3L22, g4L22, g5L22, g6L22, g7L22, (g8L22.trans (congrArg (Value.int .i64) (by first | omega | rfl | (simp; done)))), lE, hcut.1, hcut.2, (by omega), (by omega)⟩
     ·skip
      refine gop_e (decide_eq_false hc23) ?_
      refine gop_sf ?_
      refine gop_e (decide_eq_false hc23) ?_
      refine gop_sf ?_
      refine gop_e (decide_eq_false hc23) ?_
      refine gop_sf ?_
      refine gop_e (decide_eq_false hc23) ?_
      refine gop_sf ?_
      refine gop_e (decide_eq_false hc23) ?_
      refine gop_sf ?_
      refine gop_e (decide_eq_false hc23) ?_
      refine gop_sf ?_
      refine gop_e (decide_eq_false hc23) ?_
      refine gop_sf ?_
      refine gop_e (decide_eq_false hc23) ?_
      refine gop_sf ?_
      refine gop_e (decide_eq_false hc23) ?_
      refine gop_sf ?_
      refine gop_e (decide_eq_false hc23) ?_
      refine gop_sf ?_
      refine gop_e (decide_eq_false hc23) ?_
      refine gop_sf ?_
      refine ob_i (vPick_ef (decide_eq_false hc23) _ _) ?_
      refine cnd_f1 ?_
      have hcut := run_cut (k := 1 + j) hend hlast (a := a) (by omega) (by omega) hj0 (by omega) (.inl (by omega))
      exact hJ16 _ _ ⟨(1 + j), g0L22, g3L22, g4L22, g5L22, g6L22, g7L22, (g8L22.trans (congrArg (Value.int .i64) (by first | omega | rfl | (simp; done)))), lE, hcut.1, hcut.2, (by omega), (by omega)⟩
    ·skip
     have tt := hg15
     exact hJ8 _ _ ⟨g0L14, (g3L14.trans (congrArg vS (by rw [show a = e by omega, endP_rtx hend, List.append_nil] at hq2; rw [hq2, hB]))), g4L14, lE⟩
   refine ⟨fun n' σ' H' => ∃ j : Nat, n' = c.toNat - j ∧ j ≤ c.toNat ∧ σ' 0 = p ∧ σ' 3 = (vS (B)) ∧ σ' 4 = (.int .i64 ((i : Int))) ∧ σ' 5 = x10 ∧ σ' 6 = (.int .i64 (((c.toNat - j : Nat) : Int))) ∧ Le H H' ∧ endP row (c.toNat - j),
    ⟨_, 0, rfl, by omega, g0L9, g3L9, g4L9, rfl, (congrArg (Value.int .i64) (by first | omega | rfl | (simp; done))), lE, ⟨by omega, fun q h1 h2 => by omega⟩⟩, ?_⟩
   rintro n25 σ25 H25 ⟨j, rfl, hjN, g0L25, g3L25, g4L25, g5L25, g6L25, lE, he0⟩
   have hx10 := hx100.le lE
   try simp only [g5L25, g6L25]
   refine ob_i (vInt_gtr _ _ _) ?_
   by_cases hc26 : 0 < (((c.toNat - j : Nat) : Int))
   ·skip
    refine gop_e (decide_eq_true hc26) ?_
    refine gop_rt ?_
    refine gop_e (decide_eq_true hc26) ?_
    refine gop_rt ?_
    refine gop_e (decide_eq_true hc26) ?_
    refine gop_rt ?_
    refine ob_i (vInt_sub (by omega) (by omega)) ?_
    refine gop_e (decide_eq_true hc26) ?_
    refine gop_rt ?_
    refine ob_i (hx10.ix (by omega) (by omega)) ?_
    refine gop_e (decide_eq_true hc26) ?_
    refine gop_rt ?_
    refine ob_i (hx10.ld 0 (by omega) (by omega)) ?_
    refine gop_e (decide_eq_true hc26) ?_
    refine gop_rt ?_
    refine ob_i (vInt_eql _ _ _) ?_
    refine ob_i (vPick_et (decide_eq_true hc26) _ _) ?_
    refine cnd_d (fun hg27 => ?_) (fun hg27 => ?_)
    ·skip
     refine ob_i (vInt_sub (by omega) (by omega)) ?_
     exact nxt (c.toNat - (j + 1)) (by omega) ⟨j + 1, rfl, by omega, g0L25, g3L25, g4L25, g5L25, (congrArg (Value.int .i64) (by first | omega | rfl | (simp; done))), lE, (endP_back he0 (by omega) hg27 (by omega))⟩
    ·skip
     exact hJ13 _ _ ⟨(c.toNat - j), g0L25, g3L25, g4L25, g5L25, (g6L25.trans (congrArg (Value.int .i64) (by first | omega | rfl | (simp; done)))), lE, he0, (fun h => by rw [show ((c.toNat - j - 1 : Nat) : Int) = ((c.toNat - j : Nat) : Int) - 1 by omega]; exact hg27), (by omega)⟩
   ·skip
    refine gop_e (decide_eq_false hc26) ?_
    refine gop_sf ?_
    refine gop_e (decide_eq_false hc26) ?_
    refine gop_sf ?_
    refine gop_e (decide_eq_false hc26) ?_
    refine gop_sf ?_
    refine gop_e (decide_eq_false hc26) ?_
    refine gop_sf ?_
    refine gop_e (decide_eq_false hc26) ?_
    refine gop_sf ?_
    refine gop_e (decide_eq_false hc26) ?_
    refine gop_sf ?_
    refine ob_i (vPick_ef (decide_eq_false hc26) _ _) ?_
    refine cnd_f1 ?_
    exact hJ13 _ _ ⟨(c.toNat - j), g0L25, g3L25, g4L25, g5L25, (g6L25.trans (congrArg (Value.int .i64) (by first | omega | rfl | (simp; done)))), lE, he0, (fun h => absurd h (by omega)), (by omega)⟩
  refine ob_i (vInt_gtr _ _ _) ?_
  refine cnd_d (fun hg28 => ?_) (fun hg28 => ?_)
  ·skip
   have tj := hg28
   refine ob_i (vStr_add (a := headT r c ++ joinR c.toNat l i) (b := ([36] : List UInt8)) (by first | omega | (simp only [List.length_append, List.length_cons, List.length_nil]; omega))) ?_
   exact hJ9 _ _ ⟨_, g0L6, rfl, g4L6, lE, (by rw [joinR_succ (by omega)]; simp only [List.append_assoc])⟩
  ·skip
   have tj := hg28
   exact hJ9 _ _ ⟨_, g0L6, g3L6, g4L6, lE, (by rw [joinR_one (by omega), show joinR c.toNat l i = [] by rw [show i = 0 by omega, joinR_zero], List.append_nil])⟩
 ·skip
  have ti := hg7
  exact hJ5 _ _ ⟨(g3L6.trans (congrArg vS (by rw [show i = r.toNat by omega]))), lE⟩
theorem C.impl_Field_text {vc : Value} {r c : Int} {l : List Int}  {H : Hp} {K : Value → Hp → Prop} (hvc0 : Sl eI H vc l) (hf : fieldN 1 r c l)
    (hk : ∀ H', Le H H' → K (vS (fieldT r c l)) H') : HT prg I.impl_Field_text [(.agg #[(.int .i64 (r)), (.int .i64 (c)), vc])].toArray H K := by
 have lE := Le.refl H
 have hvc := hvc0
 refine R.impl_Field_text ?_
 unfold F.impl_Field_text
 have hs := hf.1
 have hl := hf.2.1
 have q1 := hs.1
 have q2 := hs.2
 have qm := sidesF_mul hs
 have l1 := fieldN_len hf
 have hlN : l.length = r.toNat * c.toNat := by rw [← Int.natCast_inj, Int.natCast_mul, Int.toNat_of_nonneg (by omega), Int.toNat_of_nonneg (by omega)]; exact hl
 have dc := decT_len c.toNat
 have dr := decT_len r.toNat
 have rf := rowsT_flat (c := c.toNat) (l := l) r.toNat
 have rg : r.toNat * (3 * c.toNat) ≤ 24 * 72 := Nat.mul_le_mul (by omega) (by omega)
 have rjl : (joinT [36] (rowsT c.toNat l r.toNat)).length ≤ r.toNat * (3 * c.toNat + 1) := joinR_len _
 have rjm : r.toNat * (3 * c.toNat + 1) ≤ 24 * 73 := Nat.mul_le_mul (by omega) (by omega)
 have rn := rowsT_len (c := c.toNat) (l := l) (n := r.toNat)
 refine nw_i (fun pf H1 opf nn2 le3 => ?_)
 replace hvc := hvc.le le3
 replace lE := lE.trans le3
 replace opf : Cel H1 pf [(.int .i64 (r)), (.int .i64 (c)), vc] := opf
 refine bS_nil (enc := vS) (fun ou H4 oou nn5 kk6 le7 => ?_)
 have apfXou : Apart pf ou := opf.apart nn5
 have nou : Nw H ou := nn5.le lE
 replace opf := opf.le le7
 replace hvc := hvc.le le7
 replace lE := lE.trans le7
 refine nw_i (fun po H8 opo nn9 le10 => ?_)
 have apfXpo : Apart pf po := opf.apart nn9
 have aouXpo : Apart ou po := oou.apart nn9
 have npo : Nw H po := nn9.le lE
 replace opf := opf.le le10
 replace oou := oou.le le10
 replace hvc := hvc.le le10
 replace lE := lE.trans le10
 replace opo : Cel H8 po [(.slice none 0 0)] := opo
 refine opo.st0 (by simp) oou.one oou.cells (fun H11 opo off12 => ?_)
 replace opf := opf.off off12 apfXpo
 replace oou := oou.off off12 aouXpo
 replace hvc := hvc0.le (off12.le lE npo)
 replace lE := off12.le lE npo
 replace opo : Cel H11 po [ou] := opo
 refine jn_i (fun σ' H' => ∃ ou, σ' 1 = pf ∧ σ' 3 = po ∧ Cel H' pf [(.int .i64 (r)), (.int .i64 (c)), vc] ∧ Own vS H' ou (rowsT c.toNat l r.toNat) ∧ Cel H' po [ou] ∧ Nw H ou ∧ Apart pf ou ∧ Apart ou po ∧ Le H H') (fun σ13 H13 hP => ?_) (fun J13 hJ13 => ?_)
 ·skip
  obtain ⟨ou, g1L13, g3L13, opf, oou, opo, nou, apfXou, aouXpo, lE⟩ := hP
  try simp only [g1L13, g3L13]
  refine ob_i (opf.fa 1) ?_
  refine ob_i (opf.ld 1 rfl) ?_
  refine ob_i (opf.fa 0) ?_
  refine ob_i (opf.ld 0 rfl) ?_
  refine ob_i (opo.ld0 rfl) ?_
  refine C.impl_Decimal (by first | omega | assumption) (by first | omega | assumption) ?_
  refine ⟨Le.refl _, ?_⟩
  refine ob_i (vStr_add (a := decT c.toNat) (b := ([44] : List UInt8)) (by first | omega | (simp only [List.length_cons, List.length_nil]; omega))) ?_
  refine C.impl_Decimal (by first | omega | assumption) (by first | omega | assumption) ?_
  refine ⟨Le.refl _, ?_⟩
  refine ob_i (vStr_add (a := (decT c.toNat) ++ ([44] : List UInt8)) (b := decT r.toNat) (by first | omega | (simp only [List.length_append, List.length_cons, List.length_nil]; omega))) ?_
  refine ob_i (vStr_add (a := ((decT c.toNat) ++ ([44] : List UInt8)) ++ (decT r.toNat)) (b := ([58] : List UInt8)) (by first | omega | (simp only [List.length_append, List.length_cons, List.length_nil]; omega))) ?_
  refine C.strings_Join oou.sl (by first | omega | assumption) (by first | omega | assumption) (fun   H14    le15 => ?_)
  replace lE := lE.trans le15
  refine ⟨le15, ?_⟩
  refine ob_i (vStr_add (a := (((decT c.toNat) ++ ([44] : List UInt8)) ++ (decT r.toNat)) ++ ([58] : List UInt8)) (b := joinT [36] (rowsT c.toNat l r.toNat)) (by first | omega | (simp only [List.length_append, List.length_cons, List.length_nil]; omega))) ?_
  refine ob_i (vStr_add (a := ((((decT c.toNat) ++ ([44] : List UInt8)) ++ (decT r.toNat)) ++ ([58] : List UInt8)) ++ (joinT [36] (rowsT c.toNat l r.toNat))) (b := ([33] : List UInt8)) (by first | omega | (simp only [List.length_append, List.length_cons, List.length_nil]; omega))) ?_
  skip
  exact keq (K := K) (by rw [show (fieldT r c l) = ((((((decT c.toNat) ++ ([44] : List UInt8)) ++ (decT r.toNat)) ++ ([58] : List UInt8)) ++ (joinT [36] (rowsT c.toNat l r.toNat))) ++ ([33] : List UInt8)) from by rfl]; try rfl) (hk   _    lE)
 refine ob_i (opf.fa 2) ?_
 refine ob_i (opf.ld 2 rfl) ?_
 refine ob_i (opf.fa 1) ?_
 refine ob_i (opf.ld 1 rfl) ?_
 refine C.slices_Chunk hvc (by omega) (fun ps16 pn17 H18 ops16 opn17 nn20 nn21 aps16Xpn17 le19 => ?_)
 have aouXps16 : Apart ou ps16 := oou.apart nn20
 have apoXps16 : Apart po ps16 := opo.apart nn20
 have aouXpn17 : Apart ou pn17 := oou.apart nn21
 have apoXpn17 : Apart po pn17 := opo.apart nn21
 replace opf := opf.le le19
 replace oou := oou.le le19
 replace opo := opo.le le19
 replace hvc := hvc.le le19
 replace lE := lE.trans le19
 replace ops16 : Cel H18 ps16 [vc] := ops16
 replace opn17 : Cel H18 pn17 [(.int .i64 (c))] := opn17
 refine rgE_i (r.toNat) (fun (i : Nat) => [chV vc (i * c.toNat) c.toNat]) (fun (i : Nat) H' => ∃ ou, Cel H' pf [(.int .i64 (r)), (.int .i64 (c)), vc] ∧ Own vS H' ou (rowsT c.toNat l i) ∧ Cel H' po [ou] ∧ Cel H' ps16 [vc] ∧ Cel H' pn17 [(.int .i64 (c))] ∧ Nw H ou ∧ Apart pf ou ∧ Apart ou po ∧ Apart ou ps16 ∧ Apart ou pn17 ∧ Le H H') trivial (fun _ => rfl) ⟨ou, opf, (Own.cast (by first | rfl | (simp; done)) oou), opo, ops16, opn17, nou, apfXou, aouXpo, aouXps16, aouXpn17, lE⟩ (fun i H22 σ22 Q22 hiN hσ22 qn22 qr22 qx22 hI22 => ?_) (fun H22 hI22 => ?_) (fun yv J St H1 K1 hJ h0 hst hk1 hs1 => ?_)
 ·obtain ⟨ou, opf, oou, opo, ops16, opn17, nou, apfXou, aouXpo, aouXps16, aouXpn17, lE⟩ := hI22
  have hvc := hvc0.le lE
  have hmz23 : (i + 1) * c.toNat ≤ r.toNat * c.toNat := Nat.mul_le_mul_right _ (by omega)
  rw [Nat.add_mul, Nat.one_mul] at hmz23
  have hz230 : Sl eI H (chV vc (i * c.toNat) c.toNat) (rowL c.toNat l i) := (chV_sl hvc0 (lo := i * c.toNat) (c := c.toNat) (by omega)).2
  obtain ⟨z23, ez23⟩ : ∃ z, z = chV vc (i * c.toNat) c.toNat := ⟨_, rfl⟩
  rw [← ez23] at hz230
  have hz23 := hz230.le lE
  have rz23 : (rowL c.toNat l i).length = c.toNat := rowL_len (r := r.toNat) hlN (by omega)
  have g3L22 : σ22 3 = po := by rw [hσ22]; exact rfl
  have g11L22 : σ22 11 = z23 := by rw [hσ22, ← ez23]; rfl
  try simp only [g3L22, g11L22]
  have ri := rowsT_len (c := c.toNat) (l := l) (n := i)
  refine ob_i (opo.ld0 rfl) ?_
  refine C.impl_runsText hz23 (by first | omega | assumption) (by exact row_01 hf.2.2) (fun   H24    le25 => ?_)
  replace opf := opf.le le25
  replace oou := oou.le le25
  replace opo := opo.le le25
  replace ops16 := ops16.le le25
  replace opn17 := opn17.le le25
  replace hvc := hvc.le le25
  replace hz23 := hz23.le le25
  replace lE := lE.trans le25
  refine ⟨le25, ?_⟩
  refine bS_i (enc := vS) (l := [rtx (rowL c.toNat l i)]) (by omega) rfl (by kernel_rfl) (fun u26 H27 ou26 nn28 le30 => ?_)
  replace opf := opf.le le30
  replace oou := oou.le le30
  replace opo := opo.le le30
  replace ops16 := ops16.le le30
  replace opn17 := opn17.le le30
  replace hvc := hvc.le le30
  replace hz23 := hz23.le le30
  replace lE := lE.trans le30
  refine apd_any oou ou26.sl (fun _ => rfl) (by omega) (by first | omega | (simp only [List.length_cons, List.length_nil]; omega)) (fun u34 H31 ou34 off32 hb33 => ?_)
  have apfXu34 : Apart pf u34 := Apart.ap2 opf.known apfXou hb33
  have apoXu34 : Apart po u34 := Apart.ap2 opo.known aouXpo.symm hb33
  have aps16Xu34 : Apart ps16 u34 := Apart.ap2 ops16.known aouXps16.symm hb33
  have apn17Xu34 : Apart pn17 u34 := Apart.ap2 opn17.known aouXpn17.symm hb33
  have nu34 : Nw H u34 := Nw.ap2 nou lE hb33
  replace opf := opf.off off32 apfXou
  replace opo := opo.off off32 aouXpo.symm
  replace ops16 := ops16.off off32 aouXps16.symm
  replace opn17 := opn17.off off32 aouXpn17.symm
  replace hvc := hvc0.le (off32.le lE nou)
  replace hz23 := hz230.le (off32.le lE nou)
  replace lE := off32.le lE nou
  refine opo.st0 (by simp) ou34.one ou34.cells (fun H35 opo off36 => ?_)
  replace opf := opf.off off36 apfXpo
  replace ops16 := ops16.off off36 apoXps16.symm
  replace opn17 := opn17.off off36 apoXpn17.symm
  replace ou34 := ou34.off off36 apoXu34.symm
  replace hvc := hvc0.le (off36.le lE npo)
  replace hz23 := hz230.le (off36.le lE npo)
  replace lE := off36.le lE npo
  replace opo : Cel H35 po [u34] := opo
  exact qn22 _ _ ⟨u34, opf, (Own.cast rowsT_succ.symm ou34), opo, ops16, opn17, nu34, apfXu34, apoXu34.symm, aps16Xu34.symm, apn17Xu34.symm, lE⟩
 ·obtain ⟨ou, opf, oou, opo, ops16, opn17, nou, apfXou, aouXpo, aouXps16, aouXpn17, lE⟩ := hI22
  exact hJ13 _ _ ⟨ou, rfl, rfl, opf, oou, opo, nou, apfXou, aouXpo, lE⟩
 ·refine ⟨by kernel_rfl, C.slices_ChunkZ1 (r := r.toNat) (c := c.toNat) hvc0 hlN (by omega) (by omega) (by omega) (fun t A hA => ?_) h0 hst hk1 hs1⟩
  obtain ⟨A', b, o, rfl, hn, ou, opf, oou, opo, ops16, opn17, nou, apfXou, aouXpo, aouXps16, aouXpn17, lE⟩ := hJ t A hA
  exact ⟨ops16.le (Le.put _ hn), Cel.castX (by rw [Int.toNat_of_nonneg (by omega)]) (opn17.le (Le.put _ hn))⟩
theorem C.impl_WriteRuns {vc : Value} {r c : Int} {l : List Int}  {H : Hp} {K : Value → Hp → Prop} (hvc0 : Sl eI H vc l) (k1 : l.length ≤ 9223372036854775807)
    (hk : ∀ H', Le H H' → K (.tuple #[(vS (selL (fieldN 1 r c l) (fieldT r c l))), (.bool (decide (fieldN 1 r c l)))]) H') : HT prg I.impl_WriteRuns [(.agg #[(.int .i64 (r)), (.int .i64 (c)), vc])].toArray H K := by
 have lE := Le.refl H
 have hvc := hvc0
 refine R.impl_WriteRuns ?_
 unfold F.impl_WriteRuns
 refine nw_i (fun p1 H2 op1 nn3 le4 => ?_)
 replace hvc := hvc.le le4
 replace lE := lE.trans le4
 replace op1 : Cel H2 p1 [(.int .i64 (r)), (.int .i64 (c)), vc] := op1
 refine ob_i (op1.ldn rfl) ?_
 refine C.impl_isPlain hvc (by first | omega | assumption) (fun   H5    le6 => ?_)
 replace op1 := op1.le le6
 replace hvc := hvc.le le6
 replace lE := lE.trans le6
 refine ob_nd (fun hc7 => ?_) (fun hc7 => ?_)
 ·skip
  refine cnd_f1 ?_
  refine ob_i (op1.ldn rfl) ?_
  refine C.impl_Field_text hvc (by first | omega | assumption) (fun   H8    le9 => ?_)
  replace lE := lE.trans le9
  skip
  have hok : fieldN 1 r c l := by assumption
  exact keq (K := K) (by rw [show (selL (fieldN 1 r c l) (fieldT r c l)) = (fieldT r c l) from by first | exact selL_t hok | exact selL_f hok]; rw [decide_eq_true (show (fieldN 1 r c l) from by exact hok)]; try rfl) (hk   _    lE)
 ·skip
  refine cnd_t1 ?_
  skip
  have hok : ¬ (fieldN 1 r c l) := by assumption
  exact keq (K := K) (by rw [show (selL (fieldN 1 r c l) (fieldT r c l)) = (([] : List UInt8)) from by first | exact selL_t hok | exact selL_f hok]; rw [decide_eq_false (show ¬ (fieldN 1 r c l) from by exact hok)]; try rfl) (hk   _    lE)
theorem C.spec_WriteRuns {vc : Value} {r c : Int} {l : List Int}  {H : Hp} {K : Value → Hp → Prop} (hvc0 : Sl eI H vc l) (k1 : l.length ≤ 9223372036854775807)
    (hk : ∀ H', Le H H' → K (.tuple #[(vS (selL (fieldN 1 r c l) (fieldT r c l))), (.bool (decide (fieldN 1 r c l)))]) H') : HT prg I.spec_WriteRuns [(.agg #[(.int .i64 (r)), (.int .i64 (c)), vc])].toArray H K := by
 have lE := Le.refl H
 have hvc := hvc0
 refine R.spec_WriteRuns ?_
 unfold F.spec_WriteRuns
 refine nw_i (fun p1 H2 op1 nn3 le4 => ?_)
 replace hvc := hvc.le le4
 replace lE := lE.trans le4
 replace op1 : Cel H2 p1 [(.int .i64 (r)), (.int .i64 (c)), vc] := op1
 refine C.spec_l04Plain op1 hvc (by first | omega | assumption) ?_
 refine ob_nd (fun hc5 => ?_) (fun hc5 => ?_)
 ·skip
  refine cnd_f1 ?_
  refine C.spec_l05Write op1.r hvc (by first | omega | assumption) (fun   H6    le7 => ?_)
  replace lE := lE.trans le7
  skip
  have hok : fieldN 1 r c l := by assumption
  exact keq (K := K) (by rw [show (selL (fieldN 1 r c l) (fieldT r c l)) = (fieldT r c l) from by first | exact selL_t hok | exact selL_f hok]; rw [decide_eq_true (show (fieldN 1 r c l) from by exact hok)]; try rfl) (hk   _    lE)
 ·skip
  refine cnd_t1 ?_
  skip
  have hok : ¬ (fieldN 1 r c l) := by assumption
  exact keq (K := K) (by rw [show (selL (fieldN 1 r c l) (fieldT r c l)) = (([] : List UInt8)) from by first | exact selL_t hok | exact selL_f hok]; rw [decide_eq_false (show ¬ (fieldN 1 r c l) from by exact hok)]; try rfl) (hk   _    lE)
end Go.Proofs.YtijmoehbgkibnaaGreatDoor
/- Fields that are read back by the program. -/
namespace Go.Proofs.YtijmoehbgkibnaaGreatDoor
open HL
set_option maxRecDepth 100000
attribute [local irreducible] vStr
attribute [local irreducible] Go.Lib.cut Go.Lib.trimSuffix Go.Lib.hasSuffix Go.Lib.indexAny
theorem chT_eq (x : Int) : (chT x).toNat = 111 ↔ x = 1 := by
  unfold chT; split
  · rename_i h; exact ⟨fun _ => h, fun _ => rfl⟩
  · rename_i h; exact ⟨fun h1 => absurd h1 (by decide), fun h1 => absurd h1 h⟩
theorem bit_t {x : Int} {c : UInt8} (hc : c = chT x) (h : ((c.toNat : Nat) : Int) = 111) : x = 1 := by subst hc; exact (chT_eq x).mp (by omega)
theorem bit_f {x : Int} {c : UInt8} (hc : c = chT x) (h : ¬ ((c.toNat : Nat) : Int) = 111) (h0 : 0 ≤ x) (h1 : x ≤ 1) : x = 0 := by
  subst hc
  have : x ≠ 1 := fun e => h (by have := (chT_eq x).mpr e; omega)
  omega
theorem take_bit {row : List Int} {a j : Nat} {x : Int} (h : a + j < row.length) (e : at_ 0 row ((a + j : Nat) : Int) = x) : row.take (a + j) ++ [x] = row.take (a + (j + 1)) := by
  rw [← e, ← Nat.add_assoc, take_at 0 row h]
theorem C.parse_ok {n : Int} {H : Hp} {K : Value → Hp → Prop} (n0 : 0 ≤ n) (n1 : n < 100) (hk : K (.tuple #[.int .i64 n, .nilIface]) H) : HT prg I.strconv_ParseInt [vS (decT n.toNat), .int .i64 10, .int .i64 64].toArray H K :=
  HT_below fun w hw => by
    have hd := decT_len n.toNat
    refine (parse_ok_calls (tS (decT n.toNat)) (by rw [tS_size]; omega) n (by rw [tS_data, parse_dec _ (by omega), Int.toNat_of_nonneg n0]) w).mono fun e w' ⟨he, hn⟩ => ?_
    rcases hn with hn | ⟨t, hn⟩
    · exact ⟨_, he, hn ▸ Go.RowKit.Below.refl _ _, hk⟩
    · exact ⟨_, he, hn ▸ below_bytes w 5 t, hk⟩
theorem C.impl_isValue {n : Int}  {H : Hp} {K : Value → Hp → Prop}
    (hk : K (.bool (decide (-1000000000000000 ≤ n ∧ n ≤ 1000000000000000))) H) : HT prg I.impl_isValue [(.int .i64 (n))].toArray H K := by
 have lE := Le.refl H
 refine R.impl_isValue ?_
 unfold F.impl_isValue
 refine C.impl_within  ?_
 skip
 exact keq (K := K) (by rw [show decide ((-1000000000000000) ≤ n ∧ n ≤ 1000000000000000) = decide (-1000000000000000 ≤ n ∧ n ≤ 1000000000000000) from decide_eq_decide.mpr (by first | omega | assumption)]; try rfl) (hk )
theorem C.read_ok {n : Int} {H : Hp} {K : Value → Hp → Prop} (n0 : 0 ≤ n) (n1 : n < 100) (hk : K (.tuple #[.int .i64 n, .bool true]) H) : HT prg I.impl_ReadDecimal [vS (decT n.toNat)].toArray H K := by
 refine R.impl_ReadDecimal ?_
 unfold F.impl_ReadDecimal
 refine C.parse_ok n0 n1 ?_
 refine ob_i (vExt_20 _ _) ?_
 refine ob_i (vExt_21 _ _) ?_
 refine ob_i (a := .bool false) (by kernel_rfl) ?_
 refine gop_rf ?_
 refine gop_rf ?_
 refine C.impl_isValue ?_
 rw [decide_eq_true (show -1000000000000000 ≤ n ∧ n ≤ 1000000000000000 by omega)]
 refine gop_rf ?_
 refine ob_i (a := .bool false) rfl ?_
 refine ob_i (vPick_f _ _) ?_
 refine gop_rf ?_
 refine gop_rf ?_
 refine C.impl_Decimal n0 n1 ?_
 refine gop_rf ?_
 refine gop_rf ?_
 refine ob_i (vStr_neq_same _) ?_
 refine ob_i (vPick_f _ _) ?_
 exact cnd_f1 hk
theorem C.impl_readRow {c : Int} {t0 : List UInt8} {row : List Int} {H : Hp} {K : Value → Hp → Prop} (hrl : (row.length : Int) = c) (hc : c ≤ 24) (h01 : ∀ x ∈ row, 0 ≤ x ∧ x ≤ 1) (ht : t0 = rtx row)
    (hk : ∀ u1 H', Own eI H' u1 row → Nw H u1 → Le H H' → K (.tuple #[u1, (.bool true)]) H') : HT prg I.impl_readRow [(vS (t0)), (.int .i64 (c))].toArray H K := by
 have lE := Le.refl H
 refine R.impl_readRow ?_
 unfold F.impl_readRow
 have rl := rtx_len row.length row (Nat.le_refl _)
 subst ht
 refine bS_nil (enc := eI) (fun u1 H2 ou1 nn3 kk4 le5 => ?_)
 have nu1 : Nw H u1 := nn3.le lE
 replace lE := lE.trans le5
 refine jn_i (fun σ' H' => ∃ u, ∃ a : Nat, σ' 1 = (.int .i64 (c)) ∧ σ' 6 = u ∧ Own eI H' u (row.take a) ∧ Nw H u ∧ Le H H' ∧ rtx (row.drop a) = [] ∧ a ≤ row.length) (fun σ6 H6 hP => ?_) (fun J6 hJ6 => ?_)
 ·skip
  obtain ⟨u, a, g1L6, g6L6, ou, nu, lE, hz, hal⟩ := hP
  try simp only [g1L6, g6L6]
  have tl : (row.take a).length = a := by rw [List.length_take]; omega
  have hfin : row.take a ++ List.replicate (c - ((row.take a).length : Int)).toNat 0 = row := by rw [tl, show (c - (a : Int)).toNat = row.length - a by omega]; exact rtx_end (by omega) hz hal
  refine ob_i (ou.len) ?_
  refine ob_i (vInt_gtr _ _ _) ?_
  refine cnd_d (fun hg7 => ?_) (fun hg7 => ?_)
  ·skip
   exact absurd hg7 (by omega)
  ·skip
   refine ob_i (ou.len) ?_
   refine ob_i (vInt_sub (by omega) (by omega)) ?_
   refine apm_any (x0 := (0 : Int)) ou rfl (by omega) (by omega) (by first | omega | (simp only [List.length_append, List.length_cons, List.length_nil, List.length_take, List.length_drop]; omega)) (fun u11 H8 ou11 off9 hb10 => ?_)
   have nu11 : Nw H u11 := Nw.ap2 nu lE hb10
   replace lE := off9.le lE nu
   skip
   exact hk  u11 _ (Own.cast (show (row.take a) ++ List.replicate (c - (((row.take a).length : Int)) : Int).toNat 0 = row by exact hfin) ou11) nu11  lE
 refine ⟨fun n' σ' H' => ∃ i : Nat, n' = row.length - i ∧ i ≤ row.length ∧ ∃ u, ∃ a : Nat, σ' 0 = (vS (rtx (row.drop a))) ∧ σ' 1 = (.int .i64 (c)) ∧ σ' 6 = u ∧ Own eI H' u (row.take a) ∧ Nw H u ∧ Le H H' ∧ i ≤ a ∧ a ≤ row.length,
  ⟨_, 0, rfl, by omega, u1, 0, rfl, rfl, rfl, (Own.cast (by first | rfl | (simp; done)) ou1), nu1, lE, (by omega), (by omega)⟩, ?_⟩
 rintro n12 σ12 H12 ⟨i, rfl, hiN, u, a, g0L12, g1L12, g6L12, ou, nu, lE, hm0, hm1⟩
 try simp only [g0L12, g1L12]
 have tl : (row.take a).length = a := by rw [List.length_take]; omega
 have rl2 := rtx_len row.length (row.drop a) (by simp)
 have dl : (row.drop a).length = row.length - a := List.length_drop
 refine ob_i (vStr_neq (rtx (row.drop a)) (([] : List UInt8))) ?_
 refine cnd_d (fun hg13 => ?_) (fun hg13 => ?_)
 ·skip
  have ti := hg13
  obtain ⟨ha, k, p, hak, hk1, hkp, hidx, hpl, hch, hdr, hsame⟩ := rtx_round (a := a) (by omega) hg13
  have hxa := h01 _ (at_mem 0 row (i := (a : Int)) (by omega) (by omega))
  refine C.strings_IndexAny (by omega) (by simp) (fun b hb => ?_) (by decide) ?_
  ·rcases rtx_asc row.length (row.drop a) (by simp) (by omega) b hb with h | rfl | rfl <;> first | omega | decide
  rw [hidx]
  refine ob_i (vInt_lss _ _ _) ?_
  refine cnd_d (fun hg14 => ?_) (fun hg14 => ?_)
  ·skip
   exact absurd hg14 (by omega)
  ·skip
   refine jn_i (fun σ' H' => σ' 0 = (vS (rtx (row.drop a))) ∧ σ' 1 = (.int .i64 (c)) ∧ σ' 6 = u ∧ σ' 7 = (.int .i64 ((p : Int))) ∧ σ' 8 = (.int .i64 ((k : Int))) ∧ Own eI H' u (row.take a) ∧ Le H H') (fun σ15 H15 hP => ?_) (fun J15 hJ15 => ?_)
   ·skip
    obtain ⟨g0L15, g1L15, g6L15, g7L15, g8L15, ou, lE⟩ := hP
    try simp only [g8L15]
    refine jn_i (fun σ' H' => ∃ u, σ' 0 = (vS (rtx (row.drop a))) ∧ σ' 1 = (.int .i64 (c)) ∧ σ' 6 = u ∧ σ' 7 = (.int .i64 ((p : Int))) ∧ Own eI H' u (row.take (a + k)) ∧ Nw H u ∧ Le H H') (fun σ16 H16 hP => ?_) (fun J16 hJ16 => ?_)
    ·skip
     obtain ⟨u, g0L16, g1L16, g6L16, g7L16, ou, nu, lE⟩ := hP
     try simp only [g0L16, g7L16]
     refine ob_i (vInt_add (by omega) (by omega)) ?_
     refine ob_i (vSlS_lo (a := rtx (row.drop a)) (by omega) (by first | omega | (simp only [List.length_append, List.length_cons, List.length_nil, List.length_take, List.length_drop]; omega))) ?_
     exact nxt (row.length - (i + 1)) (by omega) ⟨i + 1, rfl, by omega, u, (a + k), (congrArg vS (by rw [show ((p : Int) + 1).toNat = p + 1 by omega]; exact hdr)), g1L16, g6L16, ou, nu, lE, (by omega), (by omega)⟩
    refine ⟨fun n' σ' H' => ∃ j : Nat, n' = k - j ∧ j ≤ k ∧ ∃ u, σ' 0 = (vS (rtx (row.drop a))) ∧ σ' 1 = (.int .i64 (c)) ∧ σ' 6 = u ∧ σ' 7 = (.int .i64 ((p : Int))) ∧ σ' 36 = (.int .i64 ((k : Int))) ∧ σ' 37 = (.int .i64 ((j : Int))) ∧ Own eI H' u (row.take (a + j)) ∧ Nw H u ∧ Le H H',
     ⟨_, 0, rfl, by omega, u, g0L15, g1L15, g6L15, g7L15, rfl, (congrArg (Value.int .i64) (by first | omega | rfl | (simp; done))), (Own.cast (by first | rfl | (simp; done)) ou), nu, lE⟩, ?_⟩
    rintro n17 σ17 H17 ⟨j, rfl, hjN, u, g0L17, g1L17, g6L17, g7L17, g36L17, g37L17, ou, nu, lE⟩
    try simp only [g0L17, g6L17, g7L17, g36L17, g37L17]
    have tj : (row.take (a + j)).length = a + j := by rw [List.length_take]; omega
    refine ob_i (vInt_lss _ _ _) ?_
    refine cnd_d (fun hg18 => ?_) (fun hg18 => ?_)
    ·skip
     have tj := hg18
     refine ob_i (vIndexS_t (a := rtx (row.drop a)) (by omega) (by first | omega | (simp only [List.length_append, List.length_cons, List.length_nil, List.length_take, List.length_drop]; omega))) ?_
     refine ob_i (vInt_eql _ _ _) ?_
     refine R.impl_bit ?_
     unfold F.impl_bit
     refine cnd_d (fun hg19 => ?_) (fun hg19 => ?_)
     ·skip
      refine bS_i (enc := eI) (l := [(1 : Int)]) (by omega) rfl (by kernel_rfl) (fun u20 H21 ou20 nn22 le24 => ?_)
      replace ou := ou.le le24
      replace lE := lE.trans le24
      refine apd_any ou ou20.sl (fun _ => rfl) (by omega) (by first | omega | (simp only [List.length_cons, List.length_nil]; omega)) (fun u28 H25 ou28 off26 hb27 => ?_)
      have nu28 : Nw H u28 := Nw.ap2 nu lE hb27
      replace lE := off26.le lE nu
      refine ob_i (vInt_add (by omega) (by omega)) ?_
      exact nxt (k - (j + 1)) (by omega) ⟨j + 1, rfl, by omega, u28, g0L17, g1L17, rfl, g7L17, g36L17, (congrArg (Value.int .i64) (by first | omega | rfl | (simp; done))), (Own.cast (take_bit (by omega) ((hsame j (by omega)).trans (bit_t hch hg19))) ou28), nu28, lE⟩
     ·skip
      refine bS_i (enc := eI) (l := [(0 : Int)]) (by omega) rfl (by kernel_rfl) (fun u29 H30 ou29 nn31 le33 => ?_)
      replace ou := ou.le le33
      replace lE := lE.trans le33
      refine apd_any ou ou29.sl (fun _ => rfl) (by omega) (by first | omega | (simp only [List.length_cons, List.length_nil]; omega)) (fun u37 H34 ou37 off35 hb36 => ?_)
      have nu37 : Nw H u37 := Nw.ap2 nu lE hb36
      replace lE := off35.le lE nu
      refine ob_i (vInt_add (by omega) (by omega)) ?_
      exact nxt (k - (j + 1)) (by omega) ⟨j + 1, rfl, by omega, u37, g0L17, g1L17, rfl, g7L17, g36L17, (congrArg (Value.int .i64) (by first | omega | rfl | (simp; done))), (Own.cast (take_bit (by omega) ((hsame j (by omega)).trans (bit_f hch hg19 (by omega) (by omega)))) ou37), nu37, lE⟩
    ·skip
     have tj := hg18
     obtain rfl : j = k := by omega
     exact hJ16 _ _ ⟨u, g0L17, g1L17, g6L17, g7L17, ou, nu, lE⟩
   refine ob_i (vInt_gtr _ _ _) ?_
   refine cnd_d (fun hg38 => ?_) (fun hg38 => ?_)
   ·skip
    refine ob_i (vSlS_hi (a := rtx (row.drop a)) (by omega) (by first | omega | (simp only [List.length_append, List.length_cons, List.length_nil, List.length_take, List.length_drop]; omega))) ?_
    rw [show ((rtx (row.drop a)).take ((p : Int)).toNat) = decT (k : Int).toNat by rw [Int.toNat_natCast, Int.toNat_natCast]; rcases hkp with h | h; exact absurd h.2 (by omega); exact h.2.2]
    refine C.read_ok (n := (k : Int)) (by omega) (by omega) ?_
    refine ob_i (vExt_20 _ _) ?_
    refine ob_i (vExt_21 _ _) ?_
    refine ob_i (a := .bool false) rfl ?_
    refine gop_rf ?_
    refine gop_rf ?_
    refine gop_rf ?_
    refine C.impl_within  ?_
    refine gop_rf ?_
    refine ob_nd (fun hc39 => ?_) (fun hc39 => ?_)
    ·skip
     refine ob_i (vPick_f _ _) ?_
     refine cnd_f1 ?_
     exact hJ15 _ _ ⟨g0L12, g1L12, g6L12, rfl, (congrArg (Value.int .i64) (by first | rfl | omega)), ou, lE⟩
    ·skip
     exact absurd hc39 (by omega)
   ·skip
    exact hJ15 _ _ ⟨g0L12, g1L12, g6L12, rfl, (congrArg (Value.int .i64) (by first | rfl | omega)), ou, lE⟩
 ·skip
  have ti := hg13
  exact hJ6 _ _ ⟨u, a, g1L12, g6L12, ou, nu, lE, (Decidable.not_not.mp hg13), (by omega)⟩
theorem C.cut_eq {H : Hp} {K : Value → Hp → Prop} {s a b : List UInt8} {c : UInt8} (h : Go.Lib.cut s [c] = (a, b, true)) (hs : s.length ≤ 1000000000) (hv : VR H) (hk : K (.tuple #[vS a, vS b, .bool true]) H) : HT prg I.strings_Cut [vS s, vS [c]].toArray H K :=
  C.strings_Cut hs hv (by rw [h]; exact hk)
theorem C.suffix_eq {H : Hp} {K : Value → Hp → Prop} {a : List UInt8} {c : UInt8} (hs : a.length ≤ 1000000) (hk : K (.tuple #[vS a, .bool true]) H) : HT prg I.strings_CutSuffix [vS (a ++ [c]), vS [c]].toArray H K :=
  C.strings_CutSuffix (by simp only [List.length_append, List.length_singleton]; omega) (by rw [(suffix_one a c).1, (suffix_one a c).2]; exact hk)
theorem rows_at {c r i : Nat} {l : List Int} (h : i < r) : at_ [] (rowsT c l r) (i : Int) = rtx (rowL c l i) := by
  rw [at_eq [] _ (by rw [rowsT_len]; exact h)]; simp [rowsT]
theorem take_row {c i : Nat} {l : List Int} : l.take (i * c) ++ rowL c l i = l.take ((i + 1) * c) := by
  unfold rowL
  rw [Nat.add_mul, Nat.one_mul, List.take_add]
theorem C.readRuns_ok {r c : Int} {l : List Int} {H : Hp} {K : Value → Hp → Prop} (hf : fieldN 1 r c l) (hv : VR H) (hlen : (fieldT r c l).length ≤ 1200)
    (hk : ∀ u1 H', Own eI H' u1 l → Nw H u1 → Le H H' → K (.tuple #[(.agg #[(.int .i64 (r)), (.int .i64 (c)), u1]), (.bool true)]) H') : HT prg I.impl_ReadRuns [(vS (fieldT r c l))].toArray H K := by
 have lE := Le.refl H
 refine R.impl_ReadRuns ?_
 unfold F.impl_ReadRuns
 have hs := hf.1
 have hl := hf.2.1
 have q1 := hs.1
 have q2 := hs.2
 have qm := sidesF_mul hs
 have l1 := fieldN_len hf
 have hlN : l.length = r.toNat * c.toNat := by rw [← Int.natCast_inj, Int.natCast_mul, Int.toNat_of_nonneg (by omega), Int.toNat_of_nonneg (by omega)]; exact hl
 have dc := decT_len c.toNat
 have dr := decT_len r.toNat
 have rn := rowsT_len (c := c.toNat) (l := l) (n := r.toNat)
 have rjl := joinR_len (c := c.toNat) (l := l) r.toNat
 have rjm : r.toNat * (3 * c.toNat + 1) ≤ 24 * 73 := Nat.mul_le_mul (by omega) (by omega)
 refine nw_i (fun p1 H2 op1 nn3 le4 => ?_)
 have np1 : Nw H p1 := nn3.le lE
 replace lE := lE.trans le4
 replace op1 : Cel H2 p1 [(.int .i64 (0)), (.int .i64 (0)), (.slice none 0 0)] := op1
 refine ob_i (vLenS_t (fieldT r c l)) ?_
 refine ob_i (vInt_gtr _ _ _) ?_
 refine cnd_d (fun hg5 => ?_) (fun hg5 => ?_)
 ·skip
  exact absurd hg5 (by omega)
 ·skip
  refine C.cut_eq (field_cut (by omega) (by omega) (by omega) (by omega)) (by first | omega | (simp only [List.length_append, List.length_cons, List.length_nil, List.length_take, List.length_drop]; omega)) (hv.le lE) ?_
  refine ob_i (vExt_30 _ _ _) ?_
  refine ob_i (vExt_31 _ _ _) ?_
  refine ob_i (vExt_32 _ _ _) ?_
  refine C.cut_eq (head_cut (by omega) (by omega)) (by first | omega | (simp only [List.length_append, List.length_cons, List.length_nil]; omega)) (hv.le lE) ?_
  refine ob_i (vExt_30 _ _ _) ?_
  refine ob_i (vExt_31 _ _ _) ?_
  refine ob_i (vExt_32 _ _ _) ?_
  refine C.read_ok (n := c) (by omega) (by omega) ?_
  refine ob_i (vExt_20 _ _) ?_
  refine ob_i (vExt_21 _ _) ?_
  refine C.read_ok (n := r) (by omega) (by omega) ?_
  refine ob_i (vExt_20 _ _) ?_
  refine ob_i (vExt_21 _ _) ?_
  refine C.suffix_eq (by omega) ?_
  refine ob_i (vExt_20 _ _) ?_
  refine ob_i (vExt_21 _ _) ?_
  refine ob_i (a := .bool false) rfl ?_
  refine gop_rf ?_
  refine gop_rf ?_
  refine ob_i (a := .bool false) rfl ?_
  refine ob_i (vPick_f _ _) ?_
  refine gop_rf ?_
  refine gop_rf ?_
  refine ob_i (a := .bool false) rfl ?_
  refine ob_i (vPick_f _ _) ?_
  refine gop_rf ?_
  refine gop_rf ?_
  refine C.impl_isSide  ?_
  refine gop_rf ?_
  refine ob_nd (fun hc6 => ?_) (fun hc6 => ?_)
  ·skip
   refine ob_i (vPick_f _ _) ?_
   refine gop_rf ?_
   refine gop_rf ?_
   refine C.impl_isSide  ?_
   refine gop_rf ?_
   refine ob_nd (fun hc7 => ?_) (fun hc7 => ?_)
   ·skip
    refine ob_i (vPick_f _ _) ?_
    refine cnd_f1 ?_
    refine ob_i (a := (.agg #[(.int .i64 (r)), (.int .i64 (c)), (.slice none 0 0)])) (by rfl) ?_
    refine nw_i (fun pf H8 opf nn9 le10 => ?_)
    have ap1Xpf : Apart p1 pf := op1.apart nn9
    have npf : Nw H pf := nn9.le lE
    replace op1 := op1.le le10
    replace lE := lE.trans le10
    replace opf : Cel H8 pf [(.int .i64 (0)), (.int .i64 (0)), (.slice none 0 0)] := opf
    refine opf.stn (ws := [(.int .i64 (r)), (.int .i64 (c)), (.slice none 0 0)]) rfl rfl (oc1 rfl (oc1 rfl (oc1 rfl oc0))) (fun H11 opf off12 => ?_)
    replace op1 := op1.off off12 ap1Xpf
    replace lE := off12.le lE npf
    replace opf : Cel H11 pf [(.int .i64 (r)), (.int .i64 (c)), (.slice none 0 0)] := opf
    refine jn_i (fun σ' H' => ∃ u, σ' 0 = (vS (fieldT r c l)) ∧ σ' 2 = p1 ∧ σ' 15 = pf ∧ Cel H' p1 [(.int .i64 (0)), (.int .i64 (0)), (.slice none 0 0)] ∧ Cel H' pf [(.int .i64 (r)), (.int .i64 (c)), u] ∧ Own eI H' u (l) ∧ Nw H u ∧ Apart p1 u ∧ Apart pf u ∧ Le H H') (fun σ13 H13 hP => ?_) (fun J13 hJ13 => ?_)
    ·skip
     obtain ⟨u, g0L13, g2L13, g15L13, op1, opf, ou, nu, ap1Xu, apfXu, lE⟩ := hP
     try simp only [g0L13, g2L13, g15L13]
     refine ob_i (opf.ldn rfl) ?_
     refine C.impl_isPlain ou.sl (by first | omega | assumption) (fun   H14    le15 => ?_)
     replace op1 := op1.le le15
     replace opf := opf.le le15
     replace ou := ou.le le15
     replace lE := lE.trans le15
     refine ob_nd (fun hc16 => ?_) (fun hc16 => ?_)
     ·skip
      refine gop_rf ?_
      refine ob_i (opf.ldn rfl) ?_
      refine gop_rf ?_
      refine C.impl_Field_text ou.sl (by exact hf) (fun   H17    le18 => ?_)
      replace op1 := op1.le le18
      replace opf := opf.le le18
      replace ou := ou.le le18
      replace lE := lE.trans le18
      refine gop_rf ?_
      refine gop_rf ?_
      refine ob_i (vStr_neq_same _) ?_
      refine ob_i (vPick_f _ _) ?_
      refine cnd_f1 ?_
      refine ob_i (opf.ldn rfl) ?_
      refine op1.stn (ws := [(.int .i64 (r)), (.int .i64 (c)), u]) rfl rfl (oc1 rfl (oc1 rfl (oc1 ou.one oc0))) (fun H19 op1 off20 => ?_)
      replace ou := ou.off off20 ap1Xu.symm
      replace lE := off20.le lE np1
      replace op1 : Cel H19 p1 [(.int .i64 (r)), (.int .i64 (c)), u] := op1
      refine ob_i (op1.ldn rfl) ?_
      skip
      exact hk  u _ ou nu  lE
     ·skip
      exact absurd hc16 (fun h => h hf)
    refine C.strings_Split (by omega) (hv.le lE) (fun u21 H22 ou21 nn23 le24 => ?_)
    rw [rows_split (by omega) (by omega)] at ou21
    have apfXu21 : Apart pf u21 := opf.apart nn23
    replace op1 := op1.le le24
    replace opf := opf.le le24
    replace lE := lE.trans le24
    refine ob_i (ou21.len) ?_
    refine ⟨fun n' σ' H' => ∃ i : Nat, n' = r.toNat - i ∧ i ≤ r.toNat ∧ ∃ u, σ' 0 = (vS (fieldT r c l)) ∧ σ' 2 = p1 ∧ σ' 10 = (.int .i64 (c)) ∧ σ' 15 = pf ∧ σ' 76 = u21 ∧ σ' 77 = (.int .i64 (((rowsT c.toNat l r.toNat).length : Int))) ∧ σ' 78 = (.int .i64 ((i : Int))) ∧ Cel H' p1 [(.int .i64 (0)), (.int .i64 (0)), (.slice none 0 0)] ∧ Cel H' pf [(.int .i64 (r)), (.int .i64 (c)), u] ∧ Own vS H' u21 (rowsT c.toNat l r.toNat) ∧ Own eI H' u (l.take (i * c.toNat)) ∧ Nw H u ∧ Apart p1 u ∧ Apart pf u ∧ Apart u21 u ∧ Le H H',
     ⟨_, 0, rfl, by omega, _, rfl, rfl, rfl, rfl, rfl, rfl, (congrArg (Value.int .i64) (by first | omega | rfl | (simp; done))), op1, opf, ou21, (Own.cast (by first | rfl | (simp; done)) (Own.nil_of none)), (fun b hb => by simp [bk] at hb), (fun b _ hb => by simp [bk] at hb), (fun b _ hb => by simp [bk] at hb), (fun b _ hb => by simp [bk] at hb), lE⟩, ?_⟩
    rintro n25 σ25 H25 ⟨i, rfl, hiN, u, g0L25, g2L25, g10L25, g15L25, g76L25, g77L25, g78L25, op1, opf, ou21, ou, nu, ap1Xu, apfXu, au21Xu, lE⟩
    try simp only [g2L25, g10L25, g15L25, g76L25, g77L25, g78L25]
    have tl := List.length_take (i := i * c.toNat) (l := l)
    refine ob_i (vInt_lss _ _ _) ?_
    refine cnd_d (fun hg26 => ?_) (fun hg26 => ?_)
    ·skip
     have ti := hg26
     have im : (i + 1) * c.toNat ≤ r.toNat * c.toNat := Nat.mul_le_mul_right _ (by omega)
     rw [Nat.add_mul, Nat.one_mul] at im
     have rw1 : (rowL c.toNat l i).length = c.toNat := rowL_len (r := r.toNat) hlN (by omega)
     refine ob_i (ou21.sl.ix (by omega) (by omega)) ?_
     refine ob_i (ou21.sl.ld [] (by omega) (by omega)) ?_
     rw [rows_at (by omega)]
     refine C.impl_readRow (row := rowL c.toNat l i) (by omega) (by omega) (row_01 hf.2.2) rfl (fun u27 H28 ou27 nn29 le30 => ?_)
     replace op1 := op1.le le30
     replace opf := opf.le le30
     replace ou21 := ou21.le le30
     replace ou := ou.le le30
     replace lE := lE.trans le30
     refine ob_i (vExt_20 _ _) ?_
     refine ob_i (vExt_21 _ _) ?_
     refine ob_i (a := .bool false) rfl ?_
     refine cnd_f1 ?_
     refine ob_i (opf.fa 2) ?_
     refine ob_i (opf.ld 2 rfl) ?_
     refine apd_any ou ou27.sl (fun _ => rfl) (by omega) (by first | omega | (simp only [List.length_cons, List.length_nil, List.length_append, List.length_replicate, List.length_map, List.length_range]; omega)) (fun u34 H31 ou34 off32 hb33 => ?_)
     have ap1Xu34 : Apart p1 u34 := Apart.ap2 op1.known ap1Xu hb33
     have apfXu34 : Apart pf u34 := Apart.ap2 opf.known apfXu hb33
     have au21Xu34 : Apart u21 u34 := Apart.ap2 ou21.known au21Xu hb33
     have nu34 : Nw H u34 := Nw.ap2 nu lE hb33
     replace op1 := op1.off off32 ap1Xu
     replace opf := opf.off off32 apfXu
     replace ou21 := ou21.off off32 au21Xu
     replace lE := off32.le lE nu
     refine ob_i (opf.fa 2) ?_
     refine opf.st (by simp) ou34.one ou34.cells (fun H35 opf off36 => ?_)
     replace op1 := op1.off off36 ap1Xpf
     replace ou21 := ou21.off off36 apfXu21.symm
     replace ou34 := ou34.off off36 apfXu34.symm
     replace lE := off36.le lE npf
     replace opf : Cel H35 pf [(.int .i64 (r)), (.int .i64 (c)), u34] := opf
     refine ob_i (vInt_add (by omega) (by omega)) ?_
     exact nxt (r.toNat - (i + 1)) (by omega) ⟨i + 1, rfl, by omega, u34, g0L25, g2L25, g10L25, g15L25, g76L25, g77L25, (congrArg (Value.int .i64) (by first | omega | rfl | (simp; done))), op1, opf, ou21, (Own.cast take_row ou34), nu34, ap1Xu34, apfXu34, au21Xu34, lE⟩
    ·skip
     have ti := hg26
     obtain rfl : i = r.toNat := by omega
     rw [← hlN, List.take_length] at ou
     exact hJ13 _ _ ⟨u, g0L25, g2L25, g15L25, op1, opf, ou, nu, ap1Xu, apfXu, lE⟩
   ·skip
    exact absurd hc7 (fun h => h q2)
  ·skip
   exact absurd hc6 (fun h => h q1)
end Go.Proofs.YtijmoehbgkibnaaGreatDoor
/- Fields that are turned and mirrored: the program's and the reference's. -/
namespace Go.Proofs.YtijmoehbgkibnaaGreatDoor
open HL
set_option maxRecDepth 100000
theorem C.impl_Field_right_1 {p vc : Value} {i k r c : Int} {l : List Int}  {H : Hp} {K : Value → Hp → Prop} (hp0 : Cel H p [(.int .i64 (r)), (.int .i64 (c)), vc]) (hvc0 : Sl eI H vc l) (hf : fieldN 1 r c l) (i0 : 0 ≤ i) (j0 : 0 ≤ k) (i1 : i < c) (j1 : k < r)
    (hk : ∀ H', Le H H' → K (.int .i64 (turG r c l i k)) H') : HT prg I.impl_Field_right_1 [(.int .i64 (i)), (.int .i64 (k)), p].toArray H K := by
 have lE := Le.refl H
 have hp := hp0
 have hvc := hvc0
 refine R.impl_Field_right_1 ?_
 unfold F.impl_Field_right_1
 have hs := hf.1
 have hl := hf.2.1
 have q1 := hs.1
 have q2 := hs.2
 have qm := sidesF_mul hs
 have x2 := ix_lt (a := r - 1 - k) (b := i) (r := r) (c := c) (by omega) (by omega) (by omega) (by omega)
 refine ob_i (hp.ldn rfl) ?_
 refine ob_i (hp.fa 0) ?_
 refine ob_i (hp.ld 0 rfl) ?_
 refine ob_i (vInt_sub (by omega) (by omega)) ?_
 refine ob_i (vInt_sub (by omega) (by omega)) ?_
 refine C.impl_Field_at hvc (by first | omega | assumption) (by first | omega | assumption) (by first | omega | assumption) (by first | omega | assumption) (by first | omega | assumption) (fun   H1    le2 => ?_)
 replace lE := lE.trans le2
 skip
 exact keq (K := K) (by rw [show ((at_ 0 l (((r - 1) - k) * c + i)) : Int) = (turG r c l i k) from by rfl]) (hk   _    lE)
theorem C.impl_Field_mirrored_1 {p vc : Value} {i k r c : Int} {l : List Int}  {H : Hp} {K : Value → Hp → Prop} (hp0 : Cel H p [(.int .i64 (r)), (.int .i64 (c)), vc]) (hvc0 : Sl eI H vc l) (hf : fieldN 1 r c l) (i0 : 0 ≤ i) (j0 : 0 ≤ k) (i1 : i < r) (j1 : k < c)
    (hk : ∀ H', Le H H' → K (.int .i64 (mirG c l i k)) H') : HT prg I.impl_Field_mirrored_1 [(.int .i64 (i)), (.int .i64 (k)), p].toArray H K := by
 have lE := Le.refl H
 have hp := hp0
 have hvc := hvc0
 refine R.impl_Field_mirrored_1 ?_
 unfold F.impl_Field_mirrored_1
 have hs := hf.1
 have hl := hf.2.1
 have q1 := hs.1
 have q2 := hs.2
 have qm := sidesF_mul hs
 have x2 := ix_lt (a := i) (b := c - 1 - k) (r := r) (c := c) (by omega) (by omega) (by omega) (by omega)
 refine ob_i (hp.ldn rfl) ?_
 refine ob_i (hp.fa 1) ?_
 refine ob_i (hp.ld 1 rfl) ?_
 refine ob_i (vInt_sub (by omega) (by omega)) ?_
 refine ob_i (vInt_sub (by omega) (by omega)) ?_
 refine C.impl_Field_at hvc (by first | omega | assumption) (by first | omega | assumption) (by first | omega | assumption) (by first | omega | assumption) (by first | omega | assumption) (fun   H1    le2 => ?_)
 replace lE := lE.trans le2
 skip
 exact keq (K := K) (by rw [show ((at_ 0 l (i * c + ((c - 1) - k))) : Int) = (mirG c l i k) from by rfl]) (hk   _    lE)
theorem C.impl_Field_right {vc : Value} {r c : Int} {l : List Int}  {H : Hp} {K : Value → Hp → Prop} (hvc0 : Sl eI H vc l) (hf : fieldN 1 r c l)
    (hk : ∀ u1 H', Own eI H' u1 (turL r c l) → Nw H u1 → Le H H' → K (.agg #[(.int .i64 (c)), (.int .i64 (r)), u1]) H') : HT prg I.impl_Field_right [(.agg #[(.int .i64 (r)), (.int .i64 (c)), vc])].toArray H K := by
 have lE := Le.refl H
 have hvc := hvc0
 refine R.impl_Field_right ?_
 unfold F.impl_Field_right
 have hs := hf.1
 have hl := hf.2.1
 have q1 := hs.1
 have q2 := hs.2
 have qm := sidesF_mul hs
 refine nw_i (fun p1 H2 op1 nn3 le4 => ?_)
 replace hvc := hvc.le le4
 replace lE := lE.trans le4
 replace op1 : Cel H2 p1 [(.int .i64 (r)), (.int .i64 (c)), vc] := op1
 refine nw_i (fun p5 H6 op5 nn7 le8 => ?_)
 have np5 : Nw H p5 := nn7.le lE
 replace op1 := op1.le le8
 replace hvc := hvc.le le8
 replace lE := lE.trans le8
 replace op5 : Cel H6 p5 [(.int .i64 (0)), (.int .i64 (0)), (.slice none 0 0)] := op5
 refine ob_i (op1.fa 1) ?_
 refine ob_i (op1.ld 1 rfl) ?_
 refine ob_i (op1.fa 0) ?_
 refine ob_i (op1.ld 0 rfl) ?_
 refine C.impl_madeField (g := turG r c l) (by omega) (by omega) (by omega) (by omega) (fun H13c i13 k13 Z leZ hi13 hk13 hZ => ?_) (fun u9 H10 ou9 nn11 le12 => ?_)
 ·refine ⟨by kernel_rfl, ?_⟩
  replace op1 := op1.le leZ
  replace hvc := hvc.le leZ
  replace lE := lE.trans leZ
  have lZ := Le.refl H13c
  refine C.impl_Field_right_1 op1 hvc (by first | omega | assumption) (by first | omega | assumption) (by first | omega | assumption) (by first | omega | assumption) (by first | omega | assumption) (fun   H14    le15 => ?_)
  replace lE := lE.trans le15
  replace lZ := lZ.trans le15
  exact keq (K := Z) (by rw [show ((turG r c l (i13 : Int) (k13 : Int)) : Int) = (turG r c l) (i13 : Int) (k13 : Int) from rfl]) (hZ _ lZ)
 have ap5Xu9 : Apart p5 u9 := op5.apart nn11
 have nu9 : Nw H u9 := nn11.le lE
 replace op5 := op5.le le12
 replace hvc := hvc.le le12
 replace lE := lE.trans le12
 refine op5.stn (ws := [(.int .i64 (c)), (.int .i64 (r)), u9]) rfl rfl (oc1 rfl (oc1 rfl (oc1 ou9.one oc0))) (fun H16 op5 off17 => ?_)
 replace ou9 := ou9.off off17 ap5Xu9.symm
 replace hvc := hvc0.le (off17.le lE np5)
 replace lE := off17.le lE np5
 replace op5 : Cel H16 p5 [(.int .i64 (c)), (.int .i64 (r)), u9] := op5
 refine ob_i (op5.ldn rfl) ?_
 skip
 exact hk  u9 _ (Own.cast (show mkL (r) (turG r c l) ((c : Int).toNat * (r : Int).toNat) = turL r c l by rfl) ou9) nu9  lE
theorem C.impl_Field_mirrored {vc : Value} {r c : Int} {l : List Int}  {H : Hp} {K : Value → Hp → Prop} (hvc0 : Sl eI H vc l) (hf : fieldN 1 r c l)
    (hk : ∀ u1 H', Own eI H' u1 (mirL r c l) → Nw H u1 → Le H H' → K (.agg #[(.int .i64 (r)), (.int .i64 (c)), u1]) H') : HT prg I.impl_Field_mirrored [(.agg #[(.int .i64 (r)), (.int .i64 (c)), vc])].toArray H K := by
 have lE := Le.refl H
 have hvc := hvc0
 refine R.impl_Field_mirrored ?_
 unfold F.impl_Field_mirrored
 have hs := hf.1
 have hl := hf.2.1
 have q1 := hs.1
 have q2 := hs.2
 have qm := sidesF_mul hs
 refine nw_i (fun p1 H2 op1 nn3 le4 => ?_)
 replace hvc := hvc.le le4
 replace lE := lE.trans le4
 replace op1 : Cel H2 p1 [(.int .i64 (r)), (.int .i64 (c)), vc] := op1
 refine nw_i (fun p5 H6 op5 nn7 le8 => ?_)
 have np5 : Nw H p5 := nn7.le lE
 replace op1 := op1.le le8
 replace hvc := hvc.le le8
 replace lE := lE.trans le8
 replace op5 : Cel H6 p5 [(.int .i64 (0)), (.int .i64 (0)), (.slice none 0 0)] := op5
 refine ob_i (op1.fa 0) ?_
 refine ob_i (op1.ld 0 rfl) ?_
 refine ob_i (op1.fa 1) ?_
 refine ob_i (op1.ld 1 rfl) ?_
 refine C.impl_madeField (g := mirG c l) (by omega) (by omega) (by omega) (by omega) (fun H13c i13 k13 Z leZ hi13 hk13 hZ => ?_) (fun u9 H10 ou9 nn11 le12 => ?_)
 ·refine ⟨by kernel_rfl, ?_⟩
  replace op1 := op1.le leZ
  replace hvc := hvc.le leZ
  replace lE := lE.trans leZ
  have lZ := Le.refl H13c
  refine C.impl_Field_mirrored_1 op1 hvc (by first | omega | assumption) (by first | omega | assumption) (by first | omega | assumption) (by first | omega | assumption) (by first | omega | assumption) (fun   H14    le15 => ?_)
  replace lE := lE.trans le15
  replace lZ := lZ.trans le15
  exact keq (K := Z) (by rw [show ((mirG c l (i13 : Int) (k13 : Int)) : Int) = (mirG c l) (i13 : Int) (k13 : Int) from rfl]) (hZ _ lZ)
 have ap5Xu9 : Apart p5 u9 := op5.apart nn11
 have nu9 : Nw H u9 := nn11.le lE
 replace op5 := op5.le le12
 replace hvc := hvc.le le12
 replace lE := lE.trans le12
 refine op5.stn (ws := [(.int .i64 (r)), (.int .i64 (c)), u9]) rfl rfl (oc1 rfl (oc1 rfl (oc1 ou9.one oc0))) (fun H16 op5 off17 => ?_)
 replace ou9 := ou9.off off17 ap5Xu9.symm
 replace hvc := hvc0.le (off17.le lE np5)
 replace lE := off17.le lE np5
 replace op5 : Cel H16 p5 [(.int .i64 (r)), (.int .i64 (c)), u9] := op5
 refine ob_i (op5.ldn rfl) ?_
 skip
 exact hk  u9 _ (Own.cast (show mkL (c) (mirG c l) ((r : Int).toNat * (c : Int).toNat) = mirL r c l by rfl) ou9) nu9  lE
theorem C.impl_copyField {vc : Value} {r c : Int} {l : List Int}  {H : Hp} {K : Value → Hp → Prop} (hvc0 : Sl eI H vc l) (hl : l.length ≤ 68719476736)
    (hk : ∀ u1 H', Own eI H' u1 l → Nw H u1 → Le H H' → K (.agg #[(.int .i64 (r)), (.int .i64 (c)), u1]) H') : HT prg I.impl_copyField [(.agg #[(.int .i64 (r)), (.int .i64 (c)), vc])].toArray H K := by
 have lE := Le.refl H
 have hvc := hvc0
 refine R.impl_copyField ?_
 unfold F.impl_copyField
 refine nw_i (fun p1 H2 op1 nn3 le4 => ?_)
 have np1 : Nw H p1 := nn3.le lE
 replace hvc := hvc.le le4
 replace lE := lE.trans le4
 replace op1 : Cel H2 p1 [(.int .i64 (r)), (.int .i64 (c)), vc] := op1
 refine nw_i (fun p5 H6 op5 nn7 le8 => ?_)
 have ap1Xp5 : Apart p1 p5 := op1.apart nn7
 have np5 : Nw H p5 := nn7.le lE
 replace op1 := op1.le le8
 replace hvc := hvc.le le8
 replace lE := lE.trans le8
 replace op5 : Cel H6 p5 [(.int .i64 (0)), (.int .i64 (0)), (.slice none 0 0)] := op5
 refine ob_i (op1.fa 2) ?_
 refine ob_i (op1.ld 2 rfl) ?_
 refine C.slices_Clone_int64Zint64 hvc (by first | omega | assumption) (fun  u11 H9 ou11 nn12  le10 => ?_)
 have ap1Xu11 : Apart p1 u11 := op1.apart nn12
 have ap5Xu11 : Apart p5 u11 := op5.apart nn12
 have nu11 : Nw H u11 := nn12.le lE
 replace op1 := op1.le le10
 replace op5 := op5.le le10
 replace hvc := hvc.le le10
 replace lE := lE.trans le10
 refine ob_i (op1.fa 2) ?_
 refine op1.st (by simp) ou11.one ou11.cells (fun H13 op1 off14 => ?_)
 replace op5 := op5.off off14 ap1Xp5.symm
 replace ou11 := ou11.off off14 ap1Xu11.symm
 replace hvc := hvc0.le (off14.le lE np1)
 replace lE := off14.le lE np1
 replace op1 : Cel H13 p1 [(.int .i64 (r)), (.int .i64 (c)), u11] := op1
 refine ob_i (op1.ldn rfl) ?_
 refine op5.stn (ws := [(.int .i64 (r)), (.int .i64 (c)), u11]) rfl rfl (oc1 rfl (oc1 rfl (oc1 ou11.one oc0))) (fun H15 op5 off16 => ?_)
 replace ou11 := ou11.off off16 ap5Xu11.symm
 replace hvc := hvc0.le (off16.le lE np5)
 replace lE := off16.le lE np5
 replace op5 : Cel H15 p5 [(.int .i64 (r)), (.int .i64 (c)), u11] := op5
 refine ob_i (op5.ldn rfl) ?_
 skip
 exact hk  u11 _ ou11 nu11  lE
theorem C.impl_Field_images {vc : Value} {r c : Int} {l : List Int}  {H : Hp} {K : Value → Hp → Prop} (hvc0 : Sl eI H vc l) (hf : fieldN 1 r c l)
    (hk : ∀ u1 Su1 H', Fam H' u1 Su1 (imgs (⟨r, c, l⟩ : FdL) 8) → Nws H Su1 → Le H H' → K u1 H') : HT prg I.impl_Field_images [(.agg #[(.int .i64 (r)), (.int .i64 (c)), vc])].toArray H K := by
 have lE := Le.refl H
 have hvc := hvc0
 refine R.impl_Field_images ?_
 unfold F.impl_Field_images
 have hs := hf.1
 have hl := hf.2.1
 have q1 := hs.1
 have q2 := hs.2
 have qm := sidesF_mul hs
 refine nw_i (fun p1 H2 op1 nn3 le4 => ?_)
 replace hvc := hvc.le le4
 replace lE := lE.trans le4
 replace op1 : Cel H2 p1 [(.int .i64 (r)), (.int .i64 (c)), vc] := op1
 refine bSE_fam (fun u5 Su5 H6 ou5 nn7 le9 => ?_)
 have ap1Xu5 : Apt p1 Su5 := Apt.of_nws op1.known nn7
 have nu5 : Nws H Su5 := nn7.le lE
 replace op1 := op1.le le9
 replace hvc := hvc.le le9
 replace lE := lE.trans le9
 refine jn_i (fun σ' H' => ∃ u, ∃ Su, ∃ g, ∃ h, σ' 3 = u ∧ Cel H' p1 [(.int .i64 (r)), (.int .i64 (c)), vc] ∧ Fam H' u Su (imgs (⟨r, c, l⟩ : FdL) 8) ∧ Own eI H' g (gL (⟨r, c, l⟩ : FdL) 2) ∧ Own eI H' h (hL (⟨r, c, l⟩ : FdL) 2) ∧ Nws H Su ∧ Apt p1 Su ∧ Nw H g ∧ Apart p1 g ∧ Apt Su g ∧ Nw H h ∧ Apart p1 h ∧ Apt Su h ∧ Apart g h ∧ Le H H') (fun σ10 H10 hP => ?_) (fun J10 hJ10 => ?_)
 ·skip
  obtain ⟨u, Su, g, h, g3L10, op1, ou, og, oh, nu, ap1Xu, ng, ap1Xg, auXg, nh, ap1Xh, auXh, agXh, lE⟩ := hP
  try simp only [g3L10]
  skip
  exact hk  u _ _ ou nu  lE
 refine ob_i (op1.ldn rfl) ?_
 refine ob_i (op1.ldn rfl) ?_
 refine C.impl_copyField hvc (by first | omega | assumption) (fun  w H11 ow nn13  le12 => ?_)
 have ap1Xw : Apart p1 w := op1.apart nn13
 have au5Xw : Apt Su5 w := Apt.of_nw ou5.known nn13
 have nw : Nw H w := nn13.le lE
 replace op1 := op1.le le12
 replace ou5 := ou5.le le12
 replace hvc := hvc.le le12
 replace lE := lE.trans le12
 refine ⟨le12, ?_⟩
 refine C.impl_Field_mirrored hvc (by first | omega | assumption) (fun  m H14 om nn16  le15 => ?_)
 have ap1Xm : Apart p1 m := op1.apart nn16
 have au5Xm : Apt Su5 m := Apt.of_nw ou5.known nn16
 have awXm : Apart w m := ow.apart nn16
 have nm : Nw H m := nn16.le lE
 replace op1 := op1.le le15
 replace ou5 := ou5.le le15
 replace ow := ow.le le15
 replace hvc := hvc.le le15
 replace lE := lE.trans le15
 refine ⟨le15, ?_⟩
 refine bSE_i (enc := encFv) (n := 3) (l := ([⟨r, c, w⟩, ⟨r, c, m⟩] : List Fv)) (by omega) rfl encFv_n (by kernel_rfl) (fun e H17 oe nn18 le20 => ?_)
 have au5Xe : Apt Su5 e := Apt.of_nw ou5.known nn18
 have awXe : Apart w e := ow.apart nn18
 have amXe : Apart m e := om.apart nn18
 replace op1 := op1.le le20
 replace ou5 := ou5.le le20
 replace ow := ow.le le20
 replace om := om.le le20
 replace hvc := hvc.le le20
 replace lE := lE.trans le20
 refine ob_i (a := .int .i64 2) oe.len ?_
 refine ⟨fun n' σ' H' => ∃ i : Nat, n' = 2 - i ∧ i ≤ 2 ∧ ∃ u, ∃ Su, ∃ g, ∃ h, σ' 3 = u ∧ σ' 11 = e ∧ σ' 12 = (.int .i64 (2)) ∧ σ' 13 = (.int .i64 ((i : Int))) ∧ Cel H' p1 [(.int .i64 (r)), (.int .i64 (c)), vc] ∧ OwnE 3 encFv H' e ([⟨r, c, w⟩, ⟨r, c, m⟩]) ∧ Fam H' u Su (imgs (⟨r, c, l⟩ : FdL) (4 * i)) ∧ Own eI H' g (gL (⟨r, c, l⟩ : FdL) i) ∧ Own eI H' h (hL (⟨r, c, l⟩ : FdL) i) ∧ Nws H Su ∧ Apt p1 Su ∧ Apt e Su ∧ Nw H g ∧ Apart p1 g ∧ Apart e g ∧ Apt Su g ∧ Nw H h ∧ Apart p1 h ∧ Apart e h ∧ Apt Su h ∧ Apart g h ∧ Le H H' ∧ ((i : Int) < 2 → at_ fv0 ([⟨r, c, w⟩, ⟨r, c, m⟩] : List Fv) (i : Int) = ⟨r, c, g⟩) ∧ (i = 0 → h = m),
  ⟨_, 0, rfl, by omega, u5, _, w, m, rfl, rfl, rfl, (congrArg (Value.int .i64) (by first | omega | rfl | (simp; done))), op1, oe, (Fam.cast (by first | rfl | (simp; done)) ou5), (Own.cast (by first | rfl | (simp; done)) ow), (Own.cast (by first | rfl | (simp; done)) om), nu5, ap1Xu5, au5Xe.symm, nw, ap1Xw, awXe.symm, au5Xw, nm, ap1Xm, amXe.symm, au5Xm, awXm, lE, (fun _ => rfl), (fun _ => rfl)⟩, ?_⟩
 rintro n21 σ21 H21 ⟨i, rfl, hiN, u, Su, g, h, g3L21, g11L21, g12L21, g13L21, op1, oe, ou, og, oh, nu, ap1Xu, aeXu, ng, ap1Xg, aeXg, auXg, nh, ap1Xh, aeXh, auXh, agXh, lE, hm0, hm1⟩
 have hvc := hvc0.le lE
 try simp only [g11L21, g12L21, g13L21]
 have hgi := gL_eq (f := (⟨r, c, l⟩ : FdL)) (i := i)
 have hB : okF (imB (⟨r, c, l⟩ : FdL) i) := imB_ok (f := (⟨r, c, l⟩ : FdL)) hf i
 have hiL := imgs_len (⟨r, c, l⟩ : FdL) (4 * i)
 refine ob_i (vInt_lss _ _ _) ?_
 refine cnd_d (fun hg22 => ?_) (fun hg22 => ?_)
 ·skip
  have ti := hg22
  refine jn_i (fun σ' H' => ∃ u, ∃ Su, σ' 3 = u ∧ σ' 11 = e ∧ σ' 12 = (.int .i64 (2)) ∧ σ' 13 = (.int .i64 ((i : Int))) ∧ Cel H' p1 [(.int .i64 (r)), (.int .i64 (c)), vc] ∧ OwnE 3 encFv H' e ([⟨r, c, w⟩, ⟨r, c, m⟩]) ∧ Fam H' u Su (imgs (⟨r, c, l⟩ : FdL) (4 * (i + 1))) ∧ Own eI H' h (hL (⟨r, c, l⟩ : FdL) i) ∧ Nws H Su ∧ Apt p1 Su ∧ Apt e Su ∧ Apt Su h ∧ Le H H') (fun σ23 H23 hP => ?_) (fun J23 hJ23 => ?_)
  ·skip
   obtain ⟨u, Su, g3L23, g11L23, g12L23, g13L23, op1, oe, ou, oh, nu, ap1Xu, aeXu, auXh, lE⟩ := hP
   try simp only [g13L23]
   refine ob_i (vInt_add (by omega) (by omega)) ?_
   exact nxt (2 - (i + 1)) (by omega) ⟨i + 1, rfl, by omega, u, _, h, _, g3L23, g11L23, g12L23, (congrArg (Value.int .i64) (by first | omega | rfl | (simp; done))), op1, oe, ou, (Own.cast (hgL (⟨r, c, l⟩ : FdL) i) oh), (Own.cast (by simp [hL]) (Own.nil_of none)), nu, ap1Xu, aeXu, nh, ap1Xh, aeXh, auXh, (fun b hb => by simp [bk] at hb), (fun b _ hb => by simp [bk] at hb), (fun b _ hb => by simp [bk] at hb), Apt.nil_r, (fun b _ hb => by simp [bk] at hb), lE, (fun hlt => by obtain rfl : i = 0 := (by omega); rw [hm1 rfl]; first | done | rfl), (fun h0 => absurd h0 (by omega))⟩
  refine ob_i ((oe.sl encFv_n).ix encFv_n (by omega) (by omega) (by first | omega | (simp only [List.length_cons, List.length_nil]; omega))) ?_
  refine ob_i (a := (.agg #[(.int .i64 (r)), (.int .i64 (c)), g])) (by rw [(oe.sl encFv_n).ldn (i := (i : Int)) encFv_n (by omega) fv0 (by omega) (by show _ < ((2 : Nat) : Int); omega), hm0 (by omega)]; try rfl) ?_
  refine nw_i (fun q H24 oq nn25 le26 => ?_)
  have ap1Xq : Apart p1 q := op1.apart nn25
  have aeXq : Apart e q := oe.apart nn25
  have auXq : Apt Su q := Apt.of_nw ou.known nn25
  have agXq : Apart g q := og.apart nn25
  have ahXq : Apart h q := oh.apart nn25
  have nq : Nw H q := nn25.le lE
  replace op1 := op1.le le26
  replace oe := oe.le le26
  replace ou := ou.le le26
  replace og := og.le le26
  replace oh := oh.le le26
  replace hvc := hvc.le le26
  replace lE := lE.trans le26
  replace oq : Cel H24 q [(.int .i64 (0)), (.int .i64 (0)), (.slice none 0 0)] := oq
  refine oq.stn (ws := [(.int .i64 (r)), (.int .i64 (c)), g]) rfl rfl (oc1 rfl (oc1 rfl (oc1 og.one oc0))) (fun H27 oq off28 => ?_)
  replace op1 := op1.off off28 ap1Xq
  replace oe := oe.off off28 aeXq
  replace ou := ou.off off28 auXq
  replace og := og.off off28 agXq
  replace oh := oh.off off28 ahXq
  replace hvc := hvc0.le (off28.le lE nq)
  replace lE := off28.le lE nq
  replace oq : Cel H27 q [(.int .i64 (r)), (.int .i64 (c)), g] := oq
  refine ⟨fun n' σ' H' => ∃ k : Nat, n' = 4 - k ∧ k ≤ 4 ∧ ∃ u, ∃ Su, ∃ x, σ' 3 = u ∧ σ' 5 = q ∧ σ' 11 = e ∧ σ' 12 = (.int .i64 (2)) ∧ σ' 13 = (.int .i64 ((i : Int))) ∧ σ' 17 = (.int .i64 ((k : Int))) ∧ Cel H' p1 [(.int .i64 (r)), (.int .i64 (c)), vc] ∧ OwnE 3 encFv H' e ([⟨r, c, w⟩, ⟨r, c, m⟩]) ∧ Fam H' u Su (imgs (⟨r, c, l⟩ : FdL) (4 * i + k)) ∧ Own eI H' h (hL (⟨r, c, l⟩ : FdL) i) ∧ Cel H' q [(.int .i64 ((imK (imB (⟨r, c, l⟩ : FdL) i) k).r)), (.int .i64 ((imK (imB (⟨r, c, l⟩ : FdL) i) k).c)), x] ∧ Own eI H' x ((imK (imB (⟨r, c, l⟩ : FdL) i) k).l) ∧ Nws H Su ∧ Apt p1 Su ∧ Apt e Su ∧ Apt Su h ∧ Apt Su q ∧ Nw H x ∧ Apart p1 x ∧ Apart e x ∧ Apt Su x ∧ Apart h x ∧ Apart q x ∧ Le H H',
   ⟨_, 0, rfl, by omega, u, _, g, g3L21, rfl, g11L21, g12L21, g13L21, (congrArg (Value.int .i64) (by first | omega | rfl | (simp; done))), op1, oe, (Fam.cast (by first | rfl | (simp; done)) ou), oh, (Cel.cast (by show _ = [Value.int .i64 (imB (⟨r, c, l⟩ : FdL) i).r, .int .i64 (imB (⟨r, c, l⟩ : FdL) i).c, g]; rw [imB_r, imB_c]) oq), (Own.cast (hgi (by omega)) og), nu, ap1Xu, aeXu, auXh, auXq, ng, ap1Xg, aeXg, auXg, agXh.symm, agXq.symm, lE⟩, ?_⟩
  rintro n29 σ29 H29 ⟨k, rfl, hkN, u, Su, x, g3L29, g5L29, g11L29, g12L29, g13L29, g17L29, op1, oe, ou, oh, oq, ox, nu, ap1Xu, aeXu, auXh, auXq, nx, ap1Xx, aeXx, auXx, ahXx, aqXx, lE⟩
  have hvc := hvc0.le lE
  try simp only [g3L29, g5L29, g17L29]
  have hK : fieldN 1 (imK (imB (⟨r, c, l⟩ : FdL) i) k).r (imK (imB (⟨r, c, l⟩ : FdL) i) k).c (imK (imB (⟨r, c, l⟩ : FdL) i) k).l := imK_ok hB k
  have lK := fieldN_len hK
  have hiL2 := imgs_len (⟨r, c, l⟩ : FdL) (4 * i + k)
  refine ob_i (vInt_lss _ _ _) ?_
  refine cnd_d (fun hg30 => ?_) (fun hg30 => ?_)
  ·skip
   have tk := hg30
   refine ob_i (oq.ldn rfl) ?_
   refine bSE_one (enc := encFv) (x := (⟨(imK (imB (⟨r, c, l⟩ : FdL) i) k).r, (imK (imB (⟨r, c, l⟩ : FdL) i) k).c, x⟩ : Fv)) rfl rfl (by omega) (by omega) rfl (fun u31 H32 ou31 nn33 le35 => ?_) rfl
   replace op1 := op1.le le35
   replace oe := oe.le le35
   replace ou := ou.le le35
   replace oh := oh.le le35
   replace oq := oq.le le35
   replace ox := ox.le le35
   replace hvc := hvc.le le35
   replace lE := lE.trans le35
   refine Fam.push ou rfl (ou31.sl encFv_n) ox auXx.symm (by omega) (by first | omega | (simp; omega)) (fun u40 Su40 H36 ou40 off37 hb38 hx39 oxx => ?_)
   have ap1Xu40 : Apt p1 Su40 := Apt.push op1.known ap1Xu ap1Xx hb38
   have aeXu40 : Apt e Su40 := Apt.push oe.known aeXu aeXx hb38
   have ahXu40 : Apt h Su40 := Apt.push oh.known auXh.symm ahXx hb38
   have aqXu40 : Apt q Su40 := Apt.push oq.known auXq.symm aqXx hb38
   have nu40 : Nws H Su40 := Nws.push lE nu nx hb38
   replace op1 := op1.offS off37 ap1Xu
   replace oe := oe.offS off37 aeXu
   replace oh := oh.offS off37 auXh.symm
   replace oq := oq.offS off37 auXq.symm
   replace hvc := hvc0.le (off37.le lE nu)
   replace lE := off37.le lE nu
   replace ox := oxx.ro
   refine ob_i (oq.ldn rfl) ?_
   refine C.impl_Field_right ox.sl (by first | omega | assumption) (fun  u43 H41 ou43 nn44  le42 => ?_)
   have ap1Xu43 : Apart p1 u43 := op1.apart nn44
   have aeXu43 : Apart e u43 := oe.apart nn44
   have ahXu43 : Apart h u43 := oh.apart nn44
   have aqXu43 : Apart q u43 := oq.apart nn44
   have au40Xu43 : Apt Su40 u43 := Apt.of_nw ou40.known nn44
   have nu43 : Nw H u43 := nn44.le lE
   replace op1 := op1.le le42
   replace oe := oe.le le42
   replace oh := oh.le le42
   replace oq := oq.le le42
   replace ou40 := ou40.le le42
   replace hvc := hvc.le le42
   replace lE := lE.trans le42
   refine oq.stn (ws := [(.int .i64 (((imK (imB (⟨r, c, l⟩ : FdL) i) k).c))), (.int .i64 (((imK (imB (⟨r, c, l⟩ : FdL) i) k).r))), u43]) rfl rfl (oc1 rfl (oc1 rfl (oc1 ou43.one oc0))) (fun H45 oq off46 => ?_)
   replace op1 := op1.off off46 ap1Xq
   replace oe := oe.off off46 aeXq
   replace oh := oh.off off46 ahXq
   replace ou40 := ou40.off off46 aqXu40.symm
   replace ou43 := ou43.off off46 aqXu43.symm
   replace hvc := hvc0.le (off46.le lE nq)
   replace lE := off46.le lE nq
   replace oq : Cel H45 q [(.int .i64 (((imK (imB (⟨r, c, l⟩ : FdL) i) k).c))), (.int .i64 (((imK (imB (⟨r, c, l⟩ : FdL) i) k).r))), u43] := oq
   refine ob_i (vInt_add (by omega) (by omega)) ?_
   exact nxt (4 - (k + 1)) (by omega) ⟨k + 1, rfl, by omega, u40, _, u43, rfl, g5L29, g11L29, g12L29, g13L29, (congrArg (Value.int .i64) (by first | omega | rfl | (simp; done))), op1, oe, (Fam.cast (imgs_succ (⟨r, c, l⟩ : FdL) (by omega)) ou40), oh, oq, ou43, nu40, ap1Xu40, aeXu40, ahXu40.symm, aqXu40.symm, nu43, ap1Xu43, aeXu43, au40Xu43, ahXu43, aqXu43, lE⟩
  ·skip
   have tk := hg30
   obtain rfl : k = 4 := by omega
   exact hJ23 _ _ ⟨u, _, g3L29, g11L29, g12L29, g13L29, op1, oe, ou, oh, nu, ap1Xu, aeXu, auXh, lE⟩
 ·skip
  have ti := hg22
  obtain rfl : i = 2 := by omega
  exact hJ10 _ _ ⟨u, _, g, h, g3L21, op1, ou, og, oh, nu, ap1Xu, ng, ap1Xg, auXg, nh, ap1Xh, auXh, agXh, lE⟩
theorem C.impl_ImagesOfField {vc : Value} {r c : Int} {l : List Int}  {H : Hp} {K : Value → Hp → Prop} (hvc0 : Sl eI H vc l) (k1 : l.length ≤ 9223372036854775807)
    (hk : ∀ u1 Su1 H', Fam H' u1 Su1 (selL (fieldN 1 r c l) (imgs (⟨r, c, l⟩ : FdL) 8)) → Nws H Su1 → Le H H' → K (.tuple #[u1, (.bool (decide (fieldN 1 r c l)))]) H') : HT prg I.impl_ImagesOfField [(.agg #[(.int .i64 (r)), (.int .i64 (c)), vc])].toArray H K := by
 have lE := Le.refl H
 have hvc := hvc0
 refine R.impl_ImagesOfField ?_
 unfold F.impl_ImagesOfField
 refine nw_i (fun p1 H2 op1 nn3 le4 => ?_)
 replace hvc := hvc.le le4
 replace lE := lE.trans le4
 replace op1 : Cel H2 p1 [(.int .i64 (r)), (.int .i64 (c)), vc] := op1
 refine ob_i (op1.ldn rfl) ?_
 refine C.impl_isPlain hvc (by first | omega | assumption) (fun   H5    le6 => ?_)
 replace op1 := op1.le le6
 replace hvc := hvc.le le6
 replace lE := lE.trans le6
 refine ob_nd (fun hc7 => ?_) (fun hc7 => ?_)
 ·skip
  have hf := hc7
  have l1 := fieldN_len hf
  have hs := hf.1
  have hl := hf.2.1
  have q1 := hs.1
  have q2 := hs.2
  have qm := sidesF_mul hs
  refine cnd_f1 ?_
  refine ob_i (op1.ldn rfl) ?_
  refine C.impl_Field_images hvc (by first | omega | assumption) (fun  u10 Su10 H8 ou10 nn11  le9 => ?_)
  have nu10 : Nws H Su10 := nn11.le lE
  replace lE := lE.trans le9
  skip
  have hok : fieldN 1 r c l := by assumption
  exact keq (K := K) (by rw [decide_eq_true (show (fieldN 1 r c l) from by exact hok)]) (hk  u10 _ _ (Fam.cast (show imgs (⟨r, c, l⟩ : FdL) 8 = selL (fieldN 1 r c l) (imgs (⟨r, c, l⟩ : FdL) 8) by exact (selL_t hok).symm) ou10) nu10  lE)
 ·skip
  refine cnd_t1 ?_
  skip
  have hok : ¬ (fieldN 1 r c l) := by assumption
  exact keq (K := K) (by rw [decide_eq_false (show ¬ (fieldN 1 r c l) from by exact hok)]) (hk  (.slice none 0 0) _ _ (Fam.cast (show [] = selL (fieldN 1 r c l) (imgs (⟨r, c, l⟩ : FdL) 8) by exact (selL_f hok).symm) (Fam.nil_of none)) (fun b hb => hb.elim)  lE)
end Go.Proofs.YtijmoehbgkibnaaGreatDoor
/- Names of fields. -/
namespace Go.Proofs.YtijmoehbgkibnaaGreatDoor
open HL
set_option maxRecDepth 100000
attribute [local irreducible] vStr
theorem C.slices_Min_string_string {v : Value} {ls : List (List UInt8)}  {H : Hp} {K : Value → Hp → Prop} (hv0 : Sl vS H v ls) (h1 : 1 ≤ ls.length) (h2 : ls.length ≤ 9223372036854775807)
    (hk : ∀ H', Le H H' → K (vS (minF ls)) H') : HT prg I.slices_Min_string_string [v].toArray H K := by
 have lE := Le.refl H
 have hv := hv0
 refine R.slices_Min_string_string ?_
 unfold F.slices_Min_string_string
 refine jn_i (fun σ' H' => σ' 0 = v ∧ Le H H') (fun σ1 H1 hP => ?_) (fun J1 hJ1 => ?_)
 ·skip
  obtain ⟨g0L1, lE⟩ := hP
  have hv := hv0.le lE
  try simp only [g0L1]
  refine ob_i (hv.ix (by omega) (by omega)) ?_
  refine ob_i (hv.ld [] (by omega) (by omega)) ?_
  refine jn_i (fun σ' H' => σ' 3 = (vS (minF ls)) ∧ Le H H') (fun σ2 H2 hP => ?_) (fun J2 hJ2 => ?_)
  ·skip
   obtain ⟨g3L2, lE⟩ := hP
   try simp only [g3L2]
   skip
   exact hk   _    lE
  refine ⟨fun n' σ' H' => ∃ i : Nat, n' = ls.length - i ∧ i ≤ ls.length ∧ σ' 0 = v ∧ σ' 3 = (vS (minF (ls.take (i + 1)))) ∧ σ' 4 = (.int .i64 ((i : Int) + 1)) ∧ Le H H' ∧ i + 1 ≤ ls.length,
   ⟨_, 0, rfl, by omega, g0L1, (congrArg vS (minF_take1 h1).symm), (congrArg (Value.int .i64) (by first | omega | rfl | (simp; done))), lE, (by omega)⟩, ?_⟩
  rintro n3 σ3 H3 ⟨i, rfl, hiN, g0L3, g3L3, g4L3, lE, hle⟩
  have hv := hv0.le lE
  try simp only [g0L3, g3L3, g4L3]
  refine ob_i (hv.len) ?_
  refine ob_i (vInt_lss _ _ _) ?_
  refine cnd_d (fun hg4 => ?_) (fun hg4 => ?_)
  ·skip
   have ti := hg4
   refine ob_i (hv.ix (by omega) (by omega)) ?_
   refine ob_i (hv.ld [] (by omega) (by omega)) ?_
   refine min_tr ?_
   refine ob_i (vInt_add (by omega) (by omega)) ?_
   exact nxt (ls.length - (i + 1)) (by omega) ⟨i + 1, rfl, by omega, g0L3, (congrArg vS (minF_take (by omega) (by omega)).symm), (congrArg (Value.int .i64) (by first | omega | rfl | (simp; done))), lE, (by omega)⟩
  ·skip
   have ti := hg4
   exact hJ2 _ _ ⟨(g3L3.trans (congrArg vS (by rw [List.take_of_length_le (by omega)]))), lE⟩
 refine ob_i (hv.len) ?_
 refine ob_i (vInt_lss _ _ _) ?_
 refine cnd_d (fun hg5 => ?_) (fun hg5 => ?_)
 ·skip
  exact absurd hg5 ((by omega))
 ·skip
  exact hJ1 _ _ ⟨rfl, lE⟩
theorem C.impl_Field_name {vc : Value} {r c : Int} {l : List Int}  {H : Hp} {K : Value → Hp → Prop} (hvc0 : Sl eI H vc l) (hf : fieldN 1 r c l)
    (hk : ∀ H', Le H H' → K (vS (nameT r c l)) H') : HT prg I.impl_Field_name [(.agg #[(.int .i64 (r)), (.int .i64 (c)), vc])].toArray H K := by
 have lE := Le.refl H
 have hvc := hvc0
 refine R.impl_Field_name ?_
 unfold F.impl_Field_name
 have hs := hf.1
 have hl := hf.2.1
 have q1 := hs.1
 have q2 := hs.2
 have qm := sidesF_mul hs
 have l1 := fieldN_len hf
 have il := imgs_len (⟨(trR r c l), (trC r c l), (trL r c l)⟩ : FdL) 8
 refine nw_i (fun p1 H2 op1 nn3 le4 => ?_)
 replace hvc := hvc.le le4
 replace lE := lE.trans le4
 replace op1 : Cel H2 p1 [(.int .i64 (r)), (.int .i64 (c)), vc] := op1
 refine ob_i (op1.ldn rfl) ?_
 refine C.impl_Field_trimmed hvc (by first | omega | assumption) (by first | omega | assumption) (fun hc5  H6    le7 => ?_) (fun hc8 u11 H9 ou11 nn12  le10 => ?_)
 ·skip
  replace hvc := hvc.le le7
  replace lE := lE.trans le7
  refine ob_i (vExt_40 _ _ _ _) ?_
  refine ob_i (vExt_41 _ _ _ _) ?_
  refine ob_i (vExt_42 _ _ _ _) ?_
  refine ob_i (vExt_43 _ _ _ _) ?_
  refine nw_i (fun pt H13 opt nn14 le15 => ?_)
  have npt : Nw H pt := nn14.le lE
  replace hvc := hvc.le le15
  replace lE := lE.trans le15
  replace opt : Cel H13 pt [(.int .i64 (0)), (.int .i64 (0)), (.slice none 0 0)] := opt
  refine opt.stn (ws := [(.int .i64 (0)), (.int .i64 (0)), (.slice none 0 0)]) rfl rfl (oc1 rfl (oc1 rfl (oc1 rfl oc0))) (fun H16 opt off17 => ?_)
  replace hvc := hvc0.le (off17.le lE npt)
  replace lE := off17.le lE npt
  replace opt : Cel H16 pt [(.int .i64 (0)), (.int .i64 (0)), (.slice none 0 0)] := opt
  refine ob_i (a := .bool true) rfl ?_
  refine cnd_t1 ?_
  skip
  exact keq (K := K) (by rw [show (nameT r c l) = (([] : List UInt8)) from by exact nameT_f hc5]; try rfl) (hk   _    lE)
 ·skip
  have hpos := hc8
  replace op1 := op1.le le10
  replace hvc := hvc.le le10
  replace lE := lE.trans le10
  refine ob_i (vExt_40 _ _ _ _) ?_
  refine ob_i (vExt_41 _ _ _ _) ?_
  refine ob_i (vExt_42 _ _ _ _) ?_
  refine ob_i (vExt_43 _ _ _ _) ?_
  refine nw_i (fun pt H18 opt nn19 le20 => ?_)
  have ap1Xpt : Apart p1 pt := op1.apart nn19
  have au11Xpt : Apart u11 pt := ou11.apart nn19
  have npt : Nw H pt := nn19.le lE
  replace op1 := op1.le le20
  replace ou11 := ou11.le le20
  replace hvc := hvc.le le20
  replace lE := lE.trans le20
  replace opt : Cel H18 pt [(.int .i64 (0)), (.int .i64 (0)), (.slice none 0 0)] := opt
  refine opt.stn (ws := [(.int .i64 (trR r c l)), (.int .i64 (trC r c l)), u11]) rfl rfl (oc1 rfl (oc1 rfl (oc1 ou11.one oc0))) (fun H21 opt off22 => ?_)
  replace op1 := op1.off off22 ap1Xpt
  replace ou11 := ou11.off off22 au11Xpt
  replace hvc := hvc0.le (off22.le lE npt)
  replace lE := off22.le lE npt
  replace opt : Cel H21 pt [(.int .i64 (trR r c l)), (.int .i64 (trC r c l)), u11] := opt
  refine ob_i (a := .bool false) rfl ?_
  refine cnd_f1 ?_
  refine bS_nil (enc := vS) (fun ts H23 ots nn24 kk25 le26 => ?_)
  have ap1Xts : Apart p1 ts := op1.apart nn24
  have au11Xts : Apart u11 ts := ou11.apart nn24
  have aptXts : Apart pt ts := opt.apart nn24
  have nts : Nw H ts := nn24.le lE
  replace op1 := op1.le le26
  replace ou11 := ou11.le le26
  replace opt := opt.le le26
  replace hvc := hvc.le le26
  replace lE := lE.trans le26
  refine jn_i (fun σ' H' => ∃ ts, σ' 7 = ts ∧ Cel H' p1 [(.int .i64 (r)), (.int .i64 (c)), vc] ∧ Own eI H' u11 (trL r c l) ∧ Cel H' pt [(.int .i64 (trR r c l)), (.int .i64 (trC r c l)), u11] ∧ Own vS H' ts (imT (tmF r c l) 8) ∧ Nw H ts ∧ Apart p1 ts ∧ Apart u11 ts ∧ Apart pt ts ∧ Le H H') (fun σ27 H27 hP => ?_) (fun J27 hJ27 => ?_)
  ·skip
   obtain ⟨ts, g7L27, op1, ou11, opt, ots, nts, ap1Xts, au11Xts, aptXts, lE⟩ := hP
   try simp only [g7L27]
   refine C.slices_Min_string_string ots.sl (by rw [imT_len]; omega) (by rw [imT_len]; omega) (fun   H28    le29 => ?_)
   replace lE := lE.trans le29
   skip
   exact keq (K := K) (by rw [show (nameT r c l) = (minF (imT (tmF r c l) 8)) from by exact nameT_t hpos]; try rfl) (hk   _    lE)
  refine ob_i (opt.ldn rfl) ?_
  refine C.impl_Field_images ou11.sl (by exact trF_ok hf hpos) (fun  im Sim H30 oim nn32  le31 => ?_)
  have atsXim : Apt ts Sim := Apt.of_nws ots.known nn32
  replace op1 := op1.le le31
  replace ou11 := ou11.le le31
  replace opt := opt.le le31
  replace ots := ots.le le31
  replace hvc := hvc.le le31
  replace lE := lE.trans le31
  refine ob_i (oim.len) ?_
  refine ⟨fun n' σ' H' => ∃ i : Nat, n' = 8 - i ∧ i ≤ 8 ∧ ∃ ts, σ' 7 = ts ∧ σ' 21 = im ∧ σ' 22 = (.int .i64 (((imgs (⟨(trR r c l), (trC r c l), (trL r c l)⟩ : FdL) 8).length : Int))) ∧ σ' 23 = (.int .i64 ((i : Int))) ∧ Cel H' p1 [(.int .i64 (r)), (.int .i64 (c)), vc] ∧ Own eI H' u11 (trL r c l) ∧ Cel H' pt [(.int .i64 (trR r c l)), (.int .i64 (trC r c l)), u11] ∧ Own vS H' ts (imT (tmF r c l) i) ∧ Fam H' im Sim (imgs (⟨(trR r c l), (trC r c l), (trL r c l)⟩ : FdL) 8) ∧ Nw H ts ∧ Apart p1 ts ∧ Apart u11 ts ∧ Apart pt ts ∧ Apt ts Sim ∧ Le H H',
   ⟨_, 0, rfl, by omega, ts, rfl, rfl, rfl, (congrArg (Value.int .i64) (by first | omega | rfl | (simp; done))), op1, ou11, opt, (Own.cast (by first | rfl | (simp; done)) ots), oim, nts, ap1Xts, au11Xts, aptXts, atsXim, lE⟩, ?_⟩
  rintro n33 σ33 H33 ⟨i, rfl, hiN, ts, g7L33, g21L33, g22L33, g23L33, op1, ou11, opt, ots, oim, nts, ap1Xts, au11Xts, aptXts, atsXim, lE⟩
  have hvc := hvc0.le lE
  try simp only [g7L33, g21L33, g22L33, g23L33]
  have tl := imT_len (f := (tmF r c l)) (n := i)
  refine ob_i (vInt_lss _ _ _) ?_
  refine cnd_d (fun hg34 => ?_) (fun hg34 => ?_)
  ·skip
   have ti := hg34
   obtain ⟨P35, y36, hb37a, oP35, oy36, hb37p, hb37x⟩ := oim.el (i := (i : Int)) (f := ⟨(imF (tmF r c l) i).r, (imF (tmF r c l) i).c, (imF (tmF r c l) i).l⟩) (by omega) (by first | omega | (simp; omega)) (imF_at (f := (tmF r c l)) (by omega))
   replace oP35 : CelR H33 P35 [(.int .i64 ((imF (tmF r c l) i).r)), (.int .i64 ((imF (tmF r c l) i).c)), y36] := oP35
   replace oy36 : Ro eI H33 y36 ((imF (tmF r c l) i).l) := oy36
   refine ob_i (hb37a) ?_
   refine ob_i (oP35.ldn rfl) ?_
   refine nw_i (fun p38 H39 op38 nn40 le41 => ?_)
   have ap1Xp38 : Apart p1 p38 := op1.apart nn40
   have au11Xp38 : Apart u11 p38 := ou11.apart nn40
   have aptXp38 : Apart pt p38 := opt.apart nn40
   have atsXp38 : Apart ts p38 := ots.apart nn40
   have aimXp38 : Apt Sim p38 := Apt.of_nw oim.known nn40
   have ay36Xp38 : Apart y36 p38 := oy36.apart nn40
   have np38 : Nw H p38 := nn40.le lE
   replace op1 := op1.le le41
   replace ou11 := ou11.le le41
   replace opt := opt.le le41
   replace ots := ots.le le41
   replace oim := oim.le le41
   replace oy36 := oy36.le le41
   replace hvc := hvc.le le41
   replace lE := lE.trans le41
   replace op38 : Cel H39 p38 [(.int .i64 (0)), (.int .i64 (0)), (.slice none 0 0)] := op38
   refine op38.stn (ws := [(.int .i64 ((imF (tmF r c l) i).r)), (.int .i64 ((imF (tmF r c l) i).c)), y36]) rfl rfl (oc1 rfl (oc1 rfl (oc1 oy36.one oc0))) (fun H42 op38 off43 => ?_)
   replace op1 := op1.off off43 ap1Xp38
   replace ou11 := ou11.off off43 au11Xp38
   replace opt := opt.off off43 aptXp38
   replace ots := ots.off off43 atsXp38
   replace oim := oim.off off43 aimXp38
   replace oy36 := oy36.off off43 ay36Xp38
   replace hvc := hvc0.le (off43.le lE np38)
   replace lE := off43.le lE np38
   replace op38 : Cel H42 p38 [(.int .i64 ((imF (tmF r c l) i).r)), (.int .i64 ((imF (tmF r c l) i).c)), y36] := op38
   refine ob_i (op38.ldn rfl) ?_
   refine C.impl_Field_text oy36.sl (by exact imF_ok (f := (tmF r c l)) (trF_ok hf hpos) i) (fun   H44    le45 => ?_)
   replace op1 := op1.le le45
   replace ou11 := ou11.le le45
   replace opt := opt.le le45
   replace ots := ots.le le45
   replace oim := oim.le le45
   replace hvc := hvc.le le45
   replace lE := lE.trans le45
   refine bS_i (enc := vS) (l := [fieldT ((imF (tmF r c l) i).r) ((imF (tmF r c l) i).c) ((imF (tmF r c l) i).l)]) (by omega) rfl (by kernel_rfl) (fun u46 H47 ou46 nn48 le50 => ?_)
   replace op1 := op1.le le50
   replace ou11 := ou11.le le50
   replace opt := opt.le le50
   replace ots := ots.le le50
   replace oim := oim.le le50
   replace hvc := hvc.le le50
   replace lE := lE.trans le50
   refine apd_any ots ou46.sl (fun _ => rfl) (by omega) (by first | omega | (simp only [List.length_cons, List.length_nil]; omega)) (fun u54 H51 ou54 off52 hb53 => ?_)
   have ap1Xu54 : Apart p1 u54 := Apart.ap2 op1.known ap1Xts hb53
   have au11Xu54 : Apart u11 u54 := Apart.ap2 ou11.known au11Xts hb53
   have aptXu54 : Apart pt u54 := Apart.ap2 opt.known aptXts hb53
   have aimXu54 : Apt Sim u54 := Apt.ap2 oim.known atsXim.symm hb53
   have nu54 : Nw H u54 := Nw.ap2 nts lE hb53
   replace op1 := op1.off off52 ap1Xts
   replace ou11 := ou11.off off52 au11Xts
   replace opt := opt.off off52 aptXts
   replace oim := oim.off off52 atsXim.symm
   replace hvc := hvc0.le (off52.le lE nts)
   replace lE := off52.le lE nts
   refine ob_i (vInt_add (by omega) (by omega)) ?_
   exact nxt (8 - (i + 1)) (by omega) ⟨i + 1, rfl, by omega, u54, rfl, g21L33, g22L33, (congrArg (Value.int .i64) (by first | omega | rfl | (simp; done))), op1, ou11, opt, (Own.cast imT_succ.symm ou54), oim, nu54, ap1Xu54, au11Xu54, aptXu54, aimXu54.symm, lE⟩
  ·skip
   have ti := hg34
   obtain rfl : i = 8 := by omega
   exact hJ27 _ _ ⟨ts, g7L33, op1, ou11, opt, ots, nts, ap1Xts, au11Xts, aptXts, lE⟩
theorem C.impl_NameOf {vc : Value} {r c : Int} {l : List Int}  {H : Hp} {K : Value → Hp → Prop} (hvc0 : Sl eI H vc l) (k1 : l.length ≤ 9223372036854775807)
    (hk : ∀ H', Le H H' → K (.tuple #[(vS (selL (fieldN 1 r c l) (nameT r c l))), (.bool (decide (fieldN 1 r c l)))]) H') : HT prg I.impl_NameOf [(.agg #[(.int .i64 (r)), (.int .i64 (c)), vc])].toArray H K := by
 have lE := Le.refl H
 have hvc := hvc0
 refine R.impl_NameOf ?_
 unfold F.impl_NameOf
 refine nw_i (fun p1 H2 op1 nn3 le4 => ?_)
 replace hvc := hvc.le le4
 replace lE := lE.trans le4
 replace op1 : Cel H2 p1 [(.int .i64 (r)), (.int .i64 (c)), vc] := op1
 refine ob_i (op1.ldn rfl) ?_
 refine C.impl_isPlain hvc (by first | omega | assumption) (fun   H5    le6 => ?_)
 replace op1 := op1.le le6
 replace hvc := hvc.le le6
 replace lE := lE.trans le6
 refine ob_nd (fun hc7 => ?_) (fun hc7 => ?_)
 ·skip
  have hf := hc7
  refine cnd_f1 ?_
  refine ob_i (op1.ldn rfl) ?_
  refine C.impl_Field_name hvc (by first | omega | assumption) (fun   H8    le9 => ?_)
  replace lE := lE.trans le9
  skip
  have hok : fieldN 1 r c l := by assumption
  exact keq (K := K) (by rw [show (selL (fieldN 1 r c l) (nameT r c l)) = (nameT r c l) from by first | exact selL_t hok | exact selL_f hok]; rw [decide_eq_true (show (fieldN 1 r c l) from by exact hok)]; try rfl) (hk   _    lE)
 ·skip
  refine cnd_t1 ?_
  skip
  have hok : ¬ (fieldN 1 r c l) := by assumption
  exact keq (K := K) (by rw [show (selL (fieldN 1 r c l) (nameT r c l)) = (([] : List UInt8)) from by first | exact selL_t hok | exact selL_f hok]; rw [decide_eq_false (show ¬ (fieldN 1 r c l) from by exact hok)]; try rfl) (hk   _    lE)
theorem C.impl_SameShape {vc vd : Value} {r c r2 c2 : Int} {l : List Int} {m : List Int}  {H : Hp} {K : Value → Hp → Prop} (hvc0 : Sl eI H vc l) (hvd0 : Sl eI H vd m) (k1 : l.length ≤ 9223372036854775807) (k2 : m.length ≤ 9223372036854775807)
    (hk : ∀ H', Le H H' → K (.tuple #[(.bool (decide ((fieldN 1 r c l ∧ fieldN 1 r2 c2 m) ∧ (nameT r c l = nameT r2 c2 m)))), (.bool (decide (fieldN 1 r c l ∧ fieldN 1 r2 c2 m)))]) H') : HT prg I.impl_SameShape [(.agg #[(.int .i64 (r)), (.int .i64 (c)), vc]), (.agg #[(.int .i64 (r2)), (.int .i64 (c2)), vd])].toArray H K := by
 have lE := Le.refl H
 have hvc := hvc0
 have hvd := hvd0
 refine R.impl_SameShape ?_
 unfold F.impl_SameShape
 refine nw_i (fun p1 H2 op1 nn3 le4 => ?_)
 replace hvc := hvc.le le4
 replace hvd := hvd.le le4
 replace lE := lE.trans le4
 replace op1 : Cel H2 p1 [(.int .i64 (r)), (.int .i64 (c)), vc] := op1
 refine nw_i (fun p5 H6 op5 nn7 le8 => ?_)
 replace op1 := op1.le le8
 replace hvc := hvc.le le8
 replace hvd := hvd.le le8
 replace lE := lE.trans le8
 replace op5 : Cel H6 p5 [(.int .i64 (r2)), (.int .i64 (c2)), vd] := op5
 refine ob_i (op1.ldn rfl) ?_
 refine C.impl_isPlain hvc (by first | omega | assumption) (fun   H9    le10 => ?_)
 replace op1 := op1.le le10
 replace op5 := op5.le le10
 replace hvc := hvc.le le10
 replace hvd := hvd.le le10
 replace lE := lE.trans le10
 refine ob_nd (fun hc11 => ?_) (fun hc11 => ?_)
 ·skip
  have hf := hc11
  refine gop_rf ?_
  refine ob_i (op5.ldn rfl) ?_
  refine gop_rf ?_
  refine C.impl_isPlain hvd (by first | omega | assumption) (fun   H12    le13 => ?_)
  replace op1 := op1.le le13
  replace op5 := op5.le le13
  replace hvc := hvc.le le13
  replace hvd := hvd.le le13
  replace lE := lE.trans le13
  refine gop_rf ?_
  refine ob_nd (fun hc14 => ?_) (fun hc14 => ?_)
  ·skip
   have hg := hc14
   refine ob_i (vPick_f _ _) ?_
   refine cnd_f1 ?_
   refine ob_i (op1.ldn rfl) ?_
   refine ob_i (op5.ldn rfl) ?_
   refine C.impl_Field_name hvc (by first | omega | assumption) (fun   H15    le16 => ?_)
   replace hvd := hvd.le le16
   replace lE := lE.trans le16
   refine ⟨le16, ?_⟩
   refine C.impl_Field_name hvd (by first | omega | assumption) (fun   H17    le18 => ?_)
   replace lE := lE.trans le18
   refine ⟨le18, ?_⟩
   refine ob_i (vStr_eql (nameT r c l) (nameT r2 c2 m)) ?_
   skip
   have hok : fieldN 1 r c l ∧ fieldN 1 r2 c2 m := by exact ⟨by assumption, by assumption⟩
   exact keq (K := K) (by rw [show decide ((nameT r c l) = (nameT r2 c2 m)) = decide ((fieldN 1 r c l ∧ fieldN 1 r2 c2 m) ∧ (nameT r c l = nameT r2 c2 m)) from decide_eq_decide.mpr (by first | exact hok | exact fun h => hok h.1 | exact ⟨fun h => ⟨hok, h⟩, fun h => h.2⟩)]; rw [decide_eq_true (show (fieldN 1 r c l ∧ fieldN 1 r2 c2 m) from by first | exact hok | exact fun h => hok h.1 | exact ⟨fun h => ⟨hok, h⟩, fun h => h.2⟩)]; try rfl) (hk   _    lE)
  ·skip
   refine ob_i (vPick_f _ _) ?_
   refine cnd_t1 ?_
   skip
   have hok : ¬ (fieldN 1 r c l ∧ fieldN 1 r2 c2 m) := by intro h; first | exact absurd h.1 (by assumption) | exact absurd h.2 (by assumption)
   exact keq (K := K) (by rw [decide_eq_false (show ¬ ((fieldN 1 r c l ∧ fieldN 1 r2 c2 m) ∧ (nameT r c l = nameT r2 c2 m)) from by first | exact hok | exact fun h => hok h.1 | exact ⟨fun h => ⟨hok, h⟩, fun h => h.2⟩)]; rw [decide_eq_false (show ¬ (fieldN 1 r c l ∧ fieldN 1 r2 c2 m) from by first | exact hok | exact fun h => hok h.1 | exact ⟨fun h => ⟨hok, h⟩, fun h => h.2⟩)]; try rfl) (hk   _    lE)
 ·skip
  refine gop_st ?_
  refine gop_st ?_
  refine gop_st ?_
  refine ob_i (vPick_t _ _) ?_
  refine cnd_t1 ?_
  skip
  have hok : ¬ (fieldN 1 r c l ∧ fieldN 1 r2 c2 m) := by intro h; first | exact absurd h.1 (by assumption) | exact absurd h.2 (by assumption)
  exact keq (K := K) (by rw [decide_eq_false (show ¬ ((fieldN 1 r c l ∧ fieldN 1 r2 c2 m) ∧ (nameT r c l = nameT r2 c2 m)) from by first | exact hok | exact fun h => hok h.1 | exact ⟨fun h => ⟨hok, h⟩, fun h => h.2⟩)]; rw [decide_eq_false (show ¬ (fieldN 1 r c l ∧ fieldN 1 r2 c2 m) from by first | exact hok | exact fun h => hok h.1 | exact ⟨fun h => ⟨hok, h⟩, fun h => h.2⟩)]; try rfl) (hk   _    lE)
end Go.Proofs.YtijmoehbgkibnaaGreatDoor
/- Choices that are read from bytes. -/
namespace Go.Proofs.YtijmoehbgkibnaaGreatDoor
open HL
set_option maxRecDepth 100000
namespace HL
theorem vMulW (a b : Int) : vInt .mul (.int .u64 a) (.int .u64 b) = some (.int .u64 (IntKind.u64.wrap (a * b))) := by simp only [vInt, if_true]
theorem vAddW (a b : Int) : vInt .add (.int .u64 a) (.int .u64 b) = some (.int .u64 (IntKind.u64.wrap (a + b))) := by simp only [vInt, if_true]
theorem vCIW (k : IntKind) (a : Int) : vCI .u64 (.int k a) = some (.int .u64 (IntKind.u64.wrap a)) := rfl
theorem vShrW (a : Int) {b : Int} (h : 0 ≤ b) : ∃ x, vInt .shr (.int .u64 a) (.int .u64 b) = some (.int .u64 x) := by
  simp only [vInt]; rw [if_pos h]; exact ⟨_, rfl⟩
theorem vAnd255 (a : Int) : ∃ x, vInt .and (.int .u64 a) (.int .u64 255) = some (.int .u64 x) ∧ 0 ≤ x ∧ x ≤ 255 := by
  refine ⟨_, by simp only [vInt, if_true]; rfl, ?_⟩
  show 0 ≤ IntKind.u64.wrap ((BitVec.ofInt 64 a &&& BitVec.ofInt 64 255).toNat : Int) ∧ IntKind.u64.wrap ((BitVec.ofInt 64 a &&& BitVec.ofInt 64 255).toNat : Int) ≤ 255
  have h : (BitVec.ofInt 64 a &&& BitVec.ofInt 64 255).toNat ≤ 255 := by
    rw [BitVec.toNat_and]
    have e : (BitVec.ofInt 64 255).toNat = 255 := by decide
    rw [e]
    exact Nat.and_le_right
  generalize (BitVec.ofInt 64 a &&& BitVec.ofInt 64 255).toNat = n at h
  have e : IntKind.u64.wrap (n : Int) = (n : Int) := by
    unfold IntKind.wrap; simp [IntKind.signed, IntKind.bits]; omega
  rw [e]; omega
end HL
variable {H0 H : Hp} {K : Value → Hp → Prop} {p code : Value} {l : List Int} {a s : Int}
theorem C.spec_l00From (h0 : Sl eU H code l) (hk : ∀ p H', Cel H' p [code, .int .i64 0, .int .u64 0] → Nw H p → Le H H' → K p H') : HT prg I.spec_l00From [code].toArray H K := by
 refine R.spec_l00From ?_
 unfold F.spec_l00From
 refine ob_i (a := .agg #[code, .int .i64 0, .int .u64 0]) (by obtain ⟨_, _, _, rfl⟩ := h0.isSl; rfl) ?_
 exact nw_i (fun p H' op nn le => hk p H' op nn le)
theorem C.pspec_l00Src_next (h0 : Sl eU H0 code l) (hb : bytP l) (hl : l.length ≤ 9223372036854775807) (le : Le H0 H) (np : Nw H0 p) (hp : Cel H p [code, .int .i64 a, .int .u64 s]) (a0 : 0 ≤ a) (a1 : a ≤ 4611686018427387904)
    (hk : ∀ x s' H', 0 ≤ x → x ≤ 255 → Cel H' p [code, .int .i64 (a + 1), .int .u64 s'] → Off p H H' → K (.int .i64 x) H') : HT prg I.pspec_l00Src_next [p].toArray H K := by
 have hc := h0.le le
 have ho : oneCell code = true := h0.one
 refine R.pspec_l00Src_next ?_
 unfold F.pspec_l00Src_next
 refine jn_i (fun σ' H' => ∃ x, 0 ≤ x ∧ x ≤ 255 ∧ σ' 0 = p ∧ σ' 3 = .int .i64 x ∧ H' = H) (fun σ1 H1 hP => ?_) (fun J1 hJ1 => ?_)
 ·obtain ⟨x, x0, x1, g0, g3, rfl⟩ := hP
  rw [g0, g3]
  refine ob_i hp.nilC (ob_i (hp.fa 1) (ob_i (hp.ld 1 rfl) (ob_i (vInt_add (by omega) (by omega)) (ob_i hp.nilC (ob_i (hp.fa 1) ?_)))))
  refine hp.st (by simp) rfl rfl (fun H2 hp2 off2 => ?_)
  refine ob_i hp2.nilC (ob_i (hp2.fa 2) (ob_i (hp2.ld 2 rfl) (ob_i (vMulW _ _) (ob_i (vCIW _ _) (ob_i (vAddW _ _) (ob_i (vAddW _ _) (ob_i hp2.nilC (ob_i (hp2.fa 2) ?_))))))))
  refine hp2.st (by simp) rfl rfl (fun H3 hp3 off3 => ?_)
  refine ob_i hp3.nilC (ob_i (hp3.fa 1) (ob_i (hp3.ld 1 rfl) (ob_i hp3.nilC (ob_i (hp3.fa 0) (ob_i (hp3.ld 0 rfl) (ob_i h0.len (ob_i (vInt_leq _ _ _) ?_)))))))
  have off := off2.trans off3
  refine cnd_d (fun _ => hk x _ H3 x0 x1 hp3 off) (fun _ => ?_)
  refine ob_i hp3.nilC (ob_i (hp3.fa 2) (ob_i (hp3.ld 2 rfl) ?_))
  obtain ⟨y, hy⟩ := vShrW (IntKind.u64.wrap (IntKind.u64.wrap (IntKind.u64.wrap (s * 6364136223846793005) + IntKind.u64.wrap x) + 1442695040888963407)) (b := 40) (by omega)
  obtain ⟨z, hz, z0, z1⟩ := vAnd255 y
  refine ob_i hy (ob_i hz (ob_i (vCI_64 _ (by omega) (by omega)) ?_))
  exact hk z _ H3 z0 z1 hp3 off
 ·refine ob_i hp.nilC (ob_i (hp.fa 1) (ob_i (hp.ld 1 rfl) (ob_i hp.nilC (ob_i (hp.fa 0) (ob_i (hp.ld 0 rfl) (ob_i h0.len (ob_i (vInt_lss _ _ _) ?_)))))))
  refine cnd_d (fun hlt => ?_) (fun _ => hJ1 _ _ ⟨0, by omega, by omega, rfl, rfl, rfl⟩)
  have hm := hb _ (at_mem 0 l a0 hlt)
  refine ob_i hp.nilC (ob_i (hp.fa 0) (ob_i (hp.ld 0 rfl) (ob_i hp.nilC (ob_i (hp.fa 1) (ob_i (hp.ld 1 rfl) (ob_i (hc.ix a0 hlt) (ob_i (hc.ld 0 a0 hlt) (ob_i (vCI_64 _ (by omega) (by omega)) ?_))))))))
  exact hJ1 _ _ ⟨_, hm.1, hm.2, rfl, rfl, rfl⟩
theorem C.pspec_l00Src_pick {n : Int} (h0 : Sl eU H0 code l) (hb : bytP l) (hl : l.length ≤ 9223372036854775807) (le : Le H0 H) (np : Nw H0 p) (hp : Cel H p [code, .int .i64 a, .int .u64 s]) (a0 : 0 ≤ a) (a1 : a ≤ 4611686018427387000)
    (hk : ∀ x a' s' H', 0 ≤ x → (1 ≤ n → x < n) → a ≤ a' → a' ≤ a + 2 → Cel H' p [code, .int .i64 a', .int .u64 s'] → Off p H H' → K (.int .i64 x) H') : HT prg I.pspec_l00Src_pick [p, .int .i64 n].toArray H K := by
 refine R.pspec_l00Src_pick ?_
 unfold F.pspec_l00Src_pick
 refine ob_i (vInt_leq _ _ _) (cnd_d (fun h1 => hk 0 a s H (by omega) (by omega) (by omega) (by omega) hp (Off.of_le (Le.refl H))) (fun h1 => ?_))
 refine C.pspec_l00Src_next h0 hb hl le np hp a0 (by omega) (fun x s1 H1 x0 x1 hp1 off1 => ?_)
 refine ob_i (vInt_gtr _ _ _) (cnd_d (fun h2 => ?_) (fun h2 => ?_))
 ·refine ob_i (vInt_mul (by omega) (by omega)) ?_
  refine C.pspec_l00Src_next h0 hb hl (off1.le le np) np hp1 (by omega) (by omega) (fun y s2 H2 y0 y1 hp2 off2 => ?_)
  refine ob_i (vInt_add (by omega) (by omega)) (ob_i (vInt_remN (by omega) (by omega)) ?_)
  have r0 := Int.emod_nonneg (x * 256 + y) (b := n) (by omega)
  have r1 := Int.emod_lt_of_pos (x * 256 + y) (b := n) (by omega)
  refine hk _ _ _ H2 r0 (fun _ => r1) (by omega) (by omega) hp2 (off1.trans off2)
 ·refine ob_i (vInt_remN (by omega) (by omega)) ?_
  have r0 := Int.emod_nonneg x (b := n) (by omega)
  have r1 := Int.emod_lt_of_pos x (b := n) (by omega)
  exact hk _ _ _ H1 r0 (fun _ => r1) (by omega) (by omega) hp1 off1
theorem C.laws_b10At {k n : Int} (hc : Sl eU H code l) (hb : bytP l) (hl : l.length ≤ 9223372036854775807) (k0 : 0 ≤ k) (k1 : k ≤ 1000) (hk : ∀ x, 0 ≤ x → (1 ≤ n → x < n) → K (.int .i64 x) H) : HT prg I.laws_b10At [code, .int .i64 k, .int .i64 n].toArray H K := by
 refine R.laws_b10At ?_
 unfold F.laws_b10At
 refine ob_i (vInt_leq _ _ _) (cnd_d (fun h1 => hk 0 (by omega) (by omega)) (fun h1 => ?_))
 refine ob_i hc.len (ob_i (vInt_lss _ _ _) (cnd_d (fun h2 => ?_) (fun h2 => ?_)))
 ·have hm := hb _ (at_mem 0 l k0 h2)
  refine ob_i (hc.ix k0 h2) (ob_i (hc.ld 0 k0 h2) (ob_i (vCI_64 _ (by omega) (by omega)) (ob_i (vInt_remN (by omega) (by omega)) ?_)))
  exact hk _ (Int.emod_nonneg _ (by omega)) (fun _ => Int.emod_lt_of_pos _ (by omega))
 ·refine ob_i (vInt_mul (by omega) (by omega)) (ob_i (vInt_add (by omega) (by omega)) (ob_i (vInt_remN (by omega) (by omega)) ?_))
  exact hk _ (Int.emod_nonneg _ (by omega)) (fun _ => Int.emod_lt_of_pos _ (by omega))
end Go.Proofs.YtijmoehbgkibnaaGreatDoor
