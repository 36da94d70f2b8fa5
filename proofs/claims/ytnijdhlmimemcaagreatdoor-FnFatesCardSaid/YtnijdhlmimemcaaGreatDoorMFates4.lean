/- Several texts in one. -/
import Derived.Test.YtnijdhlmimemcaaGreatDoorMFates3
import Derived.Test.YtnijdhlmimemcaaGreatDoorMFates0
import Derived.Test.YtnijdhlmimemcaaGreatDoorMFates1
import Derived.Sort.Grow
import Derived.Test.YtnijdhlmimemcaaGreatDoorYS
import Derived.Test.YtnijdhlmimemcaaGreatDoorMFates2
/- strings.Join, with one byte between the texts. -/
namespace Go.Proofs.YtnijdhlmimemcaaGreatDoor
open HL
set_option maxRecDepth 100000
theorem joinT_len (x : UInt8) (a : List UInt8) : ∀ r : List (List UInt8), (joinT [x] (a :: r)).length = r.length + (a :: r).flatten.length
  | [] => by simp [joinT]
  | b :: r => by
    have ih := joinT_len x a r
    simp only [joinT, List.flatMap_cons, List.length_append, List.length_cons, List.length_nil, List.flatten_cons] at ih ⊢
    omega
theorem flat_snoc (ls : List (List UInt8)) (x : List UInt8) : (ls ++ [x]).flatten.length = ls.flatten.length + x.length := by simp
theorem flat_take (ls : List (List UInt8)) (t : Nat) : (ls.take t).flatten.length ≤ ls.flatten.length := by
  have := congrArg (fun l => l.flatten.length) (List.take_append_drop t ls)
  simp only [List.flatten_append, List.length_append] at this
  omega
theorem flat_at (ls : List (List UInt8)) {t : Nat} (ht : t < ls.length) : (ls.take t).flatten.length + (at_ [] ls (t : Int)).length ≤ ls.flatten.length := by
  have := flat_take ls (t + 1)
  rw [take_at [] ls ht, flat_snoc] at this
  exact this
theorem C.c87 {v : Value} {ls : List (List UInt8)} {x : UInt8} {H : Hp} {K : Value → Hp → Prop} (hv : Sl vS H v ls) (h1 : ls.length ≤ 1000000) (h2 : ls.flatten.length ≤ 1000000000) (hk : ∀ H', Le H H' → K (vS (joinT [x] ls)) H') :
    HT prg 126 [v, vS [x]].toArray H K := by
 refine R.q126 ?_
 unfold F.q126
 refine ob_i hv.len (ob_i (vInt_eql _ _ _) (cnd_d (fun h0 => ?_) (fun h0 => ?_)))
 obtain rfl : ls = [] := List.length_eq_zero_iff.mp (by omega)
 exact hk H (Le.refl H)
 refine ob_i (vInt_eql _ _ _) (cnd_d (fun h3 => ?_) (fun h3 => ?_))
 refine ob_i (hv.ix (by omega) (by omega)) (ob_i (hv.ld [] (by omega) (by omega)) ?_)
 obtain ⟨a, rfl⟩ := List.length_eq_one_iff.mp (show ls.length = 1 by omega)
 have := hk H (Le.refl H)
 simp only [joinT, List.flatMap_nil, List.append_nil] at this
 exact this
 obtain ⟨a, r, rfl⟩ : ∃ a r, ls = a :: r := by cases ls with | nil => simp at h0 | cons a r => exact ⟨a, r, rfl⟩
 have hjl := joinT_len x a r
 have hrl : (a :: r).length = r.length + 1 := rfl
 have h2' := h2
 generalize hLS : a :: r = ls at *
 refine jn_i (fun σ H' => σ 0 = v ∧ σ 1 = vS [x] ∧ σ 5 = .int .i64 (r.length : Int) ∧ H' = H) (fun σ H6 hP => ?_) (fun J6 hJ6 => ?_)
 obtain ⟨g0, g1, g5, rfl⟩ := hP
 refine jn_i (fun σ' H' => σ' 0 = v ∧ σ' 1 = vS [x] ∧ σ' 5 = .int .i64 ((joinT [x] ls).length : Int) ∧ H' = H6) (fun σ7 H7 hP => ?_) (fun J7 hJ7 => ?_)
 obtain ⟨g0, g1, g5, rfl⟩ := hP
 simp only [g0, g5]
 intro rb hrb
 have hH : (H7.put rb (.cells #[.pointer none, .slice none 0 0] bdE (0, 0))) rb = some (.cells #[.pointer none, .slice none 0 0] bdE (0, 0)) := Hp.put_same _ _ _
 have hle1 : Le H7 (H7.put rb (.cells #[.pointer none, .slice none 0 0] bdE (0, 0))) := Le.put _ hrb
 refine (?_ : HT prg 149 [.pointer (some ⟨rb, 0, none⟩), .int .i64 ((joinT [x] ls).length : Int)].toArray (H7.put rb (.cells #[.pointer none, .slice none 0 0] bdE (0, 0))) _)
 refine C.c84 hH (by omega) (by omega) (fun b c H11 hc1 hc2 hb hB hoth => ?_)
 have hbH : H7 b = none := by
    have : b ≠ rb := by rintro rfl; rw [hH] at hb; exact absurd hb (by simp)
    rw [Hp.put_ne _ _ this] at hb; exact hb
 have hle2 : Le H7 H11 := fun y o hy => hoth y o (hle1 y o hy) (by rintro rfl; rw [hrb] at hy; exact absurd hy (by simp))
 have keep : ∀ {A B : Hp}, Le H7 A → (∀ y o, A y = some o → y ≠ rb → y ≠ b → B y = some o) → Le H7 B := fun hA hAB y o hy =>
    hAB y o (hA y o hy) (by rintro rfl; rw [hrb] at hy; exact absurd hy (by simp)) (by rintro rfl; rw [hbH] at hy; exact absurd hy (by simp))
 have hv11 := hv.le hle2
 refine ob_i (hv11.ix (by omega) (by omega)) (ob_i (hv11.ld [] (by omega) (by omega)) ?_)
 have ha0 : at_ [] ls 0 = a := by rw [← hLS]; rfl
 rw [ha0]
 have hal : a.length ≤ (joinT [x] ls).length := by
    rw [hjl, ← hLS]; simp; omega
 refine C.c85 hB (by rw [Int.toNat_natCast] at hc1; simp; omega) (fun H15 hB15 hoth15 => ?_)
 have hle3 := keep hle2 hoth15
 rw [List.nil_append] at hB15
 have e1 : vSl3 1 v (some (.int .i64 1)) none none = some (vSl3 1 v (some (.int .i64 1)) none none).get! := by
    obtain ⟨y, _, hy2, _⟩ := hv.cut (lo := 1) (hi := (ls.length : Int)) (by omega) (by omega) (by omega)
    rw [hy2 rfl]; rfl
 obtain ⟨y, _, hy2, _, _, hy5, _⟩ := hv.cut (lo := 1) (hi := (ls.length : Int)) (by omega) (by omega) (by omega)
 have hy2 := hy2 rfl
 have hyl : ((ls.drop (Int.toNat 1)).take ((ls.length : Int).toNat - Int.toNat 1)) = r := by
    rw [← hLS]; simp
 rw [hyl] at hy5
 refine jn_i (fun σ' H' => σ' 8 = .pointer (some ⟨rb, 0, none⟩) ∧ Bd bdE nzE H' rb b c (joinT [x] ls) ∧ Le H7 H') (fun σ16 H16 hP => ?_) (fun J16 hJ16 => ?_)
 obtain ⟨g8, hB16, hle16⟩ := hP
 simp only [g8]
 refine C.c86 hB16 (by omega) (by omega) (fun H' hoth' => ?_)
 exact hk H' (keep hle16 hoth')
 refine ob_i hy2 (ob_i hy5.len ?_)
 refine ⟨fun n σ' H' => ∃ t : Nat, n = r.length - t ∧ t ≤ r.length ∧ σ' 1 = vS [x] ∧ σ' 8 = .pointer (some ⟨rb, 0, none⟩) ∧ σ' 63 = y ∧ σ' 64 = .int .i64 (r.length : Int) ∧ σ' 65 = .int .i64 (t : Int) ∧ Bd bdE nzE H' rb b c (joinT [x] (ls.take (t + 1))) ∧ Le H7 H',
    ⟨_, 0, rfl, by omega, g1, rfl, rfl, rfl, rfl, by rw [← hLS]; simpa [joinT] using hB15, hle3⟩, ?_⟩
 rintro n σ' H21 ⟨t, rfl, ht, q1, q8, q63, q64, q65, hB21, hle21⟩
 simp only [q1, q8, q63, q64, q65]
 refine ob_i (vInt_lss _ _ _) (cnd_d (fun hlt => ?_) (fun hge => ?_))
 have hy21 := hy5.le hle21
 refine ob_i (hy21.ix (by omega) (by omega)) (ob_i (hy21.ld [] (by omega) (by omega)) ?_)
 have hnx : at_ [] r (t : Int) = at_ [] ls ((t + 1 : Nat) : Int) := by
    rw [at_eq [] r (by omega), at_eq [] ls (by rw [hrl]; omega)]
    subst hLS
    simp
 rw [hnx]
 have hsn := joinT_snoc [x] (at_ [] ls ((t + 1 : Nat) : Int)) (ls.take (t + 1)) (by rw [← hLS]; simp)
 rw [← take_at [] ls (by rw [hrl]; omega)] at hsn
 have hl1 : ((joinT [x] (ls.take (t + 1 + 1))).length) ≤ (joinT [x] ls).length := by
    have e2 : ls.take (t + 1 + 1) = a :: r.take (t + 1) := by rw [← hLS]; simp
    have e3 := joinT_len x a (r.take (t + 1))
    have e4 := flat_take ls (t + 1 + 1)
    rw [e2] at e4
    rw [e2, e3, hjl]
    rw [List.length_take]
    have e5 : ls.flatten.length = (a :: r).flatten.length := by rw [hLS]
    omega
 rw [hsn] at hl1
 simp only [List.length_append, List.length_singleton] at hl1
 rw [Int.toNat_natCast] at hc1
 refine C.c85 hB21 (by simp only [List.length_singleton]; omega) (fun H26 hB26 hoth26 => ?_)
 refine C.c85 hB26 (by simp only [List.length_append, List.length_singleton]; omega) (fun H28 hB28 hoth28 => ?_)
 refine ob_i (vInt_add (by omega) (by omega)) ?_
 exact nxt (r.length - (t + 1)) (by omega) ⟨t + 1, rfl, by omega, q1, q8, q63, q64, rfl, by rw [hsn]; exact hB28, keep (keep hle21 hoth26) hoth28⟩
 obtain rfl : t = r.length := by omega
 refine hJ16 _ _ ⟨q8, ?_, hle21⟩
 rw [← hrl, List.take_length] at hB21
 exact hB21
 simp only [g0]
 refine ob_i hv.len ?_
 refine ⟨fun n σ' H' => ∃ t : Nat, n = ls.length - t ∧ t ≤ ls.length ∧ σ' 0 = v ∧ σ' 1 = vS [x] ∧ σ' 39 = v ∧ σ' 40 = .int .i64 (ls.length : Int) ∧ σ' 41 = .int .i64 (t : Int) ∧ σ' 5 = .int .i64 ((r.length : Int) + ((ls.take t).flatten.length : Int)) ∧ H' = H6,
    ⟨_, 0, rfl, by omega, g0, g1, rfl, rfl, rfl, g5.trans (congrArg (Value.int .i64) (by simp)), rfl⟩, ?_⟩
 rintro n σ' H31 ⟨t, rfl, ht, q0, q1, q39, q40, q41, q5, rfl⟩
 simp only [q39, q40, q41, q5]
 refine ob_i (vInt_lss _ _ _) (cnd_d (fun hlt => ?_) (fun hge => ?_))
 refine ob_i (hv.ix (by omega) (by omega)) (ob_i (hv.ld [] (by omega) (by omega)) (ob_i (vLenS_t _) ?_))
 have hf := flat_at ls (t := t) (by omega)
 refine ob_i (vInt_sub (by omega) (by omega)) (ob_i (vInt_gtr _ _ _) ?_)
 rw [decide_eq_false (by omega)]
 refine cnd_f1 (ob_i (vLenS_t _) (ob_i (vInt_add (by omega) (by omega)) (ob_i (vInt_add (by omega) (by omega)) ?_)))
 exact nxt (ls.length - (t + 1)) (by omega) ⟨t + 1, rfl, by omega, q0, q1, q39, q40, congrArg (Value.int .i64) (by omega), congrArg (Value.int .i64) (by rw [take_at [] ls (by omega), flat_snoc]; omega), rfl⟩
 obtain rfl : t = ls.length := by omega
 exact hJ7 _ _ ⟨q0, q1, q5.trans (congrArg (Value.int .i64) (by rw [List.take_length, hjl]; omega)), rfl⟩
 refine ob_i (vLenS_t [x]) (ob_i (vInt_gtr _ _ _) ?_)
 rw [decide_eq_true (show (0 : Int) < (([x] : List UInt8).length : Int) by simp)]
 refine cnd_t1 (ob_i (vLenS_t [x]) (ob_i hv.len (ob_i (vInt_sub (by omega) (by omega)) (ob_i (vInt_quoN (by omega) (by omega) (by omega)) (ob_i (vInt_geq _ _ _) ?_)))))
 have hq : (2 : Int) ≤ 9223372036854775807 / ((ls.length : Int) - 1) := (Int.le_ediv_iff_mul_le (by omega)).mpr (by omega)
 rw [decide_eq_false (by simp only [List.length_singleton]; omega)]
 refine cnd_f1 (ob_i (vLenS_t [x]) (ob_i hv.len (ob_i (vInt_sub (by omega) (by omega)) (ob_i (vInt_mul (by simp only [List.length_singleton]; omega) (by simp only [List.length_singleton]; omega)) (ob_i (vInt_add (by simp only [List.length_singleton]; omega) (by simp only [List.length_singleton]; omega)) ?_)))))
 exact hJ6 _ _ ⟨rfl, rfl, congrArg (Value.int .i64) (by simp only [List.length_singleton]; omega), rfl⟩

end Go.Proofs.YtnijdhlmimemcaaGreatDoor
/- Fields as texts. -/
namespace Go.Proofs.YtnijdhlmimemcaaGreatDoor
open HL
variable {n r c : Int} {vc : Value} {l : List Int}
set_option maxRecDepth 100000
attribute [local irreducible] vStr
theorem C.c88  {H : Hp} {K : Value → Hp → Prop} (n0 : 0 ≤ n) (n1 : n < 100)
    (hk : K (vS (decT n.toNat)) H) : HT prg 162 [(.int .i64 (n))].toArray H K := by
 have lE := Le.refl H
 refine R.q162 ?_
 unfold F.q162
 refine ob_i (vInt_lss _ _ _) (cnd_d (fun hg1 => ?_) (fun hg1 => ?_))
 refine ob_i (vInt_add (by omega) (by omega)) (ob_i (vSlS_t (a := ([48, 49, 50, 51, 52, 53, 54, 55, 56, 57, 97, 98, 99, 100, 101, 102, 103, 104, 105, 106, 107, 108, 109, 110, 111, 112, 113, 114, 115, 116, 117, 118, 119, 120, 121, 122] : List UInt8)) (by omega) (by omega) (by first | omega | (simp only [List.length_cons, List.length_nil]; omega))) ?_)
 exact keq (K := K) (by rw [show (decT n.toNat) = (((([48, 49, 50, 51, 52, 53, 54, 55, 56, 57, 97, 98, 99, 100, 101, 102, 103, 104, 105, 106, 107, 108, 109, 110, 111, 112, 113, 114, 115, 116, 117, 118, 119, 120, 121, 122] : List UInt8)).drop (n : Int).toNat).take ((n + 1 : Int).toNat - (n : Int).toNat)) from by exact (small_one (by omega) (by omega)).symm]; try rfl) (hk )
 refine ob_i (vInt_mul (by omega) (by omega)) (ob_i (vInt_mul (by omega) (by omega)) (ob_i (vInt_add (by omega) (by omega)) (ob_i (vSlS_t (a := ([48, 48, 48, 49, 48, 50, 48, 51, 48, 52, 48, 53, 48, 54, 48, 55, 48, 56, 48, 57, 49, 48, 49, 49, 49, 50, 49, 51, 49, 52, 49, 53, 49, 54, 49, 55, 49, 56, 49, 57, 50, 48, 50, 49, 50, 50, 50, 51, 50, 52, 50, 53, 50, 54, 50, 55, 50, 56, 50, 57, 51, 48, 51, 49, 51, 50, 51, 51, 51, 52, 51, 53, 51, 54, 51, 55, 51, 56, 51, 57, 52, 48, 52, 49, 52, 50, 52, 51, 52, 52, 52, 53, 52, 54, 52, 55, 52, 56, 52, 57, 53, 48, 53, 49, 53, 50, 53, 51, 53, 52, 53, 53, 53, 54, 53, 55, 53, 56, 53, 57, 54, 48, 54, 49, 54, 50, 54, 51, 54, 52, 54, 53, 54, 54, 54, 55, 54, 56, 54, 57, 55, 48, 55, 49, 55, 50, 55, 51, 55, 52, 55, 53, 55, 54, 55, 55, 55, 56, 55, 57, 56, 48, 56, 49, 56, 50, 56, 51, 56, 52, 56, 53, 56, 54, 56, 55, 56, 56, 56, 57, 57, 48, 57, 49, 57, 50, 57, 51, 57, 52, 57, 53, 57, 54, 57, 55, 57, 56, 57, 57] : List UInt8)) (by omega) (by omega) (by first | omega | (simp only [List.length_cons, List.length_nil]; omega))) ?_)))
 exact keq (K := K) (by rw [show (decT n.toNat) = (((([48, 48, 48, 49, 48, 50, 48, 51, 48, 52, 48, 53, 48, 54, 48, 55, 48, 56, 48, 57, 49, 48, 49, 49, 49, 50, 49, 51, 49, 52, 49, 53, 49, 54, 49, 55, 49, 56, 49, 57, 50, 48, 50, 49, 50, 50, 50, 51, 50, 52, 50, 53, 50, 54, 50, 55, 50, 56, 50, 57, 51, 48, 51, 49, 51, 50, 51, 51, 51, 52, 51, 53, 51, 54, 51, 55, 51, 56, 51, 57, 52, 48, 52, 49, 52, 50, 52, 51, 52, 52, 52, 53, 52, 54, 52, 55, 52, 56, 52, 57, 53, 48, 53, 49, 53, 50, 53, 51, 53, 52, 53, 53, 53, 54, 53, 55, 53, 56, 53, 57, 54, 48, 54, 49, 54, 50, 54, 51, 54, 52, 54, 53, 54, 54, 54, 55, 54, 56, 54, 57, 55, 48, 55, 49, 55, 50, 55, 51, 55, 52, 55, 53, 55, 54, 55, 55, 55, 56, 55, 57, 56, 48, 56, 49, 56, 50, 56, 51, 56, 52, 56, 53, 56, 54, 56, 55, 56, 56, 56, 57, 57, 48, 57, 49, 57, 50, 57, 51, 57, 52, 57, 53, 57, 54, 57, 55, 57, 56, 57, 57] : List UInt8)).drop (n * 2 : Int).toNat).take (((n * 2) + 2 : Int).toNat - (n * 2 : Int).toNat)) from by exact (small_two (by omega) (by omega)).symm]; try rfl) (hk )

theorem C.c89  {H : Hp} {K : Value → Hp → Prop} (n0 : 0 ≤ n) (n1 : n < 100)
    (hk : K (vS (decT n.toNat)) H) : HT prg 158 [(.int .i64 (n)), (.int .i64 (10))].toArray H K := by
 have lE := Le.refl H
 refine R.q158 ?_
 unfold F.q158
 refine ob_i (a := .bool true) (by kernel_rfl) ?_
 refine cnd_t1 (ob_i (vInt_leq _ _ _) ?_)
 by_cases hc1 : 0 ≤ n
 refine gT hc1 (gT hc1 (ob_i (vInt_lss _ _ _) (ob_i (vPick_et (decide_eq_true hc1) _ _) (cnd_d (fun hg2 => ?_) (fun hg2 => ?_)))))
 refine C.c88 (by first | omega | assumption) (by first | omega | assumption) ?_
 exact hk 
 exact absurd hg2 ((fun h => h n1))
 exact absurd hc1 ((fun h => h n0))

theorem C.c90  {H : Hp} {K : Value → Hp → Prop} (n0 : 0 ≤ n) (n1 : n < 100)
    (hk : K (vS (decT n.toNat)) H) : HT prg 148 [(.int .i64 (n)), (.int .i64 (10))].toArray H K := by
 have lE := Le.refl H
 refine R.q148 ?_
 unfold F.q148
 refine C.c89 (by first | omega | assumption) (by first | omega | assumption) ?_
 exact hk 

theorem C.c91  {H : Hp} {K : Value → Hp → Prop} (n0 : 0 ≤ n) (n1 : n < 100)
    (hk : K (vS (decT n.toNat)) H) : HT prg 125 [(.int .i64 (n))].toArray H K := by
 have lE := Le.refl H
 refine R.q125 ?_
 unfold F.q125
 refine C.c90 (by first | omega | assumption) (by first | omega | assumption) ?_
 exact hk 

theorem C.c92  {H : Hp} {K : Value → Hp → Prop} (n0 : 0 ≤ n) (n1 : n < 10)
    (hk : ∀ H', Le H H' → K (vS (decT n.toNat)) H') : HT prg 142 [(.int .i64 (n))].toArray H K := by
 have lE := Le.refl H
 refine R.q142 ?_
 unfold F.q142
 refine ob_i (vInt_lss _ _ _) (cnd_d (fun hg1 => ?_) (fun hg1 => ?_))
 refine ob_i (vInt_add (by omega) (by omega)) (ob_i (vCI_u8 (by omega) (by omega)) (bS_i (enc := eU) (l := [48 + n]) (by omega) rfl (by kernel_rfl) (fun u2 H3 ou2 nn4 le6 => ?_)))
 refine ob_i (val_convT (by kernel_rfl) ou2.sl) ?_
 replace lE := lE.trans le6
 exact keq (K := K) (by rw [show (decT n.toNat) = (btT ([48 + n])) from by exact (num_one (by omega) (by omega)).symm]; try rfl) (hk   _    lE)
 exact absurd hg1 ((fun h => h n1))

theorem C.c93  {H : Hp} {K : Value → Hp → Prop} (n0 : 0 ≤ n) (n1 : n < 100)
    (hk : ∀ H', Le H H' → K (vS (decT n.toNat)) H') : HT prg 142 [(.int .i64 (n))].toArray H K := by
 have lE := Le.refl H
 refine R.q142 ?_
 unfold F.q142
 have d1 := decT_len (n / 10).toNat
 have d2 : (btT ([48 + (n % 10)])).length = 1 := rfl
 refine ob_i (vInt_lss _ _ _) (cnd_d (fun hg1 => ?_) (fun hg1 => ?_))
 refine ob_i (vInt_add (by omega) (by omega)) (ob_i (vCI_u8 (by omega) (by omega)) (bS_i (enc := eU) (l := [48 + n]) (by omega) rfl (by kernel_rfl) (fun u2 H3 ou2 nn4 le6 => ?_)))
 refine ob_i (val_convT (by kernel_rfl) ou2.sl) ?_
 replace lE := lE.trans le6
 exact keq (K := K) (by rw [show (decT n.toNat) = (btT ([48 + n])) from by exact (num_one (by omega) (by omega)).symm]; try rfl) (hk   _    lE)
 refine ⟨?_, ?_⟩
 refine ob_i (vInt_quoN (by omega) (by omega) (by omega)) (ob_i (vInt_remN (by omega) (by omega)) (ob_i (vInt_add (by omega) (by omega)) (ob_i (vCI_u8 (by omega) (by omega)) (C.c92 (by first | omega | assumption) (by first | omega | assumption) (fun   H7    le8 => ?_)))))
 refine ⟨le8, ?_⟩
 refine bS_i (enc := eU) (l := [48 + (n % 10)]) (by omega) rfl (by kernel_rfl) (fun u9 H10 ou9 nn11 le13 => ?_)
 refine ob_i (val_convT (by kernel_rfl) ou9.sl) (ob_i (vStr_add (a := decT (n / 10).toNat) (b := btT ([48 + (n % 10)])) (by first | omega | (simp only [List.length_append, List.length_cons, List.length_nil, List.length_take, List.length_drop]; omega))) ?_)
 replace lE := (lE.trans le8).trans le13
 exact keq (K := K) (by rw [show (decT n.toNat) = ((decT (n / 10).toNat) ++ (btT ([48 + (n % 10)]))) from by exact (num_two (by omega) (by omega)).symm]; try rfl) (hk   _    lE)
 refine ob_i (vInt_quoN (by omega) (by omega) (by omega)) (ob_i (vInt_remN (by omega) (by omega)) (ob_i (vInt_add (by omega) (by omega)) (ob_i (vCI_u8 (by omega) (by omega)) (bS_i (enc := eU) (l := [48 + (n % 10)]) (by omega) rfl (by kernel_rfl) (fun u14 H15 ou14 nn16 le18 => ?_)))))
 refine ob_i (val_convT (by kernel_rfl) ou14.sl) (C.c92 (by first | omega | assumption) (by first | omega | assumption) (fun   H19    le20 => ?_))
 refine ⟨le20, ?_⟩
 refine ob_i (vStr_add (a := decT (n / 10).toNat) (b := btT ([48 + (n % 10)])) (by first | omega | (simp only [List.length_append, List.length_cons, List.length_nil, List.length_take, List.length_drop]; omega))) ?_
 replace lE := (lE.trans le18).trans le20
 exact keq (K := K) (by rw [show (decT n.toNat) = ((decT (n / 10).toNat) ++ (btT ([48 + (n % 10)]))) from by exact (num_two (by omega) (by omega)).symm]; try rfl) (hk   _    lE)

theorem C.c94 {v : Value} {row : List Int}  {H : Hp} {K : Value → Hp → Prop} (hv0 : Sl eI H v row) (h1 : row.length ≤ 24) (hx : ∀ x ∈ row, 0 ≤ x ∧ x ≤ 1)
    (hk : ∀ H', Le H H' → K (vS (rtx row)) H') : HT prg 124 [v].toArray H K := by
 have lE := Le.refl H
 refine R.q124 ?_
 unfold F.q124
 have rl := rtx_len row.length row (Nat.le_refl _)
 refine jn_i (fun σ' H' => σ' 3 = (vS (rtx row)) ∧ Le H H') (fun σ1 H1 hP => ?_) (fun J1 hJ1 => ?_)
 obtain ⟨g3L1, lE⟩ := hP
 try simp only [g3L1]
 exact hk   _    lE
 refine ⟨fun n' σ' H' => ∃ i : Nat, n' = row.length - i ∧ i ≤ row.length ∧ ∃ out : List UInt8, ∃ a : Nat, σ' 0 = v ∧ σ' 3 = (vS (out)) ∧ σ' 4 = (.int .i64 ((a : Int))) ∧ Le H H' ∧ i ≤ a ∧ a ≤ row.length ∧ out ++ rtx (row.drop a) = rtx row,
    ⟨_, 0, rfl, by omega, [], 0, rfl, rfl, (congrArg (Value.int .i64) (by first | omega | rfl | (simp; done))), lE, (by omega), (by omega), rfl⟩, ?_⟩
 rintro n2 σ2 H2 ⟨i, rfl, hiN, out, a, g0L2, g3L2, g4L2, lE, hm0, hm1, hm2⟩
 try simp only [g0L2, g4L2]
 have ol := congrArg List.length hm2
 rw [List.length_append] at ol
 refine ob_i ((hv0.le lE).len) (ob_i (vInt_lss _ _ _) (cnd_d (fun hg3 => ?_) (fun hg3 => ?_)))
 have ti := hg3
 refine jn_i (fun σ' H' => ∃ k : Nat, σ' 0 = v ∧ σ' 3 = (vS (out)) ∧ σ' 4 = (.int .i64 ((a : Int))) ∧ σ' 5 = (.int .i64 ((a : Int) + (k : Int))) ∧ Le H H' ∧ k = rN (at_ 0 row (a : Int)) (row.drop a) ∧ a + k ≤ row.length ∧ 1 ≤ k) (fun σ4 H4 hP => ?_) (fun J4 hJ4 => ?_)
 obtain ⟨k, g0L4, g3L4, g4L4, g5L4, lE, hk, hk2, hk3⟩ := hP
 try simp only [g0L4, g3L4, g4L4, g5L4]
 have dl := decT_len (((a : Int) + (k : Int)) - (a : Int)).toNat
 have xa := hx _ (at_mem 0 row (i := (a : Int)) (by omega) (by omega))
 refine ob_i ((hv0.le lE).ix (by omega) (by omega)) (ob_i ((hv0.le lE).ld 0 (by omega) (by omega)) (ob_i (vInt_eql _ _ _) ?_))
 by_cases hc5 : (at_ 0 (row) ((a : Int))) = 0
 refine gT hc5 (gT hc5 (gT hc5 (ob_i ((hv0.le lE).len) (gT hc5 (ob_i (vInt_eql _ _ _) (ob_i (vPick_et (decide_eq_true hc5) _ _) (cnd_d (fun hg6 => ?_) (fun hg6 => ?_))))))))
 have hfin : out = rtx row := by rw [← hm2, rtx_stop (a := a) (k := k) (by omega) hk ⟨hc5, by omega⟩, List.append_nil]
 exact hJ1 _ _ ⟨(g3L4.trans (congrArg vS hfin)), lE⟩
 refine ob_i (vInt_sub (by omega) (by omega)) (ob_i (vInt_gtr _ _ _) (cnd_d (fun hg7 => ?_) (fun hg7 => ?_)))
 refine ob_i (vInt_sub (by omega) (by omega)) (C.c91 (by first | omega | assumption) (by first | omega | assumption) ?_)
 refine ob_i (vStr_add (a := out) (b := decT (((a : Int) + (k : Int)) - (a : Int)).toNat) (by first | omega | (simp only [List.length_append, List.length_cons, List.length_nil, List.length_take, List.length_drop]; omega))) ?_
 refine ob_i ((hv0.le lE).ix (by omega) (by omega)) (ob_i ((hv0.le lE).ld 0 (by omega) (by omega)) (ob_i ((hv0.le lE).ix (by omega) (by omega)) (ob_i ((hv0.le lE).ld 0 (by omega) (by omega)) (ob_i (vInt_add (by omega) (by omega)) (ob_i (vSlS_t (a := ([98, 111] : List UInt8)) (by omega) (by omega) (by first | omega | (simp only [List.length_cons, List.length_nil]; omega))) ?_)))))
 refine ob_i (vStr_add (a := out ++ (decT (((a : Int) + (k : Int)) - (a : Int)).toNat)) (b := ((([98, 111] : List UInt8)).drop (at_ 0 (row) ((a : Int)) : Int).toNat).take (((at_ 0 (row) ((a : Int))) + 1 : Int).toNat - (at_ 0 (row) ((a : Int)) : Int).toNat)) (by first | omega | (simp only [List.length_append, List.length_cons, List.length_nil, List.length_take, List.length_drop]; omega))) ?_
 exact nxt (row.length - (i + 1)) (by omega) ⟨i + 1, rfl, by omega, ((out ++ (decT (((a : Int) + (k : Int)) - (a : Int)).toNat)) ++ (((([98, 111] : List UInt8)).drop (at_ 0 (row) ((a : Int)) : Int).toNat).take (((at_ 0 (row) ((a : Int))) + 1 : Int).toNat - (at_ 0 (row) ((a : Int)) : Int).toNat))), (a + k), g0L4, rfl, (congrArg (Value.int .i64) (by omega)), lE, (by omega), (by omega), (by have hr := rtx_run (a := a) (k := k) (by omega) hk (fun h => by exact hg6 (by omega)); rw [← hm2, hr, if_neg (show ¬ k = 1 by omega)]; rw [bo_T (hx _ (at_mem 0 row (by omega) (by omega))).1 (hx _ (at_mem 0 row (by omega) (by omega))).2]; rw [show ((a : Int) + (k : Int) - (a : Int)).toNat = k by omega]; simp only [List.append_assoc])⟩
 refine ob_i ((hv0.le lE).ix (by omega) (by omega)) (ob_i ((hv0.le lE).ld 0 (by omega) (by omega)) (ob_i ((hv0.le lE).ix (by omega) (by omega)) (ob_i ((hv0.le lE).ld 0 (by omega) (by omega)) (ob_i (vInt_add (by omega) (by omega)) (ob_i (vSlS_t (a := ([98, 111] : List UInt8)) (by omega) (by omega) (by first | omega | (simp only [List.length_cons, List.length_nil]; omega))) ?_)))))
 refine ob_i (vStr_add (a := out) (b := ((([98, 111] : List UInt8)).drop (at_ 0 (row) ((a : Int)) : Int).toNat).take (((at_ 0 (row) ((a : Int))) + 1 : Int).toNat - (at_ 0 (row) ((a : Int)) : Int).toNat)) (by first | omega | (simp only [List.length_cons, List.length_nil, List.length_take, List.length_drop]; omega))) ?_
 exact nxt (row.length - (i + 1)) (by omega) ⟨i + 1, rfl, by omega, (out ++ (((([98, 111] : List UInt8)).drop (at_ 0 (row) ((a : Int)) : Int).toNat).take (((at_ 0 (row) ((a : Int))) + 1 : Int).toNat - (at_ 0 (row) ((a : Int)) : Int).toNat))), (a + k), g0L4, rfl, (congrArg (Value.int .i64) (by omega)), lE, (by omega), (by omega), (by have hr := rtx_run (a := a) (k := k) (by omega) hk (fun h => by exact hg6 (by omega)); rw [← hm2, hr, if_pos (show k = 1 by omega)]; rw [bo_T (hx _ (at_mem 0 row (by omega) (by omega))).1 (hx _ (at_mem 0 row (by omega) (by omega))).2]; simp only [List.append_assoc, List.nil_append])⟩
 refine hF hc5 (hF hc5 (hF hc5 (hF hc5 (ob_i (vPick_ef (decide_eq_false hc5) _ _) (cnd_f1 (ob_i (vInt_sub (by omega) (by omega)) (ob_i (vInt_gtr _ _ _) (cnd_d (fun hg8 => ?_) (fun hg8 => ?_)))))))))
 refine ob_i (vInt_sub (by omega) (by omega)) (C.c91 (by first | omega | assumption) (by first | omega | assumption) ?_)
 refine ob_i (vStr_add (a := out) (b := decT (((a : Int) + (k : Int)) - (a : Int)).toNat) (by first | omega | (simp only [List.length_append, List.length_cons, List.length_nil, List.length_take, List.length_drop]; omega))) ?_
 refine ob_i ((hv0.le lE).ix (by omega) (by omega)) (ob_i ((hv0.le lE).ld 0 (by omega) (by omega)) (ob_i ((hv0.le lE).ix (by omega) (by omega)) (ob_i ((hv0.le lE).ld 0 (by omega) (by omega)) (ob_i (vInt_add (by omega) (by omega)) (ob_i (vSlS_t (a := ([98, 111] : List UInt8)) (by omega) (by omega) (by first | omega | (simp only [List.length_cons, List.length_nil]; omega))) ?_)))))
 refine ob_i (vStr_add (a := out ++ (decT (((a : Int) + (k : Int)) - (a : Int)).toNat)) (b := ((([98, 111] : List UInt8)).drop (at_ 0 (row) ((a : Int)) : Int).toNat).take (((at_ 0 (row) ((a : Int))) + 1 : Int).toNat - (at_ 0 (row) ((a : Int)) : Int).toNat)) (by first | omega | (simp only [List.length_append, List.length_cons, List.length_nil, List.length_take, List.length_drop]; omega))) ?_
 exact nxt (row.length - (i + 1)) (by omega) ⟨i + 1, rfl, by omega, ((out ++ (decT (((a : Int) + (k : Int)) - (a : Int)).toNat)) ++ (((([98, 111] : List UInt8)).drop (at_ 0 (row) ((a : Int)) : Int).toNat).take (((at_ 0 (row) ((a : Int))) + 1 : Int).toNat - (at_ 0 (row) ((a : Int)) : Int).toNat))), (a + k), g0L4, rfl, (congrArg (Value.int .i64) (by omega)), lE, (by omega), (by omega), (by have hr := rtx_run (a := a) (k := k) (by omega) hk (fun h => by exact hc5 h.1); rw [← hm2, hr, if_neg (show ¬ k = 1 by omega)]; rw [bo_T (hx _ (at_mem 0 row (by omega) (by omega))).1 (hx _ (at_mem 0 row (by omega) (by omega))).2]; rw [show ((a : Int) + (k : Int) - (a : Int)).toNat = k by omega]; simp only [List.append_assoc])⟩
 refine ob_i ((hv0.le lE).ix (by omega) (by omega)) (ob_i ((hv0.le lE).ld 0 (by omega) (by omega)) (ob_i ((hv0.le lE).ix (by omega) (by omega)) (ob_i ((hv0.le lE).ld 0 (by omega) (by omega)) (ob_i (vInt_add (by omega) (by omega)) (ob_i (vSlS_t (a := ([98, 111] : List UInt8)) (by omega) (by omega) (by first | omega | (simp only [List.length_cons, List.length_nil]; omega))) ?_)))))
 refine ob_i (vStr_add (a := out) (b := ((([98, 111] : List UInt8)).drop (at_ 0 (row) ((a : Int)) : Int).toNat).take (((at_ 0 (row) ((a : Int))) + 1 : Int).toNat - (at_ 0 (row) ((a : Int)) : Int).toNat)) (by first | omega | (simp only [List.length_cons, List.length_nil, List.length_take, List.length_drop]; omega))) ?_
 exact nxt (row.length - (i + 1)) (by omega) ⟨i + 1, rfl, by omega, (out ++ (((([98, 111] : List UInt8)).drop (at_ 0 (row) ((a : Int)) : Int).toNat).take (((at_ 0 (row) ((a : Int))) + 1 : Int).toNat - (at_ 0 (row) ((a : Int)) : Int).toNat))), (a + k), g0L4, rfl, (congrArg (Value.int .i64) (by omega)), lE, (by omega), (by omega), (by have hr := rtx_run (a := a) (k := k) (by omega) hk (fun h => by exact hc5 h.1); rw [← hm2, hr, if_pos (show k = 1 by omega)]; rw [bo_T (hx _ (at_mem 0 row (by omega) (by omega))).1 (hx _ (at_mem 0 row (by omega) (by omega))).2]; simp only [List.append_assoc, List.nil_append])⟩
 refine ⟨fun n' σ' H' => ∃ j : Nat, n' = row.length - j ∧ j ≤ row.length ∧ σ' 0 = v ∧ σ' 3 = (vS (out)) ∧ σ' 4 = (.int .i64 ((a : Int))) ∧ σ' 5 = (.int .i64 ((a : Int) + (j : Int))) ∧ Le H H' ∧ j ≤ rN (at_ 0 row (a : Int)) (row.drop a) ∧ a + j ≤ row.length,
    ⟨_, 0, rfl, by omega, g0L2, g3L2, g4L2, (congrArg (Value.int .i64) (by first | omega | rfl | (simp; done))), lE, (by omega), (by omega)⟩, ?_⟩
 rintro n9 σ9 H9 ⟨j, rfl, hjN, g0L9, g3L9, g4L9, g5L9, lE, hm0', hm1'⟩
 try simp only [g0L9, g4L9, g5L9]
 refine ob_i ((hv0.le lE).len) (ob_i (vInt_lss _ _ _) ?_)
 by_cases hc10 : ((a : Int) + (j : Int)) < (((row).length : Int))
 refine gT hc10 (gT hc10 (gT hc10 (ob_i ((hv0.le lE).ix (by omega) (by omega)) (gT hc10 (ob_i ((hv0.le lE).ld 0 (by omega) (by omega)) (gT hc10 (gT hc10 (gT hc10 (ob_i ((hv0.le lE).ix (by omega) (by omega)) ?_)))))))))
 refine gT hc10 (ob_i ((hv0.le lE).ld 0 (by omega) (by omega)) (gT hc10 (ob_i (vInt_eql _ _ _) (ob_i (vPick_et (decide_eq_true hc10) _ _) (cnd_d (fun hg11 => ?_) (fun hg11 => ?_))))))
 refine ob_i (vInt_add (by omega) (by omega)) ?_
 exact nxt (row.length - (j + 1)) (by omega) ⟨j + 1, rfl, by omega, g0L9, g3L9, g4L9, (congrArg (Value.int .i64) (by first | omega | rfl | (simp; done))), lE, (by have := run_next (a := a) (e := a + j) (by omega) (by rw [show a + j - a = j by omega]; exact hm0') (by omega) (by rw [show ((a + j : Nat) : Int) = (a : Int) + (j : Int) by omega]; exact hg11); omega), (by omega)⟩
 exact hJ4 _ _ ⟨j, g0L9, g3L9, g4L9, (g5L9.trans (congrArg (Value.int .i64) (by first | omega | rfl | (simp; done)))), lE, (by have := run_end (a := a) (e := a + j) (by omega) (by rw [show a + j - a = j by omega]; exact hm0') (by omega) (Or.inr (by rw [show ((a + j : Nat) : Int) = (a : Int) + (j : Int) by omega]; exact hg11)); omega), (by omega), (by have h9 := run_end (a := a) (e := a + j) (by omega) (by rw [show a + j - a = j by omega]; exact hm0') (by omega) (Or.inr (by rw [show ((a + j : Nat) : Int) = (a : Int) + (j : Int) by omega]; exact hg11)); have := (run_pos (row := row) (a := a) (by omega)).1; omega)⟩
 refine hF hc10 (hF hc10 (hF hc10 (hF hc10 (hF hc10 (hF hc10 (hF hc10 (hF hc10 (hF hc10 (ob_i (vPick_ef (decide_eq_false hc10) _ _) ?_)))))))))
 refine cnd_f1 ?_
 exact hJ4 _ _ ⟨j, g0L9, g3L9, g4L9, (g5L9.trans (congrArg (Value.int .i64) (by first | omega | rfl | (simp; done)))), lE, (by have := run_end (a := a) (e := a + j) (by omega) (by rw [show a + j - a = j by omega]; exact hm0') (by omega) (Or.inl (by omega)); omega), (by omega), (by have h9 := run_end (a := a) (e := a + j) (by omega) (by rw [show a + j - a = j by omega]; exact hm0') (by omega) (Or.inl (by omega)); have := (run_pos (row := row) (a := a) (by omega)).1; omega)⟩
 have ti := hg3
 have hfin : out = rtx row := by rw [← hm2, show row.drop a = [] from List.drop_eq_nil_of_le (by omega), rtx_nil, List.append_nil]
 exact hJ1 _ _ ⟨(g3L2.trans (congrArg vS hfin)), lE⟩

theorem C.c95 {p : Value}  {H : Hp} {K : Value → Hp → Prop} (hp0 : CelR H p [(.int .i64 (r)), (.int .i64 (c)), vc]) (hvc0 : Sl eI H vc l) (hf : fieldN 1 r c l)
    (hk : ∀ H', Le H H' → K (vS (fieldT r c l)) H') : HT prg 112 [p].toArray H K := by
 have lE := Le.refl H
 refine R.q112 ?_
 unfold F.q112
 have hs := hf.1
 have hl := hf.2.1
 have q1 := hs.1
 have q2 := hs.2
 have qm := sidesF_mul hs
 have l1 := fieldN_len hf
 have dc := decT_len c.toNat
 have dr := decT_len r.toNat
 refine ob_i ((hp0.le lE).nilC) (ob_i ((hp0.le lE).fa 1) (ob_i ((hp0.le lE).ld 1 rfl) (ob_i ((hp0.le lE).nilC) (ob_i ((hp0.le lE).fa 0) (ob_i ((hp0.le lE).ld 0 rfl) (C.c93 (by first | omega | assumption) (by first | omega | assumption) (fun   H1    le2 => ?_)))))))
 refine ⟨le2, ?_⟩
 refine ob_i (vStr_add (a := decT c.toNat) (b := ([44] : List UInt8)) (by first | omega | (simp only [List.length_cons, List.length_nil]; omega))) ?_
 refine C.c93 (by first | omega | assumption) (by first | omega | assumption) (fun   H3    le4 => ?_)
 refine ⟨le4, ?_⟩
 refine ob_i (vStr_add (a := (decT c.toNat) ++ ([44] : List UInt8)) (b := decT r.toNat) (by first | omega | (simp only [List.length_append, List.length_cons, List.length_nil]; omega))) ?_
 refine ob_i (vStr_add (a := ((decT c.toNat) ++ ([44] : List UInt8)) ++ (decT r.toNat)) (b := ([58] : List UInt8)) (by first | omega | (simp only [List.length_append, List.length_cons, List.length_nil]; omega))) ?_
 refine jn_i (fun σ' H' => σ' 3 = (vS (headT r c ++ joinR c.toNat l r.toNat)) ∧ Le H H') (fun σ5 H5 hP => ?_) (fun J5 hJ5 => ?_)
 replace lE := (lE.trans le2).trans le4
 obtain ⟨g3L5, lE⟩ := hP
 try simp only [g3L5]
 have jl0 := joinR_len (c := c.toNat) (l := l) r.toNat
 have jm0 : r.toNat * (3 * c.toNat + 1) ≤ 24 * 73 := Nat.mul_le_mul (by omega) (by omega)
 have hl0 := headT_len r c
 refine ob_i (vStr_add (a := headT r c ++ joinR c.toNat l r.toNat) (b := ([33] : List UInt8)) (by first | omega | (simp only [List.length_append, List.length_cons, List.length_nil]; omega))) ?_
 exact keq (K := K) (by rw [show (fieldT r c l) = ((headT r c ++ joinR c.toNat l r.toNat) ++ ([33] : List UInt8)) from by rfl]; try rfl) (hk   _    lE)
 replace lE := (lE.trans le2).trans le4
 refine ⟨fun n' σ' H' => ∃ i : Nat, n' = r.toNat - i ∧ i ≤ r.toNat ∧ σ' 0 = p ∧ σ' 3 = (vS (headT r c ++ joinR c.toNat l i)) ∧ σ' 4 = (.int .i64 ((i : Int))) ∧ Le H H',
    ⟨_, 0, rfl, by omega, rfl, (congrArg vS (by rw [joinR_zero, List.append_nil]; rfl)), (congrArg (Value.int .i64) (by first | omega | rfl | (simp; done))), lE⟩, ?_⟩
 rintro n6 σ6 H6 ⟨i, rfl, hiN, g0L6, g3L6, g4L6, lE⟩
 try simp only [g0L6, g3L6, g4L6]
 have jl0 := joinR_len (c := c.toNat) (l := l) i
 have jm0 : i * (3 * c.toNat + 1) ≤ 24 * 73 := Nat.mul_le_mul (by omega) (by omega)
 have hl0 := headT_len r c
 refine ob_i ((hp0.le lE).nilC) (ob_i ((hp0.le lE).fa 0) (ob_i ((hp0.le lE).ld 0 rfl) (ob_i (vInt_lss _ _ _) (cnd_d (fun hg7 => ?_) (fun hg7 => ?_)))))
 have ti := hg7
 have rm := row_mul (i := i) hs (by omega)
 refine jn_i (fun σ' H' => σ' 0 = p ∧ σ' 3 = (vS (headT r c ++ joinR c.toNat l (i + 1))) ∧ σ' 4 = (.int .i64 ((i : Int))) ∧ Le H H') (fun σ8 H8 hP => ?_) (fun J8 hJ8 => ?_)
 obtain ⟨g0L8, g3L8, g4L8, lE⟩ := hP
 try simp only [g4L8]
 refine ob_i (vInt_add (by omega) (by omega)) ?_
 exact nxt (r.toNat - (i + 1)) (by omega) ⟨i + 1, rfl, by omega, g0L8, g3L8, (congrArg (Value.int .i64) (by first | omega | rfl | (simp; done))), lE⟩
 refine jn_i (fun σ' H' => ∃ B : List UInt8, σ' 0 = p ∧ σ' 3 = (vS (B)) ∧ σ' 4 = (.int .i64 ((i : Int))) ∧ Le H H' ∧ B ++ rtx (rowL c.toNat l i) = headT r c ++ joinR c.toNat l (i + 1)) (fun σ9 H9 hP => ?_) (fun J9 hJ9 => ?_)
 obtain ⟨B, g0L9, g3L9, g4L9, lE, hB⟩ := hP
 try simp only [g0L9, g4L9]
 refine ob_i ((hp0.le lE).nilC) (ob_i ((hp0.le lE).fa 2) (ob_i ((hp0.le lE).ld 2 rfl) (ob_i ((hp0.le lE).nilC) (ob_i ((hp0.le lE).fa 1) (ob_i ((hp0.le lE).ld 1 rfl) (ob_i (vInt_mul (by omega) (by omega)) (ob_i (vInt_add (by omega) (by omega)) (ob_i ((hp0.le lE).nilC) (ob_i ((hp0.le lE).fa 1) ?_)))))))))
 refine ob_i ((hp0.le lE).ld 1 rfl) (ob_i (vInt_mul (by omega) (by omega)) ?_)
 obtain ⟨x10, eq11a, eq11b, eq11c, eq11d, hx100, hb12⟩ := hvc0.cut (lo := (i : Int) * c) (hi := ((i : Int) + 1) * c) (by omega) (by omega) (by omega)
 refine ob_i (eq11a) ?_
 rw [row_eq (l := l) (i := i) hs (by omega)] at hx100
 obtain ⟨row, hr0⟩ : ∃ row, row = rowL c.toNat l i := ⟨_, rfl⟩
 rw [← hr0] at hx100 hB
 have hrl : row.length = c.toNat := by rw [hr0]; exact rowL_len (r := r.toNat) (by rw [← Int.natCast_inj]; rw [Int.natCast_mul, Int.toNat_of_nonneg (by omega), Int.toNat_of_nonneg (by omega)]; exact hl) (by omega)
 have rtl := rtx_len row.length row (Nat.le_refl _)
 have bl := congrArg List.length hB
 simp only [List.length_append] at bl
 have jl := joinR_len (c := c.toNat) (l := l) (i + 1)
 have jm : (i + 1) * (3 * c.toNat + 1) ≤ 24 * 73 := Nat.mul_le_mul (by omega) (by omega)
 have hl6 := headT_len r c
 refine ob_i ((hx100.le lE).len) (jn_i (fun σ' H' => ∃ e : Nat, σ' 0 = p ∧ σ' 3 = (vS (B)) ∧ σ' 4 = (.int .i64 ((i : Int))) ∧ σ' 5 = x10 ∧ σ' 6 = (.int .i64 ((e : Int))) ∧ Le H H' ∧ endP row e ∧ (0 < e → at_ 0 row ((e - 1 : Nat) : Int) ≠ 0) ∧ e ≤ c.toNat) (fun σ13 H13 hP => ?_) (fun J13 hJ13 => ?_))
 obtain ⟨e, g0L13, g3L13, g4L13, g5L13, g6L13, lE, hend, hlast, hec⟩ := hP
 try simp only [g3L13, g5L13, g6L13]
 refine ⟨fun n' σ' H' => ∃ t : Nat, n' = c.toNat - t ∧ t ≤ c.toNat ∧ ∃ out : List UInt8, ∃ a : Nat, σ' 0 = p ∧ σ' 3 = (vS (out)) ∧ σ' 4 = (.int .i64 ((i : Int))) ∧ σ' 5 = x10 ∧ σ' 6 = (.int .i64 ((e : Int))) ∧ σ' 7 = (.int .i64 ((a : Int))) ∧ Le H H' ∧ t ≤ a ∧ a ≤ e ∧ out ++ rtx (row.drop a) = B ++ rtx row,
    ⟨_, 0, rfl, by omega, B, 0, g0L13, g3L13, g4L13, g5L13, g6L13, (congrArg (Value.int .i64) (by first | omega | rfl | (simp; done))), lE, (by omega), (by omega), rfl⟩, ?_⟩
 rintro n14 σ14 H14 ⟨t, rfl, htN, out, a, g0L14, g3L14, g4L14, g5L14, g6L14, g7L14, lE, hq0, hq1, hq2⟩
 try simp only [g6L14, g7L14]
 have ol := congrArg List.length hq2
 simp only [List.length_append] at ol
 refine ob_i (vInt_lss _ _ _) (cnd_d (fun hg15 => ?_) (fun hg15 => ?_))
 have tt := hg15
 refine jn_i (fun σ' H' => ∃ k : Nat, σ' 0 = p ∧ σ' 3 = (vS (out)) ∧ σ' 4 = (.int .i64 ((i : Int))) ∧ σ' 5 = x10 ∧ σ' 6 = (.int .i64 ((e : Int))) ∧ σ' 7 = (.int .i64 ((a : Int))) ∧ σ' 8 = (.int .i64 ((k : Int))) ∧ Le H H' ∧ k = rN (at_ 0 row (a : Int)) (row.drop a) ∧ ¬ (at_ 0 row (a : Int) = 0 ∧ a + k = row.length) ∧ 1 ≤ k ∧ a + k ≤ e) (fun σ16 H16 hP => ?_) (fun J16 hJ16 => ?_)
 obtain ⟨k, g0L16, g3L16, g4L16, g5L16, g6L16, g7L16, g8L16, lE, hk, hne, hk1, hk2⟩ := hP
 try simp only [g3L16, g5L16, g7L16, g8L16]
 have dl := decT_len (k : Int).toNat
 refine ob_i (vInt_gtr _ _ _) (cnd_d (fun hg17 => ?_) (fun hg17 => ?_))
 refine C.c93 (by first | omega | assumption) (by first | omega | assumption) (fun   H18    le19 => ?_)
 refine ob_i (vStr_add (a := out) (b := decT (k : Int).toNat) (by first | omega | (simp only [List.length_append, List.length_cons, List.length_nil, List.length_take, List.length_drop]; omega))) ?_
 replace lE := lE.trans le19
 refine ob_i ((hx100.le lE).ix (by omega) (by omega)) (ob_i ((hx100.le lE).ld 0 (by omega) (by omega)) (ob_i (vInt_eql _ _ _) (cnd_d (fun hg20 => ?_) (fun hg20 => ?_))))
 refine ob_i (vStr_add (a := out ++ (decT (k : Int).toNat)) (b := ([111] : List UInt8)) (by first | omega | (simp only [List.length_append, List.length_cons, List.length_nil]; omega))) ?_
 refine ob_i (vInt_add (by omega) (by omega)) ?_
 exact nxt (c.toNat - (t + 1)) (by omega) ⟨t + 1, rfl, by omega, ((out ++ (decT (k : Int).toNat)) ++ ([111] : List UInt8)), (a + k), g0L16, rfl, g4L16, g5L16, g6L16, (congrArg (Value.int .i64) (by omega)), lE, (by omega), (by omega), (by rw [← hq2, rtx_run (a := a) (k := k) (by omega) hk hne, if_neg (show ¬ k = 1 by omega), chT_1 hg20]; simp only [List.append_assoc, Int.toNat_natCast])⟩
 refine ob_i (vStr_add (a := out ++ (decT (k : Int).toNat)) (b := ([98] : List UInt8)) (by first | omega | (simp only [List.length_append, List.length_cons, List.length_nil]; omega))) ?_
 refine ob_i (vInt_add (by omega) (by omega)) ?_
 exact nxt (c.toNat - (t + 1)) (by omega) ⟨t + 1, rfl, by omega, ((out ++ (decT (k : Int).toNat)) ++ ([98] : List UInt8)), (a + k), g0L16, rfl, g4L16, g5L16, g6L16, (congrArg (Value.int .i64) (by omega)), lE, (by omega), (by omega), (by rw [← hq2, rtx_run (a := a) (k := k) (by omega) hk hne, if_neg (show ¬ k = 1 by omega), chT_0 hg20]; simp only [List.append_assoc, Int.toNat_natCast])⟩
 refine ob_i ((hx100.le lE).ix (by omega) (by omega)) (ob_i ((hx100.le lE).ld 0 (by omega) (by omega)) (ob_i (vInt_eql _ _ _) (cnd_d (fun hg21 => ?_) (fun hg21 => ?_))))
 refine ob_i (vStr_add (a := out) (b := ([111] : List UInt8)) (by first | omega | (simp only [List.length_cons, List.length_nil]; omega))) ?_
 refine ob_i (vInt_add (by omega) (by omega)) ?_
 exact nxt (c.toNat - (t + 1)) (by omega) ⟨t + 1, rfl, by omega, (out ++ ([111] : List UInt8)), (a + k), g0L16, rfl, g4L16, g5L16, g6L16, (congrArg (Value.int .i64) (by omega)), lE, (by omega), (by omega), (by rw [← hq2, rtx_run (a := a) (k := k) (by omega) hk hne, if_pos (show k = 1 by omega), chT_1 hg21]; simp only [List.append_assoc, List.nil_append])⟩
 refine ob_i (vStr_add (a := out) (b := ([98] : List UInt8)) (by first | omega | (simp only [List.length_cons, List.length_nil]; omega))) ?_
 refine ob_i (vInt_add (by omega) (by omega)) ?_
 exact nxt (c.toNat - (t + 1)) (by omega) ⟨t + 1, rfl, by omega, (out ++ ([98] : List UInt8)), (a + k), g0L16, rfl, g4L16, g5L16, g6L16, (congrArg (Value.int .i64) (by omega)), lE, (by omega), (by omega), (by rw [← hq2, rtx_run (a := a) (k := k) (by omega) hk hne, if_pos (show k = 1 by omega), chT_0 hg21]; simp only [List.append_assoc, List.nil_append])⟩
 refine ⟨fun n' σ' H' => ∃ j : Nat, n' = c.toNat - j ∧ j ≤ c.toNat ∧ σ' 0 = p ∧ σ' 3 = (vS (out)) ∧ σ' 4 = (.int .i64 ((i : Int))) ∧ σ' 5 = x10 ∧ σ' 6 = (.int .i64 ((e : Int))) ∧ σ' 7 = (.int .i64 ((a : Int))) ∧ σ' 8 = (.int .i64 ((1 : Int) + (j : Int))) ∧ Le H H' ∧ 1 + j ≤ rN (at_ 0 row (a : Int)) (row.drop a) ∧ a + (1 + j) ≤ e,
    ⟨_, 0, rfl, by omega, g0L14, g3L14, g4L14, g5L14, g6L14, g7L14, (congrArg (Value.int .i64) (by first | omega | rfl | (simp; done))), lE, (by have := run_zero (row := row) (a := a) (by omega); omega), (by omega)⟩, ?_⟩
 rintro n22 σ22 H22 ⟨j, rfl, hjN, g0L22, g3L22, g4L22, g5L22, g6L22, g7L22, g8L22, lE, hj0, hj1⟩
 try simp only [g5L22, g6L22, g7L22, g8L22]
 refine ob_i (vInt_add (by omega) (by omega)) (ob_i (vInt_lss _ _ _) ?_)
 by_cases hc23 : ((a : Int) + ((1 : Int) + (j : Int))) < (e : Int)
 refine gT hc23 (gT hc23 (gT hc23 (gT hc23 (ob_i (vInt_add (by omega) (by omega)) (gT hc23 (ob_i ((hx100.le lE).ix (by omega) (by omega)) (gT hc23 (ob_i ((hx100.le lE).ld 0 (by omega) (by omega)) (gT hc23 ?_)))))))))
 refine gT hc23 (gT hc23 (ob_i ((hx100.le lE).ix (by omega) (by omega)) (gT hc23 (ob_i ((hx100.le lE).ld 0 (by omega) (by omega)) (gT hc23 (ob_i (vInt_eql _ _ _) (ob_i (vPick_et (decide_eq_true hc23) _ _) (cnd_d (fun hg24 => ?_) (fun hg24 => ?_)))))))))
 refine ob_i (vInt_add (by omega) (by omega)) ?_
 exact nxt (c.toNat - (j + 1)) (by omega) ⟨j + 1, rfl, by omega, g0L22, g3L22, g4L22, g5L22, g6L22, g7L22, (congrArg (Value.int .i64) (by first | omega | rfl | (simp; done))), lE, (by have := run_next (a := a) (e := a + (1 + j)) (by omega) (by rw [show a + (1 + j) - a = 1 + j by omega]; exact hj0) (by omega) (by rw [show ((a + (1 + j) : Nat) : Int) = (a : Int) + ((1 : Int) + (j : Int)) by omega]; exact hg24); omega), (by omega)⟩
 have hcut := run_cut (k := 1 + j) hend hlast (a := a) (by omega) (by omega) hj0 (by omega) (.inr (by rw [show ((a + (1 + j) : Nat) : Int) = (a : Int) + ((1 : Int) + (j : Int)) by omega]; exact hg24))
 exact hJ16 _ _ ⟨(1 + j), g0L22, g3L22, g4L22, g5L22, g6L22, g7L22, (g8L22.trans (congrArg (Value.int .i64) (by first | omega | rfl | (simp; done)))), lE, hcut.1, hcut.2, (by omega), (by omega)⟩
 refine hF hc23 (hF hc23 (hF hc23 (hF hc23 (hF hc23 (hF hc23 (hF hc23 (hF hc23 (hF hc23 (hF hc23 ?_)))))))))
 refine hF hc23 (ob_i (vPick_ef (decide_eq_false hc23) _ _) (cnd_f1 ?_))
 have hcut := run_cut (k := 1 + j) hend hlast (a := a) (by omega) (by omega) hj0 (by omega) (.inl (by omega))
 exact hJ16 _ _ ⟨(1 + j), g0L22, g3L22, g4L22, g5L22, g6L22, g7L22, (g8L22.trans (congrArg (Value.int .i64) (by first | omega | rfl | (simp; done)))), lE, hcut.1, hcut.2, (by omega), (by omega)⟩
 have tt := hg15
 exact hJ8 _ _ ⟨g0L14, (g3L14.trans (congrArg vS (by rw [show a = e by omega, endP_rtx hend, List.append_nil] at hq2; rw [hq2, hB]))), g4L14, lE⟩
 refine ⟨fun n' σ' H' => ∃ j : Nat, n' = c.toNat - j ∧ j ≤ c.toNat ∧ σ' 0 = p ∧ σ' 3 = (vS (B)) ∧ σ' 4 = (.int .i64 ((i : Int))) ∧ σ' 5 = x10 ∧ σ' 6 = (.int .i64 (((c.toNat - j : Nat) : Int))) ∧ Le H H' ∧ endP row (c.toNat - j),
    ⟨_, 0, rfl, by omega, g0L9, g3L9, g4L9, rfl, (congrArg (Value.int .i64) (by first | omega | rfl | (simp; done))), lE, ⟨by omega, fun q h1 h2 => by omega⟩⟩, ?_⟩
 rintro n25 σ25 H25 ⟨j, rfl, hjN, g0L25, g3L25, g4L25, g5L25, g6L25, lE, he0⟩
 try simp only [g5L25, g6L25]
 refine ob_i (vInt_gtr _ _ _) ?_
 by_cases hc26 : 0 < (((c.toNat - j : Nat) : Int))
 refine gT hc26 (gT hc26 (gT hc26 (ob_i (vInt_sub (by omega) (by omega)) (gT hc26 (ob_i ((hx100.le lE).ix (by omega) (by omega)) (gT hc26 (ob_i ((hx100.le lE).ld 0 (by omega) (by omega)) (gT hc26 (ob_i (vInt_eql _ _ _) ?_)))))))))
 refine ob_i (vPick_et (decide_eq_true hc26) _ _) (cnd_d (fun hg27 => ?_) (fun hg27 => ?_))
 refine ob_i (vInt_sub (by omega) (by omega)) ?_
 exact nxt (c.toNat - (j + 1)) (by omega) ⟨j + 1, rfl, by omega, g0L25, g3L25, g4L25, g5L25, (congrArg (Value.int .i64) (by first | omega | rfl | (simp; done))), lE, (endP_back he0 (by omega) hg27 (by omega))⟩
 exact hJ13 _ _ ⟨(c.toNat - j), g0L25, g3L25, g4L25, g5L25, (g6L25.trans (congrArg (Value.int .i64) (by first | omega | rfl | (simp; done)))), lE, he0, (fun h => by rw [show ((c.toNat - j - 1 : Nat) : Int) = ((c.toNat - j : Nat) : Int) - 1 by omega]; exact hg27), (by omega)⟩
 refine hF hc26 (hF hc26 (hF hc26 (hF hc26 (hF hc26 (hF hc26 (ob_i (vPick_ef (decide_eq_false hc26) _ _) (cnd_f1 ?_)))))))
 exact hJ13 _ _ ⟨(c.toNat - j), g0L25, g3L25, g4L25, g5L25, (g6L25.trans (congrArg (Value.int .i64) (by first | omega | rfl | (simp; done)))), lE, he0, (fun h => absurd h (by omega)), (by omega)⟩
 refine ob_i (vInt_gtr _ _ _) (cnd_d (fun hg28 => ?_) (fun hg28 => ?_))
 have tj := hg28
 refine ob_i (vStr_add (a := headT r c ++ joinR c.toNat l i) (b := ([36] : List UInt8)) (by first | omega | (simp only [List.length_append, List.length_cons, List.length_nil]; omega))) ?_
 exact hJ9 _ _ ⟨_, g0L6, rfl, g4L6, lE, (by rw [joinR_succ (by omega)]; simp only [List.append_assoc])⟩
 have tj := hg28
 exact hJ9 _ _ ⟨_, g0L6, g3L6, g4L6, lE, (by rw [joinR_one (by omega), show joinR c.toNat l i = [] by rw [show i = 0 by omega, joinR_zero], List.append_nil])⟩
 have ti := hg7
 exact hJ5 _ _ ⟨(g3L6.trans (congrArg vS (by rw [show i = r.toNat by omega]))), lE⟩

theorem C.c96  {H : Hp} {K : Value → Hp → Prop} (hvc0 : Sl eI H vc l) (hf : fieldN 1 r c l)
    (hk : ∀ H', Le H H' → K (vS (fieldT r c l)) H') : HT prg 105 [(.agg #[(.int .i64 (r)), (.int .i64 (c)), vc])].toArray H K := by
 have lE := Le.refl H
 refine R.q105 ?_
 unfold F.q105
 have hs := hf.1
 have hl := hf.2.1
 have q1 := hs.1
 have q2 := hs.2
 have qm := sidesF_mul hs
 have l1 := fieldN_len hf
 have hlN : l.length = r.toNat * c.toNat := by rw [← Int.natCast_inj, Int.natCast_mul, Int.toNat_of_nonneg (by omega), Int.toNat_of_nonneg (by omega)]; exact hl
 have dc := decT_len c.toNat
 have dr := decT_len r.toNat
 have rf := rowsT_flat (c := c.toNat) (l := l) r.toNat
 have rg : r.toNat * (3 * c.toNat) ≤ 24 * 72 := Nat.mul_le_mul (by omega) (by omega)
 have rjl : (joinT [36] (rowsT c.toNat l r.toNat)).length ≤ r.toNat * (3 * c.toNat + 1) := joinR_len _
 have rjm : r.toNat * (3 * c.toNat + 1) ≤ 24 * 73 := Nat.mul_le_mul (by omega) (by omega)
 have rn := rowsT_len (c := c.toNat) (l := l) (n := r.toNat)
 refine nw_i (fun pf H1 opf nn2 le3 => ?_)
 replace opf : Cel H1 pf [(.int .i64 (r)), (.int .i64 (c)), vc] := opf
 refine bS_nil (enc := vS) (fun ou H4 oou nn5 kk6 le7 => ?_)
 have apfXou := opf.apart nn5
 replace lE := lE.trans le3
 have nou := nn5.le lE
 refine nw_i (fun po H8 opo nn9 le10 => ?_)
 replace opf := opf.le le7
 have apfXpo := opf.apart nn9
 have aouXpo := oou.apart nn9
 replace lE := lE.trans le7
 have npo := nn9.le lE
 replace opo : Cel H8 po [(.slice none 0 0)] := opo
 replace oou := oou.le le10
 refine opo.st0 (by simp) oou.one oou.cells (fun H11 opo off12 => ?_)
 replace opo : Cel H11 po [ou] := opo
 refine jn_i (fun σ' H' => ∃ ou, σ' 1 = pf ∧ σ' 3 = po ∧ Cel H' pf [(.int .i64 (r)), (.int .i64 (c)), vc] ∧ Own vS H' ou (rowsT c.toNat l r.toNat) ∧ Cel H' po [ou] ∧ Nw H ou ∧ Apart pf ou ∧ Apart ou po ∧ Le H H') (fun σ13 H13 hP => ?_) (fun J13 hJ13 => ?_)
 replace opf := (opf.le le10).off off12 apfXpo
 replace lE := off12.le (lE.trans le10) npo
 replace oou := oou.off off12 aouXpo
 obtain ⟨ou, g1L13, g3L13, opf, oou, opo, nou, apfXou, aouXpo, lE⟩ := hP
 try simp only [g1L13, g3L13]
 refine ob_i (opf.fa 1) (ob_i (opf.ld 1 rfl) (ob_i (opf.fa 0) (ob_i (opf.ld 0 rfl) (ob_i (opo.ld0 rfl) (C.c91 (by first | omega | assumption) (by first | omega | assumption) ?_)))))
 refine ⟨Le.refl _, ?_⟩
 refine ob_i (vStr_add (a := decT c.toNat) (b := ([44] : List UInt8)) (by first | omega | (simp only [List.length_cons, List.length_nil]; omega))) ?_
 refine C.c91 (by first | omega | assumption) (by first | omega | assumption) ?_
 refine ⟨Le.refl _, ?_⟩
 refine ob_i (vStr_add (a := (decT c.toNat) ++ ([44] : List UInt8)) (b := decT r.toNat) (by first | omega | (simp only [List.length_append, List.length_cons, List.length_nil]; omega))) ?_
 refine ob_i (vStr_add (a := ((decT c.toNat) ++ ([44] : List UInt8)) ++ (decT r.toNat)) (b := ([58] : List UInt8)) (by first | omega | (simp only [List.length_append, List.length_cons, List.length_nil]; omega))) ?_
 refine C.c87 oou.sl (by first | omega | assumption) (by first | omega | assumption) (fun   H14    le15 => ?_)
 refine ⟨le15, ?_⟩
 refine ob_i (vStr_add (a := (((decT c.toNat) ++ ([44] : List UInt8)) ++ (decT r.toNat)) ++ ([58] : List UInt8)) (b := joinT [36] (rowsT c.toNat l r.toNat)) (by first | omega | (simp only [List.length_append, List.length_cons, List.length_nil]; omega))) ?_
 refine ob_i (vStr_add (a := ((((decT c.toNat) ++ ([44] : List UInt8)) ++ (decT r.toNat)) ++ ([58] : List UInt8)) ++ (joinT [36] (rowsT c.toNat l r.toNat))) (b := ([33] : List UInt8)) (by first | omega | (simp only [List.length_append, List.length_cons, List.length_nil]; omega))) ?_
 replace lE := lE.trans le15
 exact keq (K := K) (by rw [show (fieldT r c l) = ((((((decT c.toNat) ++ ([44] : List UInt8)) ++ (decT r.toNat)) ++ ([58] : List UInt8)) ++ (joinT [36] (rowsT c.toNat l r.toNat))) ++ ([33] : List UInt8)) from by rfl]; try rfl) (hk   _    lE)
 replace opf := (opf.le le10).off off12 apfXpo
 refine ob_i (opf.fa 2) (ob_i (opf.ld 2 rfl) (ob_i (opf.fa 1) (ob_i (opf.ld 1 rfl) ?_)))
 replace lE := off12.le (lE.trans le10) npo
 refine C.c76 (hvc0.le lE) (by omega) (fun ps16 pn17 H18 ops16 opn17 nn20 nn21 aps16Xpn17 le19 => ?_)
 replace oou := oou.off off12 aouXpo
 have aouXps16 := oou.apart nn20
 have apoXps16 := opo.apart nn20
 have aouXpn17 := oou.apart nn21
 have apoXpn17 := opo.apart nn21
 replace ops16 : Cel H18 ps16 [vc] := ops16
 replace opn17 : Cel H18 pn17 [(.int .i64 (c))] := opn17
 replace opf := opf.le le19
 replace oou := oou.le le19
 replace opo := opo.le le19
 replace lE := lE.trans le19
 refine rgE_i (r.toNat) (fun (i : Nat) => [chV vc (i * c.toNat) c.toNat]) (fun (i : Nat) H' => ∃ ou, Cel H' pf [(.int .i64 (r)), (.int .i64 (c)), vc] ∧ Own vS H' ou (rowsT c.toNat l i) ∧ Cel H' po [ou] ∧ Cel H' ps16 [vc] ∧ Cel H' pn17 [(.int .i64 (c))] ∧ Nw H ou ∧ Apart pf ou ∧ Apart ou po ∧ Apart ou ps16 ∧ Apart ou pn17 ∧ Le H H') trivial (fun _ => rfl) ⟨ou, opf, (Own.cast (by first | rfl | (simp; done)) oou), opo, ops16, opn17, nou, apfXou, aouXpo, aouXps16, aouXpn17, lE⟩ (fun i H22 σ22 Q22 hiN hσ22 qn22 qr22 qx22 hI22 => ?_) (fun H22 hI22 => ?_) (fun yv J St H1 K1 hJ h0 hst hk1 hs1 => ?_)
 obtain ⟨ou, opf, oou, opo, ops16, opn17, nou, apfXou, aouXpo, aouXps16, aouXpn17, lE⟩ := hI22
 have hmz23 : (i + 1) * c.toNat ≤ r.toNat * c.toNat := Nat.mul_le_mul_right _ (by omega)
 rw [Nat.add_mul, Nat.one_mul] at hmz23
 have hz230 : Sl eI H (chV vc (i * c.toNat) c.toNat) (rowL c.toNat l i) := (chV_sl hvc0 (lo := i * c.toNat) (c := c.toNat) (by omega)).2
 obtain ⟨z23, ez23⟩ : ∃ z, z = chV vc (i * c.toNat) c.toNat := ⟨_, rfl⟩
 rw [← ez23] at hz230
 have rz23 : (rowL c.toNat l i).length = c.toNat := rowL_len (r := r.toNat) hlN (by omega)
 have g3L22 : σ22 3 = po := by rw [hσ22]; exact rfl
 have g11L22 : σ22 11 = z23 := by rw [hσ22, ← ez23]; rfl
 try simp only [g3L22, g11L22]
 have ri := rowsT_len (c := c.toNat) (l := l) (n := i)
 refine ob_i (opo.ld0 rfl) (C.c94 (hz230.le lE) (by first | omega | assumption) (by exact row_01 hf.2.2) (fun   H24    le25 => ?_))
 refine ⟨le25, ?_⟩
 refine bS_i (enc := vS) (l := [rtx (rowL c.toNat l i)]) (by omega) rfl (by kernel_rfl) (fun u26 H27 ou26 nn28 le30 => ?_)
 replace oou := (oou.le le25).le le30
 refine apd_any oou ou26.sl (fun _ => rfl) (by omega) (by first | omega | (simp only [List.length_cons, List.length_nil]; omega)) (fun u34 H31 ou34 off32 hb33 => ?_)
 replace opf := (opf.le le25).le le30
 have apfXu34 := Apart.ap2 opf.known apfXou hb33
 replace opo := (opo.le le25).le le30
 have apoXu34 := Apart.ap2 opo.known aouXpo.symm hb33
 replace ops16 := (ops16.le le25).le le30
 have aps16Xu34 := Apart.ap2 ops16.known aouXps16.symm hb33
 replace opn17 := (opn17.le le25).le le30
 have apn17Xu34 := Apart.ap2 opn17.known aouXpn17.symm hb33
 replace lE := (lE.trans le25).trans le30
 have nu34 : Nw H u34 := Nw.ap2 nou lE hb33
 replace opo := opo.off off32 aouXpo.symm
 refine opo.st0 (by simp) ou34.one ou34.cells (fun H35 opo off36 => ?_)
 replace opo : Cel H35 po [u34] := opo
 replace opf := (opf.off off32 apfXou).off off36 apfXpo
 replace ops16 := (ops16.off off32 aouXps16.symm).off off36 apoXps16.symm
 replace opn17 := (opn17.off off32 aouXpn17.symm).off off36 apoXpn17.symm
 replace lE := off36.le (off32.le lE nou) npo
 replace ou34 := ou34.off off36 apoXu34.symm
 exact qn22 _ _ ⟨u34, opf, (Own.cast rowsT_succ.symm ou34), opo, ops16, opn17, nu34, apfXu34, apoXu34.symm, aps16Xu34.symm, apn17Xu34.symm, lE⟩
 obtain ⟨ou, opf, oou, opo, ops16, opn17, nou, apfXou, aouXpo, aouXps16, aouXpn17, lE⟩ := hI22
 exact hJ13 _ _ ⟨ou, rfl, rfl, opf, oou, opo, nou, apfXou, aouXpo, lE⟩
 refine ⟨by kernel_rfl, C.c77 (r := r.toNat) (c := c.toNat) hvc0 hlN (by omega) (by omega) (by omega) (fun t A hA => ?_) h0 hst hk1 hs1⟩
 obtain ⟨A', b, o, rfl, hn, ou, opf, oou, opo, ops16, opn17, nou, apfXou, aouXpo, aouXps16, aouXpn17, lE⟩ := hJ t A hA
 exact ⟨ops16.le (Le.put _ hn), Cel.castX (by rw [Int.toNat_of_nonneg (by omega)]) (opn17.le (Le.put _ hn))⟩

end Go.Proofs.YtnijdhlmimemcaaGreatDoor
/- Fields that are turned and mirrored: the program's and the reference's. -/
namespace Go.Proofs.YtnijdhlmimemcaaGreatDoor
open HL
variable {p vc : Value} {r c i k : Int} {l : List Int}
set_option maxRecDepth 100000
theorem C.c97  {H : Hp} {K : Value → Hp → Prop} (hp0 : Cel H p [(.int .i64 (r)), (.int .i64 (c)), vc]) (hvc0 : Sl eI H vc l) (hf : fieldN 1 r c l)
    (hk : ∀ u1 H', Own eI H' u1 (turL r c l) → Nw H u1 → Le H H' → K (.agg #[(.int .i64 (c)), (.int .i64 (r)), u1]) H') : HT prg 140 [p].toArray H K := by
 have lE := Le.refl H
 refine R.q140 ?_
 unfold F.q140
 have hs := hf.1
 have hl := hf.2.1
 have q1 := hs.1
 have q2 := hs.2
 have qm := sidesF_mul hs
 have qm2 : c * r = r * c := Int.mul_comm _ _
 refine nw_i (fun p1 H2 op1 nn3 le4 => ?_)
 have np1 := nn3.le lE
 replace op1 : Cel H2 p1 [(.int .i64 (0)), (.int .i64 (0)), (.slice none 0 0)] := op1
 replace lE := lE.trans le4
 refine ob_i ((hp0.le lE).nilC) (ob_i ((hp0.le lE).fa 1) (ob_i ((hp0.le lE).ld 1 rfl) (ob_i ((hp0.le lE).nilC) (ob_i ((hp0.le lE).fa 0) (ob_i ((hp0.le lE).ld 0 rfl) (C.c23 (by first | omega | assumption) (by first | omega | assumption) (by first | omega | assumption) (by first | omega | assumption) (fun  u H5 ou nn7  le6 => ?_)))))))
 have ap1Xu := op1.apart nn7
 have nu := nn7.le lE
 refine ⟨le6, ?_⟩
 refine nw_i (fun q H8 oq nn9 le10 => ?_)
 replace op1 := op1.le le6
 have ap1Xq := op1.apart nn9
 have auXq := ou.apart nn9
 replace lE := lE.trans le6
 have nq := nn9.le lE
 replace ou := ou.le le10
 refine oq.stn (ws := [(.int .i64 (c)), (.int .i64 (r)), u]) rfl rfl (oc1 rfl (oc1 rfl (oc1 ou.one oc0))) (fun H11 oq off12 => ?_)
 refine jn_i (fun σ' H' => σ' 2 = p1 ∧ σ' 3 = q ∧ Cel H' p1 [(.int .i64 (0)), (.int .i64 (0)), (.slice none 0 0)] ∧ Own eI H' u (mkL r (turG r c l) (c.toNat * r.toNat)) ∧ Cel H' q [(.int .i64 (c)), (.int .i64 (r)), u] ∧ Le H H') (fun σ13 H13 hP => ?_) (fun J13 hJ13 => ?_)
 replace op1 := (op1.le le10).off off12 ap1Xq
 replace lE := off12.le (lE.trans le10) nq
 replace ou := ou.off off12 auXq
 obtain ⟨g2L13, g3L13, op1, ou, oq, lE⟩ := hP
 try simp only [g2L13, g3L13]
 refine ob_i (oq.ldn rfl) (op1.stn (ws := [(.int .i64 (c)), (.int .i64 (r)), u]) rfl rfl (oc1 rfl (oc1 rfl (oc1 ou.one oc0))) (fun H14 op1 off15 => ?_))
 refine ob_i (op1.ldn rfl) ?_
 replace ou := ou.off off15 ap1Xu.symm
 replace lE := off15.le lE np1
 exact hk  u _ (Own.cast (show mkL r (turG r c l) (c.toNat * r.toNat) = turL r c l by rfl) ou) nu  lE
 replace op1 := (op1.le le10).off off12 ap1Xq
 replace lE := off12.le (lE.trans le10) nq
 replace ou := ou.off off12 auXq
 refine ⟨fun n' σ' H' => ∃ i : Nat, n' = c.toNat - i ∧ i ≤ c.toNat ∧ σ' 0 = p ∧ σ' 2 = p1 ∧ σ' 3 = q ∧ σ' 4 = (.int .i64 ((i : Int))) ∧ Cel H' p1 [(.int .i64 (0)), (.int .i64 (0)), (.slice none 0 0)] ∧ Own eI H' u (fillL r (turG r c l) (c.toNat * r.toNat) (i * r.toNat)) ∧ Cel H' q [(.int .i64 (c)), (.int .i64 (r)), u] ∧ Le H H',
    ⟨_, 0, rfl, by omega, rfl, rfl, rfl, (congrArg (Value.int .i64) (by first | omega | rfl | (simp; done))), op1, (by rw [Nat.zero_mul, fillL_zero]; exact ou), oq, lE⟩, ?_⟩
 rintro n16 σ16 H16 ⟨i, rfl, hiN, g0L16, g2L16, g3L16, g4L16, op1, ou, oq, lE⟩
 try simp only [g3L16, g4L16]
 refine ob_i (oq.fa 0) (ob_i (oq.ld 0 rfl) (ob_i (vInt_lss _ _ _) (cnd_d (fun hg17 => ?_) (fun hg17 => ?_))))
 have ti := hg17
 refine jn_i (fun σ' H' => σ' 0 = p ∧ σ' 2 = p1 ∧ σ' 3 = q ∧ σ' 4 = (.int .i64 ((i : Int))) ∧ Cel H' p1 [(.int .i64 (0)), (.int .i64 (0)), (.slice none 0 0)] ∧ Own eI H' u (fillL r (turG r c l) (c.toNat * r.toNat) ((i + 1) * r.toNat)) ∧ Cel H' q [(.int .i64 (c)), (.int .i64 (r)), u] ∧ Le H H') (fun σ18 H18 hP => ?_) (fun J18 hJ18 => ?_)
 obtain ⟨g0L18, g2L18, g3L18, g4L18, op1, ou, oq, lE⟩ := hP
 try simp only [g4L18]
 refine ob_i (vInt_add (by omega) (by omega)) ?_
 exact nxt (c.toNat - (i + 1)) (by omega) ⟨i + 1, rfl, by omega, g0L18, g2L18, g3L18, (congrArg (Value.int .i64) (by first | omega | rfl | (simp; done))), op1, ou, oq, lE⟩
 refine ⟨fun n' σ' H' => ∃ k : Nat, n' = r.toNat - k ∧ k ≤ r.toNat ∧ σ' 0 = p ∧ σ' 2 = p1 ∧ σ' 3 = q ∧ σ' 4 = (.int .i64 ((i : Int))) ∧ σ' 5 = (.int .i64 ((k : Int))) ∧ Cel H' p1 [(.int .i64 (0)), (.int .i64 (0)), (.slice none 0 0)] ∧ Own eI H' u (fillL r (turG r c l) (c.toNat * r.toNat) (i * r.toNat + k)) ∧ Cel H' q [(.int .i64 (c)), (.int .i64 (r)), u] ∧ Le H H',
    ⟨_, 0, rfl, by omega, g0L16, g2L16, g3L16, g4L16, (congrArg (Value.int .i64) (by first | omega | rfl | (simp; done))), op1, ou, oq, lE⟩, ?_⟩
 rintro n19 σ19 H19 ⟨k, rfl, hkN, g0L19, g2L19, g3L19, g4L19, g5L19, op1, ou, oq, lE⟩
 try simp only [g0L19, g3L19, g4L19, g5L19]
 refine ob_i (oq.fa 1) (ob_i (oq.ld 1 rfl) (ob_i (vInt_lss _ _ _) (cnd_d (fun hg20 => ?_) (fun hg20 => ?_))))
 have tk := hg20
 have x1 := ix_lt (a := (i : Int)) (b := (k : Int)) (r := c) (c := r) (by omega) (by omega) (by omega) (by omega)
 have x3 := fillL_len (c := r) (g := turG r c l) (rr := c) (cc := r) (t := i * r.toNat + k) (by omega) (by omega)
 have x2 := ix_lt (a := r - 1 - (k : Int)) (b := (i : Int)) (r := r) (c := c) (by omega) (by omega) (by omega) (by omega)
 refine ob_i (oq.fa 2) (ob_i (oq.ld 2 rfl) (ob_i (oq.fa 1) (ob_i (oq.ld 1 rfl) (ob_i (vInt_mul (by omega) (by omega)) (ob_i (vInt_add (by omega) (by omega)) (ob_i ((hp0.le lE).nilC) (ob_i ((hp0.le lE).fa 2) (ob_i ((hp0.le lE).ld 2 rfl) (ob_i ((hp0.le lE).nilC) ?_)))))))))
 refine ob_i ((hp0.le lE).fa 0) (ob_i ((hp0.le lE).ld 0 rfl) (ob_i (vInt_sub (by omega) (by omega)) (ob_i (vInt_sub (by omega) (by omega)) (ob_i ((hp0.le lE).nilC) (ob_i ((hp0.le lE).fa 1) (ob_i ((hp0.le lE).ld 1 rfl) (ob_i (vInt_mul (by omega) (by omega)) (ob_i (vInt_add (by omega) (by omega)) (ob_i ((hvc0.le lE).ix (by omega) (by omega)) ?_)))))))))
 refine ob_i ((hvc0.le lE).ld 0 (by omega) (by omega)) (ob_i (ou.sl.ix (by omega) (by omega)) (ou.st (x := at_ 0 (l) ((((r - 1) - (k : Int)) * c) + (i : Int))) (by omega) (by omega) rfl rfl (fun H21 ou off22 => ?_)))
 refine ob_i (vInt_add (by omega) (by omega)) ?_
 replace ou : Own eI H21 u (fillL r (turG r c l) (c.toNat * r.toNat) (i * r.toNat + (k + 1))) := by rw [← Nat.add_assoc, ← fillL_set (c := r) (g := turG r c l) (i := (i : Int)) (k := (k : Int)) (by omega) (by omega) (by omega) (cast_ix (by omega)) (by omega)]; exact ou
 replace op1 := op1.off off22 ap1Xu
 replace oq := oq.off off22 auXq.symm
 replace lE := off22.le lE nu
 exact nxt (r.toNat - (k + 1)) (by omega) ⟨k + 1, rfl, by omega, g0L19, g2L19, g3L19, g4L19, (congrArg (Value.int .i64) (by first | omega | rfl | (simp; done))), op1, ou, oq, lE⟩
 have tk := hg20
 rw [show i * r.toNat + k = (i + 1) * r.toNat by rw [Nat.add_mul, Nat.one_mul]; omega] at ou
 exact hJ18 _ _ ⟨g0L19, g2L19, g3L19, g4L19, op1, ou, oq, lE⟩
 have ti := hg17
 rw [fillL_end (by rw [show i = c.toNat by omega]; exact Nat.le_refl _)] at ou
 exact hJ13 _ _ ⟨g2L16, g3L16, op1, ou, oq, lE⟩

theorem C.c98  {H : Hp} {K : Value → Hp → Prop} (hp0 : Cel H p [(.int .i64 (r)), (.int .i64 (c)), vc]) (hvc0 : Sl eI H vc l) (hf : fieldN 1 r c l)
    (hk : ∀ u1 H', Own eI H' u1 (mirL r c l) → Nw H u1 → Le H H' → K (.agg #[(.int .i64 (r)), (.int .i64 (c)), u1]) H') : HT prg 141 [p].toArray H K := by
 have lE := Le.refl H
 refine R.q141 ?_
 unfold F.q141
 have hs := hf.1
 have hl := hf.2.1
 have q1 := hs.1
 have q2 := hs.2
 have qm := sidesF_mul hs
 refine nw_i (fun p1 H2 op1 nn3 le4 => ?_)
 have np1 := nn3.le lE
 replace op1 : Cel H2 p1 [(.int .i64 (0)), (.int .i64 (0)), (.slice none 0 0)] := op1
 replace lE := lE.trans le4
 refine ob_i ((hp0.le lE).nilC) (ob_i ((hp0.le lE).fa 0) (ob_i ((hp0.le lE).ld 0 rfl) (ob_i ((hp0.le lE).nilC) (ob_i ((hp0.le lE).fa 1) (ob_i ((hp0.le lE).ld 1 rfl) (C.c23 (by first | omega | assumption) (by first | omega | assumption) (by first | omega | assumption) (by first | omega | assumption) (fun  u H5 ou nn7  le6 => ?_)))))))
 have ap1Xu := op1.apart nn7
 have nu := nn7.le lE
 refine ⟨le6, ?_⟩
 refine nw_i (fun q H8 oq nn9 le10 => ?_)
 replace op1 := op1.le le6
 have ap1Xq := op1.apart nn9
 have auXq := ou.apart nn9
 replace lE := lE.trans le6
 have nq := nn9.le lE
 replace ou := ou.le le10
 refine oq.stn (ws := [(.int .i64 (r)), (.int .i64 (c)), u]) rfl rfl (oc1 rfl (oc1 rfl (oc1 ou.one oc0))) (fun H11 oq off12 => ?_)
 refine jn_i (fun σ' H' => σ' 2 = p1 ∧ σ' 3 = q ∧ Cel H' p1 [(.int .i64 (0)), (.int .i64 (0)), (.slice none 0 0)] ∧ Own eI H' u (mkL c (mirG c l) (r.toNat * c.toNat)) ∧ Cel H' q [(.int .i64 (r)), (.int .i64 (c)), u] ∧ Le H H') (fun σ13 H13 hP => ?_) (fun J13 hJ13 => ?_)
 replace op1 := (op1.le le10).off off12 ap1Xq
 replace lE := off12.le (lE.trans le10) nq
 replace ou := ou.off off12 auXq
 obtain ⟨g2L13, g3L13, op1, ou, oq, lE⟩ := hP
 try simp only [g2L13, g3L13]
 refine ob_i (oq.ldn rfl) (op1.stn (ws := [(.int .i64 (r)), (.int .i64 (c)), u]) rfl rfl (oc1 rfl (oc1 rfl (oc1 ou.one oc0))) (fun H14 op1 off15 => ?_))
 refine ob_i (op1.ldn rfl) ?_
 replace ou := ou.off off15 ap1Xu.symm
 replace lE := off15.le lE np1
 exact hk  u _ (Own.cast (show mkL c (mirG c l) (r.toNat * c.toNat) = mirL r c l by rfl) ou) nu  lE
 replace op1 := (op1.le le10).off off12 ap1Xq
 replace lE := off12.le (lE.trans le10) nq
 replace ou := ou.off off12 auXq
 refine ⟨fun n' σ' H' => ∃ i : Nat, n' = r.toNat - i ∧ i ≤ r.toNat ∧ σ' 0 = p ∧ σ' 2 = p1 ∧ σ' 3 = q ∧ σ' 4 = (.int .i64 ((i : Int))) ∧ Cel H' p1 [(.int .i64 (0)), (.int .i64 (0)), (.slice none 0 0)] ∧ Own eI H' u (fillL c (mirG c l) (r.toNat * c.toNat) (i * c.toNat)) ∧ Cel H' q [(.int .i64 (r)), (.int .i64 (c)), u] ∧ Le H H',
    ⟨_, 0, rfl, by omega, rfl, rfl, rfl, (congrArg (Value.int .i64) (by first | omega | rfl | (simp; done))), op1, (by rw [Nat.zero_mul, fillL_zero]; exact ou), oq, lE⟩, ?_⟩
 rintro n16 σ16 H16 ⟨i, rfl, hiN, g0L16, g2L16, g3L16, g4L16, op1, ou, oq, lE⟩
 try simp only [g0L16, g4L16]
 refine ob_i ((hp0.le lE).nilC) (ob_i ((hp0.le lE).fa 0) (ob_i ((hp0.le lE).ld 0 rfl) (ob_i (vInt_lss _ _ _) (cnd_d (fun hg17 => ?_) (fun hg17 => ?_)))))
 have ti := hg17
 refine jn_i (fun σ' H' => σ' 0 = p ∧ σ' 2 = p1 ∧ σ' 3 = q ∧ σ' 4 = (.int .i64 ((i : Int))) ∧ Cel H' p1 [(.int .i64 (0)), (.int .i64 (0)), (.slice none 0 0)] ∧ Own eI H' u (fillL c (mirG c l) (r.toNat * c.toNat) ((i + 1) * c.toNat)) ∧ Cel H' q [(.int .i64 (r)), (.int .i64 (c)), u] ∧ Le H H') (fun σ18 H18 hP => ?_) (fun J18 hJ18 => ?_)
 obtain ⟨g0L18, g2L18, g3L18, g4L18, op1, ou, oq, lE⟩ := hP
 try simp only [g4L18]
 refine ob_i (vInt_add (by omega) (by omega)) ?_
 exact nxt (r.toNat - (i + 1)) (by omega) ⟨i + 1, rfl, by omega, g0L18, g2L18, g3L18, (congrArg (Value.int .i64) (by first | omega | rfl | (simp; done))), op1, ou, oq, lE⟩
 refine ⟨fun n' σ' H' => ∃ k : Nat, n' = c.toNat - k ∧ k ≤ c.toNat ∧ σ' 0 = p ∧ σ' 2 = p1 ∧ σ' 3 = q ∧ σ' 4 = (.int .i64 ((i : Int))) ∧ σ' 5 = (.int .i64 ((k : Int))) ∧ Cel H' p1 [(.int .i64 (0)), (.int .i64 (0)), (.slice none 0 0)] ∧ Own eI H' u (fillL c (mirG c l) (r.toNat * c.toNat) (i * c.toNat + k)) ∧ Cel H' q [(.int .i64 (r)), (.int .i64 (c)), u] ∧ Le H H',
    ⟨_, 0, rfl, by omega, g0L16, g2L16, g3L16, g4L16, (congrArg (Value.int .i64) (by first | omega | rfl | (simp; done))), op1, ou, oq, lE⟩, ?_⟩
 rintro n19 σ19 H19 ⟨k, rfl, hkN, g0L19, g2L19, g3L19, g4L19, g5L19, op1, ou, oq, lE⟩
 try simp only [g0L19, g3L19, g4L19, g5L19]
 refine ob_i ((hp0.le lE).nilC) (ob_i ((hp0.le lE).fa 1) (ob_i ((hp0.le lE).ld 1 rfl) (ob_i (vInt_lss _ _ _) (cnd_d (fun hg20 => ?_) (fun hg20 => ?_)))))
 have tk := hg20
 have x1 := ix_lt (a := (i : Int)) (b := (k : Int)) (r := r) (c := c) (by omega) (by omega) (by omega) (by omega)
 have x3 := fillL_len (c := c) (g := mirG c l) (rr := r) (cc := c) (t := i * c.toNat + k) (by omega) (by omega)
 have eJ : ((i : Int) + 1) * c = (i : Int) * c + c := by rw [Int.add_mul, Int.one_mul]
 have x2 := ix_lt (a := (i : Int)) (b := c - 1 - (k : Int)) (r := r) (c := c) (by omega) (by omega) (by omega) (by omega)
 refine ob_i (oq.fa 2) (ob_i (oq.ld 2 rfl) (ob_i ((hp0.le lE).nilC) (ob_i ((hp0.le lE).fa 1) (ob_i ((hp0.le lE).ld 1 rfl) (ob_i (vInt_mul (by omega) (by omega)) (ob_i (vInt_add (by omega) (by omega)) (ob_i ((hp0.le lE).nilC) (ob_i ((hp0.le lE).fa 2) (ob_i ((hp0.le lE).ld 2 rfl) ?_)))))))))
 refine ob_i (vInt_add (by omega) (by omega)) (ob_i ((hp0.le lE).nilC) (ob_i ((hp0.le lE).fa 1) (ob_i ((hp0.le lE).ld 1 rfl) (ob_i (vInt_mul (by omega) (by omega)) (ob_i (vInt_sub (by omega) (by omega)) (ob_i (vInt_sub (by omega) (by omega)) (ob_i ((hvc0.le lE).ix (by omega) (by omega)) (ob_i ((hvc0.le lE).ld 0 (by omega) (by omega)) (ob_i (ou.sl.ix (by omega) (by omega)) (ou.st (x := at_ 0 (l) (((((i : Int) + 1) * c) - 1) - (k : Int))) (by omega) (by omega) rfl rfl (fun H21 ou off22 => ?_)))))))))))
 refine ob_i (vInt_add (by omega) (by omega)) ?_
 rw [show ((i : Int) + 1) * c - 1 - (k : Int) = (i : Int) * c + (c - 1 - (k : Int)) by omega] at ou
 replace ou : Own eI H21 u (fillL c (mirG c l) (r.toNat * c.toNat) (i * c.toNat + (k + 1))) := by rw [← Nat.add_assoc, ← fillL_set (c := c) (g := mirG c l) (i := (i : Int)) (k := (k : Int)) (by omega) (by omega) (by omega) (cast_ix (by omega)) (by omega)]; exact ou
 replace op1 := op1.off off22 ap1Xu
 replace oq := oq.off off22 auXq.symm
 replace lE := off22.le lE nu
 exact nxt (c.toNat - (k + 1)) (by omega) ⟨k + 1, rfl, by omega, g0L19, g2L19, g3L19, g4L19, (congrArg (Value.int .i64) (by first | omega | rfl | (simp; done))), op1, ou, oq, lE⟩
 have tk := hg20
 rw [show i * c.toNat + k = (i + 1) * c.toNat by rw [Nat.add_mul, Nat.one_mul]; omega] at ou
 exact hJ18 _ _ ⟨g0L19, g2L19, g3L19, g4L19, op1, ou, oq, lE⟩
 have ti := hg17
 rw [fillL_end (by rw [show i = r.toNat by omega]; exact Nat.le_refl _)] at ou
 exact hJ13 _ _ ⟨g2L16, g3L16, op1, ou, oq, lE⟩

theorem C.c99  {H : Hp} {K : Value → Hp → Prop} (hp0 : Cel H p [(.int .i64 (r)), (.int .i64 (c)), vc]) (hvc0 : Sl eI H vc l) (hf : fieldN 1 r c l) (i0 : 0 ≤ i) (j0 : 0 ≤ k) (i1 : i < c) (j1 : k < r)
    (hk : ∀ H', Le H H' → K (.int .i64 (turG r c l i k)) H') : HT prg 146 [(.int .i64 (i)), (.int .i64 (k)), p].toArray H K := by
 have lE := Le.refl H
 refine R.q146 ?_
 unfold F.q146
 have hs := hf.1
 have hl := hf.2.1
 have q1 := hs.1
 have q2 := hs.2
 have qm := sidesF_mul hs
 have x2 := ix_lt (a := r - 1 - k) (b := i) (r := r) (c := c) (by omega) (by omega) (by omega) (by omega)
 refine ob_i ((hp0.le lE).ldn rfl) (ob_i ((hp0.le lE).fa 0) (ob_i ((hp0.le lE).ld 0 rfl) (ob_i (vInt_sub (by omega) (by omega)) (ob_i (vInt_sub (by omega) (by omega)) (C.c11 (hvc0.le lE) (by first | omega | assumption) (by first | omega | assumption) (by first | omega | assumption) (by first | omega | assumption) (by first | omega | assumption) (fun   H1    le2 => ?_))))))
 replace lE := lE.trans le2
 exact keq (K := K) (by rw [show ((at_ 0 l (((r - 1) - k) * c + i)) : Int) = (turG r c l i k) from by rfl]) (hk   _    lE)

theorem C.c100  {H : Hp} {K : Value → Hp → Prop} (hp0 : Cel H p [(.int .i64 (r)), (.int .i64 (c)), vc]) (hvc0 : Sl eI H vc l) (hf : fieldN 1 r c l) (i0 : 0 ≤ i) (j0 : 0 ≤ k) (i1 : i < r) (j1 : k < c)
    (hk : ∀ H', Le H H' → K (.int .i64 (mirG c l i k)) H') : HT prg 145 [(.int .i64 (i)), (.int .i64 (k)), p].toArray H K := by
 have lE := Le.refl H
 refine R.q145 ?_
 unfold F.q145
 have hs := hf.1
 have hl := hf.2.1
 have q1 := hs.1
 have q2 := hs.2
 have qm := sidesF_mul hs
 have x2 := ix_lt (a := i) (b := c - 1 - k) (r := r) (c := c) (by omega) (by omega) (by omega) (by omega)
 refine ob_i ((hp0.le lE).ldn rfl) (ob_i ((hp0.le lE).fa 1) (ob_i ((hp0.le lE).ld 1 rfl) (ob_i (vInt_sub (by omega) (by omega)) (ob_i (vInt_sub (by omega) (by omega)) (C.c11 (hvc0.le lE) (by first | omega | assumption) (by first | omega | assumption) (by first | omega | assumption) (by first | omega | assumption) (by first | omega | assumption) (fun   H1    le2 => ?_))))))
 replace lE := lE.trans le2
 exact keq (K := K) (by rw [show ((at_ 0 l (i * c + ((c - 1) - k))) : Int) = (mirG c l i k) from by rfl]) (hk   _    lE)

theorem C.c101  {H : Hp} {K : Value → Hp → Prop} (hvc0 : Sl eI H vc l) (hf : fieldN 1 r c l)
    (hk : ∀ u1 H', Own eI H' u1 (turL r c l) → Nw H u1 → Le H H' → K (.agg #[(.int .i64 (c)), (.int .i64 (r)), u1]) H') : HT prg 122 [(.agg #[(.int .i64 (r)), (.int .i64 (c)), vc])].toArray H K := by
 have lE := Le.refl H
 refine R.q122 ?_
 unfold F.q122
 have hs := hf.1
 have hl := hf.2.1
 have q1 := hs.1
 have q2 := hs.2
 have qm := sidesF_mul hs
 refine nw_i (fun p1 H2 op1 nn3 le4 => ?_)
 replace op1 : Cel H2 p1 [(.int .i64 (r)), (.int .i64 (c)), vc] := op1
 refine nw_i (fun p5 H6 op5 nn7 le8 => ?_)
 replace lE := lE.trans le4
 have np5 := nn7.le lE
 replace op5 : Cel H6 p5 [(.int .i64 (0)), (.int .i64 (0)), (.slice none 0 0)] := op5
 replace op1 := op1.le le8
 refine ob_i (op1.fa 1) (ob_i (op1.ld 1 rfl) (ob_i (op1.fa 0) (ob_i (op1.ld 0 rfl) (C.c18 (g := turG r c l) (by omega) (by omega) (by omega) (by omega) (fun H13c i13 k13 Z leZ hi13 hk13 hZ => ?_) (fun u9 H10 ou9 nn11 le12 => ?_)))))
 refine ⟨by kernel_rfl, ?_⟩
 have lZ := Le.refl H13c
 replace lE := (lE.trans le8).trans leZ
 replace op1 := op1.le leZ
 refine C.c99 op1 (hvc0.le lE) (by first | omega | assumption) (by first | omega | assumption) (by first | omega | assumption) (by first | omega | assumption) (by first | omega | assumption) (fun   H14    le15 => ?_)
 replace lZ := lZ.trans le15
 exact keq (K := Z) (by rw [show ((turG r c l (i13 : Int) (k13 : Int)) : Int) = (turG r c l) (i13 : Int) (k13 : Int) from rfl]) (hZ _ lZ)
 have ap5Xu9 := op5.apart nn11
 replace lE := lE.trans le8
 have nu9 := nn11.le lE
 replace op5 := op5.le le12
 refine op5.stn (ws := [(.int .i64 (c)), (.int .i64 (r)), u9]) rfl rfl (oc1 rfl (oc1 rfl (oc1 ou9.one oc0))) (fun H16 op5 off17 => ?_)
 refine ob_i (op5.ldn rfl) ?_
 replace lE := off17.le (lE.trans le12) np5
 replace ou9 := ou9.off off17 ap5Xu9.symm
 exact hk  u9 _ (Own.cast (show mkL (r) (turG r c l) ((c : Int).toNat * (r : Int).toNat) = turL r c l by rfl) ou9) nu9  lE

theorem C.c102  {H : Hp} {K : Value → Hp → Prop} (hvc0 : Sl eI H vc l) (hf : fieldN 1 r c l)
    (hk : ∀ u1 H', Own eI H' u1 (mirL r c l) → Nw H u1 → Le H H' → K (.agg #[(.int .i64 (r)), (.int .i64 (c)), u1]) H') : HT prg 121 [(.agg #[(.int .i64 (r)), (.int .i64 (c)), vc])].toArray H K := by
 have lE := Le.refl H
 refine R.q121 ?_
 unfold F.q121
 have hs := hf.1
 have hl := hf.2.1
 have q1 := hs.1
 have q2 := hs.2
 have qm := sidesF_mul hs
 refine nw_i (fun p1 H2 op1 nn3 le4 => ?_)
 replace op1 : Cel H2 p1 [(.int .i64 (r)), (.int .i64 (c)), vc] := op1
 refine nw_i (fun p5 H6 op5 nn7 le8 => ?_)
 replace lE := lE.trans le4
 have np5 := nn7.le lE
 replace op5 : Cel H6 p5 [(.int .i64 (0)), (.int .i64 (0)), (.slice none 0 0)] := op5
 replace op1 := op1.le le8
 refine ob_i (op1.fa 0) (ob_i (op1.ld 0 rfl) (ob_i (op1.fa 1) (ob_i (op1.ld 1 rfl) (C.c18 (g := mirG c l) (by omega) (by omega) (by omega) (by omega) (fun H13c i13 k13 Z leZ hi13 hk13 hZ => ?_) (fun u9 H10 ou9 nn11 le12 => ?_)))))
 refine ⟨by kernel_rfl, ?_⟩
 have lZ := Le.refl H13c
 replace lE := (lE.trans le8).trans leZ
 replace op1 := op1.le leZ
 refine C.c100 op1 (hvc0.le lE) (by first | omega | assumption) (by first | omega | assumption) (by first | omega | assumption) (by first | omega | assumption) (by first | omega | assumption) (fun   H14    le15 => ?_)
 replace lZ := lZ.trans le15
 exact keq (K := Z) (by rw [show ((mirG c l (i13 : Int) (k13 : Int)) : Int) = (mirG c l) (i13 : Int) (k13 : Int) from rfl]) (hZ _ lZ)
 have ap5Xu9 := op5.apart nn11
 replace lE := lE.trans le8
 have nu9 := nn11.le lE
 replace op5 := op5.le le12
 refine op5.stn (ws := [(.int .i64 (r)), (.int .i64 (c)), u9]) rfl rfl (oc1 rfl (oc1 rfl (oc1 ou9.one oc0))) (fun H16 op5 off17 => ?_)
 refine ob_i (op5.ldn rfl) ?_
 replace lE := off17.le (lE.trans le12) np5
 replace ou9 := ou9.off off17 ap5Xu9.symm
 exact hk  u9 _ (Own.cast (show mkL (c) (mirG c l) ((r : Int).toNat * (c : Int).toNat) = mirL r c l by rfl) ou9) nu9  lE

theorem C.c103  {H : Hp} {K : Value → Hp → Prop} (hp0 : Cel H p [(.int .i64 (r)), (.int .i64 (c)), vc]) (hvc0 : Sl eI H vc l) (hf : fieldN 1 r c l)
    (hk : ∀ u1 Su1 H', Fam H' u1 Su1 (imgs (⟨r, c, l⟩ : FdL) 8) → Nws H Su1 → Le H H' → K u1 H') : HT prg 111 [p].toArray H K := by
 have lE := Le.refl H
 refine R.q111 ?_
 unfold F.q111
 have hs := hf.1
 have hl := hf.2.1
 have q1 := hs.1
 have q2 := hs.2
 have qm := sidesF_mul hs
 refine bSE_fam (fun u1 Su1 H2 ou1 nn3 le5 => ?_)
 have nu1 : Nws H Su1 := nn3.le lE
 replace lE := lE.trans le5
 refine ob_i ((hp0.le lE).nilC) (ob_i ((hp0.le lE).fa 0) (ob_i ((hp0.le lE).ld 0 rfl) (ob_i ((hp0.le lE).nilC) (ob_i ((hp0.le lE).fa 1) (ob_i ((hp0.le lE).ld 1 rfl) (C.c29 (hp0.le lE) (hvc0.le lE) (by first | omega | assumption) (by first | omega | assumption) (by first | omega | assumption) (by first | omega | assumption) (by first | omega | assumption) (by first | omega | assumption) (by first | omega | assumption) (by first | omega | assumption) (fun  u8 H6 ou8 nn9  le7 => ?_)))))))
 have au1Xu8 : Apt Su1 u8 := Apt.of_nw ou1.known nn9
 have nu8 := nn9.le lE
 refine ⟨le7, ?_⟩
 refine nw_i (fun q H10 oq nn11 le12 => ?_)
 replace ou1 := ou1.le le7
 have au1Xq : Apt Su1 q := Apt.of_nw ou1.known nn11
 have au8Xq := ou8.apart nn11
 replace lE := lE.trans le7
 have nq := nn11.le lE
 replace ou8 := ou8.le le12
 refine oq.stn (ws := [(.int .i64 (r)), (.int .i64 (c)), u8]) rfl rfl (oc1 rfl (oc1 rfl (oc1 ou8.one oc0))) (fun H13 oq off14 => ?_)
 refine jn_i (fun σ' H' => ∃ u, ∃ Su, ∃ g, σ' 3 = u ∧ Cel H' q [(.int .i64 ((imB (⟨r, c, l⟩ : FdL) 2).r)), (.int .i64 ((imB (⟨r, c, l⟩ : FdL) 2).c)), g] ∧ Fam H' u Su (imgs (⟨r, c, l⟩ : FdL) 8) ∧ Own eI H' g ((imB (⟨r, c, l⟩ : FdL) 2).l) ∧ Nws H Su ∧ Apt q Su ∧ Nw H g ∧ Apart q g ∧ Apt Su g ∧ Le H H') (fun σ15 H15 hP => ?_) (fun J15 hJ15 => ?_)
 replace lE := off14.le (lE.trans le12) nq
 obtain ⟨u, Su, g, g3L15, oq, ou, og, nu, aqXu, ng, aqXg, auXg, lE⟩ := hP
 try simp only [g3L15]
 exact hk  u _ _ ou nu  lE
 replace ou1 := (ou1.le le12).off off14 au1Xq
 replace lE := off14.le (lE.trans le12) nq
 replace ou8 := ou8.off off14 au8Xq
 refine ⟨fun n' σ' H' => ∃ i : Nat, n' = 2 - i ∧ i ≤ 2 ∧ ∃ u, ∃ Su, ∃ g, σ' 0 = p ∧ σ' 3 = u ∧ σ' 4 = q ∧ σ' 5 = (.int .i64 ((i : Int))) ∧ Cel H' q [(.int .i64 ((imB (⟨r, c, l⟩ : FdL) i).r)), (.int .i64 ((imB (⟨r, c, l⟩ : FdL) i).c)), g] ∧ Fam H' u Su (imgs (⟨r, c, l⟩ : FdL) (4 * i)) ∧ Own eI H' g ((imB (⟨r, c, l⟩ : FdL) i).l) ∧ Nws H Su ∧ Apt q Su ∧ Nw H g ∧ Apart q g ∧ Apt Su g ∧ Le H H',
    ⟨_, 0, rfl, by omega, u1, _, u8, rfl, rfl, rfl, (congrArg (Value.int .i64) (by first | omega | rfl | (simp; done))), oq, (Fam.cast (by first | rfl | (simp; done)) ou1), (Own.cast (by exact cut_all (by omega) (by omega) hl) ou8), nu1, au1Xq.symm, nu8, au8Xq.symm, au1Xu8, lE⟩, ?_⟩
 rintro n16 σ16 H16 ⟨i, rfl, hiN, u, Su, g, g0L16, g3L16, g4L16, g5L16, oq, ou, og, nu, aqXu, ng, aqXg, auXg, lE⟩
 try simp only [g5L16]
 have hB : okF (imB (⟨r, c, l⟩ : FdL) i) := imB_ok (f := (⟨r, c, l⟩ : FdL)) hf i
 have hiL := imgs_len (⟨r, c, l⟩ : FdL) (4 * i)
 refine ob_i (vInt_lss _ _ _) (cnd_d (fun hg17 => ?_) (fun hg17 => ?_))
 have ti := hg17
 refine jn_i (fun σ' H' => ∃ u, ∃ Su, ∃ g, σ' 0 = p ∧ σ' 3 = u ∧ σ' 4 = q ∧ σ' 5 = (.int .i64 ((i : Int))) ∧ Cel H' q [(.int .i64 ((imB (⟨r, c, l⟩ : FdL) (i + 1)).r)), (.int .i64 ((imB (⟨r, c, l⟩ : FdL) (i + 1)).c)), g] ∧ Fam H' u Su (imgs (⟨r, c, l⟩ : FdL) (4 * (i + 1))) ∧ Own eI H' g ((imB (⟨r, c, l⟩ : FdL) (i + 1)).l) ∧ Nws H Su ∧ Apt q Su ∧ Nw H g ∧ Apart q g ∧ Apt Su g ∧ Le H H') (fun σ18 H18 hP => ?_) (fun J18 hJ18 => ?_)
 obtain ⟨u, Su, g, g0L18, g3L18, g4L18, g5L18, oq, ou, og, nu, aqXu, ng, aqXg, auXg, lE⟩ := hP
 try simp only [g5L18]
 refine ob_i (vInt_add (by omega) (by omega)) ?_
 exact nxt (2 - (i + 1)) (by omega) ⟨i + 1, rfl, by omega, u, _, g, g0L18, g3L18, g4L18, (congrArg (Value.int .i64) (by first | omega | rfl | (simp; done))), oq, ou, og, nu, aqXu, ng, aqXg, auXg, lE⟩
 refine jn_i (fun σ' H' => ∃ u, ∃ Su, ∃ g, σ' 0 = p ∧ σ' 3 = u ∧ σ' 4 = q ∧ σ' 5 = (.int .i64 ((i : Int))) ∧ Cel H' q [(.int .i64 ((imK (imB (⟨r, c, l⟩ : FdL) i) 4).r)), (.int .i64 ((imK (imB (⟨r, c, l⟩ : FdL) i) 4).c)), g] ∧ Fam H' u Su (imgs (⟨r, c, l⟩ : FdL) (4 * (i + 1))) ∧ Own eI H' g ((imK (imB (⟨r, c, l⟩ : FdL) i) 4).l) ∧ Nws H Su ∧ Apt q Su ∧ Nw H g ∧ Apart q g ∧ Apt Su g ∧ Le H H') (fun σ19 H19 hP => ?_) (fun J19 hJ19 => ?_)
 obtain ⟨u, Su, g, g0L19, g3L19, g4L19, g5L19, oq, ou, og, nu, aqXu, ng, aqXg, auXg, lE⟩ := hP
 try simp only [g0L19, g4L19]
 refine C.c98 (hp0.le lE) (hvc0.le lE) (by first | omega | assumption) (fun  u22 H20 ou22 nn23  le21 => ?_)
 have aqXu22 := oq.apart nn23
 have auXu22 : Apt Su u22 := Apt.of_nw ou.known nn23
 have nu22 := nn23.le lE
 replace oq := oq.le le21
 refine oq.stn (ws := [(.int .i64 (r)), (.int .i64 (c)), u22]) rfl rfl (oc1 rfl (oc1 rfl (oc1 ou22.one oc0))) (fun H24 oq off25 => ?_)
 replace ou22 := ou22.off off25 aqXu22.symm
 replace ou22 : Own eI H24 u22 (imB (⟨r, c, l⟩ : FdL) (i + 1)).l := ou22
 replace oq : Cel H24 q [(.int .i64 (imB (⟨r, c, l⟩ : FdL) (i + 1)).r), (.int .i64 (imB (⟨r, c, l⟩ : FdL) (i + 1)).c), u22] := oq
 replace ou := (ou.le le21).off off25 aqXu.symm
 replace lE := off25.le (lE.trans le21) nq
 exact hJ18 _ _ ⟨u, _, u22, g0L19, g3L19, g4L19, g5L19, oq, ou, ou22, nu, aqXu, nu22, aqXu22, auXu22, lE⟩
 refine ⟨fun n' σ' H' => ∃ k : Nat, n' = 4 - k ∧ k ≤ 4 ∧ ∃ u, ∃ Su, ∃ g, σ' 0 = p ∧ σ' 3 = u ∧ σ' 4 = q ∧ σ' 5 = (.int .i64 ((i : Int))) ∧ σ' 6 = (.int .i64 ((k : Int))) ∧ Cel H' q [(.int .i64 ((imK (imB (⟨r, c, l⟩ : FdL) i) k).r)), (.int .i64 ((imK (imB (⟨r, c, l⟩ : FdL) i) k).c)), g] ∧ Fam H' u Su (imgs (⟨r, c, l⟩ : FdL) (4 * i + k)) ∧ Own eI H' g ((imK (imB (⟨r, c, l⟩ : FdL) i) k).l) ∧ Nws H Su ∧ Apt q Su ∧ Nw H g ∧ Apart q g ∧ Apt Su g ∧ Le H H',
    ⟨_, 0, rfl, by omega, u, _, g, g0L16, g3L16, g4L16, g5L16, (congrArg (Value.int .i64) (by first | omega | rfl | (simp; done))), oq, (Fam.cast (by first | rfl | (simp; done)) ou), (Own.cast (by first | rfl | (simp; done)) og), nu, aqXu, ng, aqXg, auXg, lE⟩, ?_⟩
 rintro n26 σ26 H26 ⟨k, rfl, hkN, u, Su, g, g0L26, g3L26, g4L26, g5L26, g6L26, oq, ou, og, nu, aqXu, ng, aqXg, auXg, lE⟩
 try simp only [g3L26, g4L26, g6L26]
 have hK : fieldN 1 (imK (imB (⟨r, c, l⟩ : FdL) i) k).r (imK (imB (⟨r, c, l⟩ : FdL) i) k).c (imK (imB (⟨r, c, l⟩ : FdL) i) k).l := imK_ok hB k
 have lK := fieldN_len hK
 have hiL2 := imgs_len (⟨r, c, l⟩ : FdL) (4 * i + k)
 refine ob_i (vInt_lss _ _ _) (cnd_d (fun hg27 => ?_) (fun hg27 => ?_))
 have tk := hg27
 refine ob_i (oq.ldn rfl) (bSE_one (enc := encFv) (x := (⟨(imK (imB (⟨r, c, l⟩ : FdL) i) k).r, (imK (imB (⟨r, c, l⟩ : FdL) i) k).c, g⟩ : Fv)) rfl rfl (by omega) (by omega) rfl (fun u28 H29 ou28 nn30 le32 => ?_) rfl)
 replace ou := ou.le le32
 replace og := og.le le32
 refine Fam.push ou rfl (ou28.sl encFv_n) og auXg.symm (by omega) (by first | omega | (simp; omega)) (fun u37 Su37 H33 ou37 off34 hb35 hx36 oxg => ?_)
 replace oq := oq.le le32
 have aqXu37 : Apt q Su37 := Apt.push oq.known aqXu aqXg hb35
 replace lE := lE.trans le32
 have nu37 : Nws H Su37 := Nws.push lE nu ng hb35
 replace og := oxg.ro
 replace oq := oq.offS off34 aqXu
 refine C.c97 oq og.sl (by first | omega | assumption) (fun  u40 H38 ou40 nn41  le39 => ?_)
 have aqXu40 := oq.apart nn41
 have au37Xu40 : Apt Su37 u40 := Apt.of_nw ou37.known nn41
 replace lE := off34.le lE nu
 have nu40 := nn41.le lE
 replace oq := oq.le le39
 refine oq.stn (ws := [(.int .i64 (((imK (imB (⟨r, c, l⟩ : FdL) i) k).c))), (.int .i64 (((imK (imB (⟨r, c, l⟩ : FdL) i) k).r))), u40]) rfl rfl (oc1 rfl (oc1 rfl (oc1 ou40.one oc0))) (fun H42 oq off43 => ?_)
 refine ob_i (vInt_add (by omega) (by omega)) ?_
 replace ou37 := (ou37.le le39).off off43 aqXu37.symm
 replace lE := off43.le (lE.trans le39) nq
 replace ou40 := ou40.off off43 aqXu40.symm
 exact nxt (4 - (k + 1)) (by omega) ⟨k + 1, rfl, by omega, u37, _, u40, g0L26, rfl, g4L26, g5L26, (congrArg (Value.int .i64) (by first | omega | rfl | (simp; done))), oq, (Fam.cast (imgs_succ (⟨r, c, l⟩ : FdL) (by omega)) ou37), ou40, nu37, aqXu37, nu40, aqXu40, au37Xu40, lE⟩
 have tk := hg27
 obtain rfl : k = 4 := by omega
 exact hJ19 _ _ ⟨u, _, g, g0L26, g3L26, g4L26, g5L26, oq, ou, og, nu, aqXu, ng, aqXg, auXg, lE⟩
 have ti := hg17
 obtain rfl : i = 2 := by omega
 exact hJ15 _ _ ⟨u, _, g, g3L16, oq, ou, og, nu, aqXu, ng, aqXg, auXg, lE⟩

theorem C.c104  {H : Hp} {K : Value → Hp → Prop} (hvc0 : Sl eI H vc l) (hf : fieldN 1 r c l)
    (hk : ∀ u1 Su1 H', Fam H' u1 Su1 (imgs (⟨r, c, l⟩ : FdL) 8) → Nws H Su1 → Le H H' → K u1 H') : HT prg 104 [(.agg #[(.int .i64 (r)), (.int .i64 (c)), vc])].toArray H K := by
 have lE := Le.refl H
 refine R.q104 ?_
 unfold F.q104
 have hs := hf.1
 have hl := hf.2.1
 have q1 := hs.1
 have q2 := hs.2
 have qm := sidesF_mul hs
 refine nw_i (fun p1 H2 op1 nn3 le4 => ?_)
 replace op1 : Cel H2 p1 [(.int .i64 (r)), (.int .i64 (c)), vc] := op1
 refine bSE_fam (fun u5 Su5 H6 ou5 nn7 le9 => ?_)
 have ap1Xu5 : Apt p1 Su5 := Apt.of_nws op1.known nn7
 replace lE := lE.trans le4
 have nu5 : Nws H Su5 := nn7.le lE
 refine jn_i (fun σ' H' => ∃ u, ∃ Su, ∃ g, ∃ h, σ' 3 = u ∧ Cel H' p1 [(.int .i64 (r)), (.int .i64 (c)), vc] ∧ Fam H' u Su (imgs (⟨r, c, l⟩ : FdL) 8) ∧ Own eI H' g (gL (⟨r, c, l⟩ : FdL) 2) ∧ Own eI H' h (hL (⟨r, c, l⟩ : FdL) 2) ∧ Nws H Su ∧ Apt p1 Su ∧ Nw H g ∧ Apart p1 g ∧ Apt Su g ∧ Nw H h ∧ Apart p1 h ∧ Apt Su h ∧ Apart g h ∧ Le H H') (fun σ10 H10 hP => ?_) (fun J10 hJ10 => ?_)
 replace op1 := op1.le le9
 replace lE := lE.trans le9
 obtain ⟨u, Su, g, h, g3L10, op1, ou, og, oh, nu, ap1Xu, ng, ap1Xg, auXg, nh, ap1Xh, auXh, agXh, lE⟩ := hP
 try simp only [g3L10]
 exact hk  u _ _ ou nu  lE
 replace op1 := op1.le le9
 refine ob_i (op1.ldn rfl) (ob_i (op1.ldn rfl) ?_)
 replace lE := lE.trans le9
 refine C.c43 (hvc0.le lE) (by first | omega | assumption) (fun  w H11 ow nn13  le12 => ?_)
 have ap1Xw := op1.apart nn13
 have au5Xw : Apt Su5 w := Apt.of_nw ou5.known nn13
 have nw := nn13.le lE
 refine ⟨le12, ?_⟩
 replace lE := lE.trans le12
 refine C.c102 (hvc0.le lE) (by first | omega | assumption) (fun  m H14 om nn16  le15 => ?_)
 replace op1 := op1.le le12
 have ap1Xm := op1.apart nn16
 replace ou5 := ou5.le le12
 have au5Xm : Apt Su5 m := Apt.of_nw ou5.known nn16
 have awXm := ow.apart nn16
 have nm := nn16.le lE
 refine ⟨le15, ?_⟩
 refine bSE_i (enc := encFv) (n := 3) (l := ([⟨r, c, w⟩, ⟨r, c, m⟩] : List Fv)) (by omega) rfl encFv_n (by kernel_rfl) (fun e H17 oe nn18 le20 => ?_)
 replace ou5 := ou5.le le15
 have au5Xe : Apt Su5 e := Apt.of_nw ou5.known nn18
 replace ow := ow.le le15
 have awXe := ow.apart nn18
 have amXe := om.apart nn18
 refine ob_i (a := .int .i64 2) oe.len ?_
 replace op1 := (op1.le le15).le le20
 replace lE := (lE.trans le15).trans le20
 replace ou5 := ou5.le le20
 replace ow := ow.le le20
 replace om := om.le le20
 refine ⟨fun n' σ' H' => ∃ i : Nat, n' = 2 - i ∧ i ≤ 2 ∧ ∃ u, ∃ Su, ∃ g, ∃ h, σ' 3 = u ∧ σ' 11 = e ∧ σ' 12 = (.int .i64 (2)) ∧ σ' 13 = (.int .i64 ((i : Int))) ∧ Cel H' p1 [(.int .i64 (r)), (.int .i64 (c)), vc] ∧ OwnE 3 encFv H' e ([⟨r, c, w⟩, ⟨r, c, m⟩]) ∧ Fam H' u Su (imgs (⟨r, c, l⟩ : FdL) (4 * i)) ∧ Own eI H' g (gL (⟨r, c, l⟩ : FdL) i) ∧ Own eI H' h (hL (⟨r, c, l⟩ : FdL) i) ∧ Nws H Su ∧ Apt p1 Su ∧ Apt e Su ∧ Nw H g ∧ Apart p1 g ∧ Apart e g ∧ Apt Su g ∧ Nw H h ∧ Apart p1 h ∧ Apart e h ∧ Apt Su h ∧ Apart g h ∧ Le H H' ∧ ((i : Int) < 2 → at_ fv0 ([⟨r, c, w⟩, ⟨r, c, m⟩] : List Fv) (i : Int) = ⟨r, c, g⟩) ∧ (i = 0 → h = m),
    ⟨_, 0, rfl, by omega, u5, _, w, m, rfl, rfl, rfl, (congrArg (Value.int .i64) (by first | omega | rfl | (simp; done))), op1, oe, (Fam.cast (by first | rfl | (simp; done)) ou5), (Own.cast (by first | rfl | (simp; done)) ow), (Own.cast (by first | rfl | (simp; done)) om), nu5, ap1Xu5, au5Xe.symm, nw, ap1Xw, awXe.symm, au5Xw, nm, ap1Xm, amXe.symm, au5Xm, awXm, lE, (fun _ => rfl), (fun _ => rfl)⟩, ?_⟩
 rintro n21 σ21 H21 ⟨i, rfl, hiN, u, Su, g, h, g3L21, g11L21, g12L21, g13L21, op1, oe, ou, og, oh, nu, ap1Xu, aeXu, ng, ap1Xg, aeXg, auXg, nh, ap1Xh, aeXh, auXh, agXh, lE, hm0, hm1⟩
 try simp only [g11L21, g12L21, g13L21]
 have hgi := gL_eq (f := (⟨r, c, l⟩ : FdL)) (i := i)
 have hB : okF (imB (⟨r, c, l⟩ : FdL) i) := imB_ok (f := (⟨r, c, l⟩ : FdL)) hf i
 have hiL := imgs_len (⟨r, c, l⟩ : FdL) (4 * i)
 refine ob_i (vInt_lss _ _ _) (cnd_d (fun hg22 => ?_) (fun hg22 => ?_))
 have ti := hg22
 refine jn_i (fun σ' H' => ∃ u, ∃ Su, σ' 3 = u ∧ σ' 11 = e ∧ σ' 12 = (.int .i64 (2)) ∧ σ' 13 = (.int .i64 ((i : Int))) ∧ Cel H' p1 [(.int .i64 (r)), (.int .i64 (c)), vc] ∧ OwnE 3 encFv H' e ([⟨r, c, w⟩, ⟨r, c, m⟩]) ∧ Fam H' u Su (imgs (⟨r, c, l⟩ : FdL) (4 * (i + 1))) ∧ Own eI H' h (hL (⟨r, c, l⟩ : FdL) i) ∧ Nws H Su ∧ Apt p1 Su ∧ Apt e Su ∧ Apt Su h ∧ Le H H') (fun σ23 H23 hP => ?_) (fun J23 hJ23 => ?_)
 obtain ⟨u, Su, g3L23, g11L23, g12L23, g13L23, op1, oe, ou, oh, nu, ap1Xu, aeXu, auXh, lE⟩ := hP
 try simp only [g13L23]
 refine ob_i (vInt_add (by omega) (by omega)) ?_
 exact nxt (2 - (i + 1)) (by omega) ⟨i + 1, rfl, by omega, u, _, h, _, g3L23, g11L23, g12L23, (congrArg (Value.int .i64) (by first | omega | rfl | (simp; done))), op1, oe, ou, (Own.cast (hgL (⟨r, c, l⟩ : FdL) i) oh), (Own.cast (by simp [hL]) (Own.nil_of none)), nu, ap1Xu, aeXu, nh, ap1Xh, aeXh, auXh, (fun b hb => by simp [bk] at hb), (fun b _ hb => by simp [bk] at hb), (fun b _ hb => by simp [bk] at hb), Apt.nil_r, (fun b _ hb => by simp [bk] at hb), lE, (fun hlt => by obtain rfl : i = 0 := (by omega); rw [hm1 rfl]; first | done | rfl), (fun h0 => absurd h0 (by omega))⟩
 refine ob_i ((oe.sl encFv_n).ix encFv_n (by omega) (by omega) (by first | omega | (simp only [List.length_cons, List.length_nil]; omega))) (ob_i (a := (.agg #[(.int .i64 (r)), (.int .i64 (c)), g])) (by rw [(oe.sl encFv_n).ldn (i := (i : Int)) encFv_n (by omega) fv0 (by omega) (by show _ < ((2 : Nat) : Int); omega), hm0 (by omega)]; try rfl) ?_)
 refine nw_i (fun q H24 oq nn25 le26 => ?_)
 have ap1Xq := op1.apart nn25
 have aeXq := oe.apart nn25
 have auXq : Apt Su q := Apt.of_nw ou.known nn25
 have agXq := og.apart nn25
 have ahXq := oh.apart nn25
 have nq := nn25.le lE
 replace og := og.le le26
 refine oq.stn (ws := [(.int .i64 (r)), (.int .i64 (c)), g]) rfl rfl (oc1 rfl (oc1 rfl (oc1 og.one oc0))) (fun H27 oq off28 => ?_)
 replace op1 := (op1.le le26).off off28 ap1Xq
 replace oe := (oe.le le26).off off28 aeXq
 replace ou := (ou.le le26).off off28 auXq
 replace oh := (oh.le le26).off off28 ahXq
 replace lE := off28.le (lE.trans le26) nq
 replace og := og.off off28 agXq
 refine ⟨fun n' σ' H' => ∃ k : Nat, n' = 4 - k ∧ k ≤ 4 ∧ ∃ u, ∃ Su, ∃ x, σ' 3 = u ∧ σ' 5 = q ∧ σ' 11 = e ∧ σ' 12 = (.int .i64 (2)) ∧ σ' 13 = (.int .i64 ((i : Int))) ∧ σ' 17 = (.int .i64 ((k : Int))) ∧ Cel H' p1 [(.int .i64 (r)), (.int .i64 (c)), vc] ∧ OwnE 3 encFv H' e ([⟨r, c, w⟩, ⟨r, c, m⟩]) ∧ Fam H' u Su (imgs (⟨r, c, l⟩ : FdL) (4 * i + k)) ∧ Own eI H' h (hL (⟨r, c, l⟩ : FdL) i) ∧ Cel H' q [(.int .i64 ((imK (imB (⟨r, c, l⟩ : FdL) i) k).r)), (.int .i64 ((imK (imB (⟨r, c, l⟩ : FdL) i) k).c)), x] ∧ Own eI H' x ((imK (imB (⟨r, c, l⟩ : FdL) i) k).l) ∧ Nws H Su ∧ Apt p1 Su ∧ Apt e Su ∧ Apt Su h ∧ Apt Su q ∧ Nw H x ∧ Apart p1 x ∧ Apart e x ∧ Apt Su x ∧ Apart h x ∧ Apart q x ∧ Le H H',
    ⟨_, 0, rfl, by omega, u, _, g, g3L21, rfl, g11L21, g12L21, g13L21, (congrArg (Value.int .i64) (by first | omega | rfl | (simp; done))), op1, oe, (Fam.cast (by first | rfl | (simp; done)) ou), oh, (Cel.cast (by show _ = [Value.int .i64 (imB (⟨r, c, l⟩ : FdL) i).r, .int .i64 (imB (⟨r, c, l⟩ : FdL) i).c, g]; rw [imB_r, imB_c]) oq), (Own.cast (hgi (by omega)) og), nu, ap1Xu, aeXu, auXh, auXq, ng, ap1Xg, aeXg, auXg, agXh.symm, agXq.symm, lE⟩, ?_⟩
 rintro n29 σ29 H29 ⟨k, rfl, hkN, u, Su, x, g3L29, g5L29, g11L29, g12L29, g13L29, g17L29, op1, oe, ou, oh, oq, ox, nu, ap1Xu, aeXu, auXh, auXq, nx, ap1Xx, aeXx, auXx, ahXx, aqXx, lE⟩
 try simp only [g3L29, g5L29, g17L29]
 have hK : fieldN 1 (imK (imB (⟨r, c, l⟩ : FdL) i) k).r (imK (imB (⟨r, c, l⟩ : FdL) i) k).c (imK (imB (⟨r, c, l⟩ : FdL) i) k).l := imK_ok hB k
 have lK := fieldN_len hK
 have hiL2 := imgs_len (⟨r, c, l⟩ : FdL) (4 * i + k)
 refine ob_i (vInt_lss _ _ _) (cnd_d (fun hg30 => ?_) (fun hg30 => ?_))
 have tk := hg30
 refine ob_i (oq.ldn rfl) (bSE_one (enc := encFv) (x := (⟨(imK (imB (⟨r, c, l⟩ : FdL) i) k).r, (imK (imB (⟨r, c, l⟩ : FdL) i) k).c, x⟩ : Fv)) rfl rfl (by omega) (by omega) rfl (fun u31 H32 ou31 nn33 le35 => ?_) rfl)
 replace ou := ou.le le35
 replace ox := ox.le le35
 refine Fam.push ou rfl (ou31.sl encFv_n) ox auXx.symm (by omega) (by first | omega | (simp; omega)) (fun u40 Su40 H36 ou40 off37 hb38 hx39 oxx => ?_)
 replace op1 := op1.le le35
 have ap1Xu40 : Apt p1 Su40 := Apt.push op1.known ap1Xu ap1Xx hb38
 replace oe := oe.le le35
 have aeXu40 : Apt e Su40 := Apt.push oe.known aeXu aeXx hb38
 replace oh := oh.le le35
 have ahXu40 : Apt h Su40 := Apt.push oh.known auXh.symm ahXx hb38
 replace oq := oq.le le35
 have aqXu40 : Apt q Su40 := Apt.push oq.known auXq.symm aqXx hb38
 replace lE := lE.trans le35
 have nu40 : Nws H Su40 := Nws.push lE nu nx hb38
 replace ox := oxx.ro
 replace oq := oq.offS off37 auXq.symm
 refine ob_i (oq.ldn rfl) (C.c101 ox.sl (by first | omega | assumption) (fun  u43 H41 ou43 nn44  le42 => ?_))
 replace op1 := op1.offS off37 ap1Xu
 have ap1Xu43 := op1.apart nn44
 replace oe := oe.offS off37 aeXu
 have aeXu43 := oe.apart nn44
 replace oh := oh.offS off37 auXh.symm
 have ahXu43 := oh.apart nn44
 have aqXu43 := oq.apart nn44
 have au40Xu43 : Apt Su40 u43 := Apt.of_nw ou40.known nn44
 replace lE := off37.le lE nu
 have nu43 := nn44.le lE
 replace oq := oq.le le42
 refine oq.stn (ws := [(.int .i64 (((imK (imB (⟨r, c, l⟩ : FdL) i) k).c))), (.int .i64 (((imK (imB (⟨r, c, l⟩ : FdL) i) k).r))), u43]) rfl rfl (oc1 rfl (oc1 rfl (oc1 ou43.one oc0))) (fun H45 oq off46 => ?_)
 refine ob_i (vInt_add (by omega) (by omega)) ?_
 replace op1 := (op1.le le42).off off46 ap1Xq
 replace oe := (oe.le le42).off off46 aeXq
 replace oh := (oh.le le42).off off46 ahXq
 replace ou40 := (ou40.le le42).off off46 aqXu40.symm
 replace lE := off46.le (lE.trans le42) nq
 replace ou43 := ou43.off off46 aqXu43.symm
 exact nxt (4 - (k + 1)) (by omega) ⟨k + 1, rfl, by omega, u40, _, u43, rfl, g5L29, g11L29, g12L29, g13L29, (congrArg (Value.int .i64) (by first | omega | rfl | (simp; done))), op1, oe, (Fam.cast (imgs_succ (⟨r, c, l⟩ : FdL) (by omega)) ou40), oh, oq, ou43, nu40, ap1Xu40, aeXu40, ahXu40.symm, aqXu40.symm, nu43, ap1Xu43, aeXu43, au40Xu43, ahXu43, aqXu43, lE⟩
 have tk := hg30
 obtain rfl : k = 4 := by omega
 exact hJ23 _ _ ⟨u, _, g3L29, g11L29, g12L29, g13L29, op1, oe, ou, oh, nu, ap1Xu, aeXu, auXh, lE⟩
 have ti := hg22
 obtain rfl : i = 2 := by omega
 exact hJ10 _ _ ⟨u, _, g, h, g3L21, op1, ou, og, oh, nu, ap1Xu, ng, ap1Xg, auXg, nh, ap1Xh, auXh, agXh, lE⟩

end Go.Proofs.YtnijdhlmimemcaaGreatDoor
/- Names of fields. -/
namespace Go.Proofs.YtnijdhlmimemcaaGreatDoor
open HL
set_option maxRecDepth 100000
attribute [local irreducible] vStr
theorem C.c105 {v : Value} {ls : List (List UInt8)}  {H : Hp} {K : Value → Hp → Prop} (hv0 : Sl vS H v ls) (h1 : 1 ≤ ls.length) (h2 : ls.length ≤ 9223372036854775807)
    (hk : ∀ H', Le H H' → K (vS (minF ls)) H') : HT prg 106 [v].toArray H K := by
 have lE := Le.refl H
 refine R.q106 ?_
 unfold F.q106
 refine jn_i (fun σ' H' => σ' 0 = v ∧ Le H H') (fun σ1 H1 hP => ?_) (fun J1 hJ1 => ?_)
 obtain ⟨g0L1, lE⟩ := hP
 try simp only [g0L1]
 refine ob_i ((hv0.le lE).ix (by omega) (by omega)) (ob_i ((hv0.le lE).ld [] (by omega) (by omega)) (jn_i (fun σ' H' => σ' 3 = (vS (minF ls)) ∧ Le H H') (fun σ2 H2 hP => ?_) (fun J2 hJ2 => ?_)))
 obtain ⟨g3L2, lE⟩ := hP
 try simp only [g3L2]
 exact hk   _    lE
 refine ⟨fun n' σ' H' => ∃ i : Nat, n' = ls.length - i ∧ i ≤ ls.length ∧ σ' 0 = v ∧ σ' 3 = (vS (minF (ls.take (i + 1)))) ∧ σ' 4 = (.int .i64 ((i : Int) + 1)) ∧ Le H H' ∧ i + 1 ≤ ls.length,
    ⟨_, 0, rfl, by omega, g0L1, (congrArg vS (minF_take1 h1).symm), (congrArg (Value.int .i64) (by first | omega | rfl | (simp; done))), lE, (by omega)⟩, ?_⟩
 rintro n3 σ3 H3 ⟨i, rfl, hiN, g0L3, g3L3, g4L3, lE, hle⟩
 try simp only [g0L3, g3L3, g4L3]
 refine ob_i ((hv0.le lE).len) (ob_i (vInt_lss _ _ _) (cnd_d (fun hg4 => ?_) (fun hg4 => ?_)))
 have ti := hg4
 refine ob_i ((hv0.le lE).ix (by omega) (by omega)) (ob_i ((hv0.le lE).ld [] (by omega) (by omega)) (min_tr ?_))
 refine ob_i (vInt_add (by omega) (by omega)) ?_
 exact nxt (ls.length - (i + 1)) (by omega) ⟨i + 1, rfl, by omega, g0L3, (congrArg vS (minF_take (by omega) (by omega)).symm), (congrArg (Value.int .i64) (by first | omega | rfl | (simp; done))), lE, (by omega)⟩
 have ti := hg4
 exact hJ2 _ _ ⟨(g3L3.trans (congrArg vS (by rw [List.take_of_length_le (by omega)]))), lE⟩
 refine ob_i ((hv0.le lE).len) (ob_i (vInt_lss _ _ _) (cnd_d (fun hg5 => ?_) (fun hg5 => ?_)))
 exact absurd hg5 ((by omega))
 exact hJ1 _ _ ⟨rfl, lE⟩

theorem C.c106 {vc : Value} {r c : Int} {l : List Int}  {H : Hp} {K : Value → Hp → Prop} (hvc0 : Sl eI H vc l) (hf : fieldN 1 r c l)
    (hk : ∀ H', Le H H' → K (vS (nameT r c l)) H') : HT prg 68 [(.agg #[(.int .i64 (r)), (.int .i64 (c)), vc])].toArray H K := by
 have lE := Le.refl H
 refine R.q68 ?_
 unfold F.q68
 have hs := hf.1
 have hl := hf.2.1
 have q1 := hs.1
 have q2 := hs.2
 have qm := sidesF_mul hs
 have l1 := fieldN_len hf
 have il := imgs_len (⟨(trR r c l), (trC r c l), (trL r c l)⟩ : FdL) 8
 refine nw_i (fun p1 H2 op1 nn3 le4 => ?_)
 replace op1 : Cel H2 p1 [(.int .i64 (r)), (.int .i64 (c)), vc] := op1
 refine ob_i (op1.ldn rfl) ?_
 replace lE := lE.trans le4
 refine C.c33 (hvc0.le lE) (by first | omega | assumption) (by first | omega | assumption) (fun hc5  H6    le7 => ?_) (fun hc8 u11 H9 ou11 nn12  le10 => ?_)
 refine ob_i (vExt_40 _ _ _ _) (ob_i (vExt_41 _ _ _ _) (ob_i (vExt_42 _ _ _ _) (ob_i (vExt_43 _ _ _ _) (nw_i (fun pt H13 opt nn14 le15 => ?_)))))
 replace lE := lE.trans le7
 have npt := nn14.le lE
 refine opt.stn (ws := [(.int .i64 (0)), (.int .i64 (0)), (.slice none 0 0)]) rfl rfl (oc1 rfl (oc1 rfl (oc1 rfl oc0))) (fun H16 opt off17 => ?_)
 refine ob_i (a := .bool true) rfl ?_
 refine cnd_t1 ?_
 replace lE := off17.le (lE.trans le15) npt
 exact keq (K := K) (by rw [show (nameT r c l) = (([] : List UInt8)) from by exact nameT_f hc5]; try rfl) (hk   _    lE)
 have hpos := hc8
 refine ob_i (vExt_40 _ _ _ _) (ob_i (vExt_41 _ _ _ _) (ob_i (vExt_42 _ _ _ _) (ob_i (vExt_43 _ _ _ _) (nw_i (fun pt H18 opt nn19 le20 => ?_)))))
 replace op1 := op1.le le10
 have ap1Xpt := op1.apart nn19
 have au11Xpt := ou11.apart nn19
 replace lE := lE.trans le10
 have npt := nn19.le lE
 replace ou11 := ou11.le le20
 refine opt.stn (ws := [(.int .i64 (trR r c l)), (.int .i64 (trC r c l)), u11]) rfl rfl (oc1 rfl (oc1 rfl (oc1 ou11.one oc0))) (fun H21 opt off22 => ?_)
 refine ob_i (a := .bool false) rfl ?_
 refine cnd_f1 (bS_nil (enc := vS) (fun ts H23 ots nn24 kk25 le26 => ?_))
 replace op1 := (op1.le le20).off off22 ap1Xpt
 have ap1Xts := op1.apart nn24
 replace ou11 := ou11.off off22 au11Xpt
 have au11Xts := ou11.apart nn24
 have aptXts := opt.apart nn24
 replace lE := off22.le (lE.trans le20) npt
 have nts := nn24.le lE
 refine jn_i (fun σ' H' => ∃ ts, σ' 7 = ts ∧ Cel H' p1 [(.int .i64 (r)), (.int .i64 (c)), vc] ∧ Own eI H' u11 (trL r c l) ∧ Cel H' pt [(.int .i64 (trR r c l)), (.int .i64 (trC r c l)), u11] ∧ Own vS H' ts (imT (tmF r c l) 8) ∧ Nw H ts ∧ Apart p1 ts ∧ Apart u11 ts ∧ Apart pt ts ∧ Le H H') (fun σ27 H27 hP => ?_) (fun J27 hJ27 => ?_)
 replace op1 := op1.le le26
 replace ou11 := ou11.le le26
 replace opt := opt.le le26
 replace lE := lE.trans le26
 obtain ⟨ts, g7L27, op1, ou11, opt, ots, nts, ap1Xts, au11Xts, aptXts, lE⟩ := hP
 try simp only [g7L27]
 refine C.c105 ots.sl (by rw [imT_len]; omega) (by rw [imT_len]; omega) (fun   H28    le29 => ?_)
 replace lE := lE.trans le29
 exact keq (K := K) (by rw [show (nameT r c l) = (minF (imT (tmF r c l) 8)) from by exact nameT_t hpos]; try rfl) (hk   _    lE)
 replace opt := opt.le le26
 refine ob_i (opt.ldn rfl) ?_
 replace ou11 := ou11.le le26
 refine C.c104 ou11.sl (by exact trF_ok hf hpos) (fun  im Sim H30 oim nn32  le31 => ?_)
 have atsXim : Apt ts Sim := Apt.of_nws ots.known nn32
 refine ob_i (oim.len) ?_
 replace op1 := (op1.le le26).le le31
 replace lE := (lE.trans le26).trans le31
 replace ou11 := ou11.le le31
 replace opt := opt.le le31
 replace ots := ots.le le31
 refine ⟨fun n' σ' H' => ∃ i : Nat, n' = 8 - i ∧ i ≤ 8 ∧ ∃ ts, σ' 7 = ts ∧ σ' 21 = im ∧ σ' 22 = (.int .i64 (((imgs (⟨(trR r c l), (trC r c l), (trL r c l)⟩ : FdL) 8).length : Int))) ∧ σ' 23 = (.int .i64 ((i : Int))) ∧ Cel H' p1 [(.int .i64 (r)), (.int .i64 (c)), vc] ∧ Own eI H' u11 (trL r c l) ∧ Cel H' pt [(.int .i64 (trR r c l)), (.int .i64 (trC r c l)), u11] ∧ Own vS H' ts (imT (tmF r c l) i) ∧ Fam H' im Sim (imgs (⟨(trR r c l), (trC r c l), (trL r c l)⟩ : FdL) 8) ∧ Nw H ts ∧ Apart p1 ts ∧ Apart u11 ts ∧ Apart pt ts ∧ Apt ts Sim ∧ Le H H',
    ⟨_, 0, rfl, by omega, ts, rfl, rfl, rfl, (congrArg (Value.int .i64) (by first | omega | rfl | (simp; done))), op1, ou11, opt, (Own.cast (by first | rfl | (simp; done)) ots), oim, nts, ap1Xts, au11Xts, aptXts, atsXim, lE⟩, ?_⟩
 rintro n33 σ33 H33 ⟨i, rfl, hiN, ts, g7L33, g21L33, g22L33, g23L33, op1, ou11, opt, ots, oim, nts, ap1Xts, au11Xts, aptXts, atsXim, lE⟩
 try simp only [g7L33, g21L33, g22L33, g23L33]
 have tl := imT_len (f := (tmF r c l)) (n := i)
 refine ob_i (vInt_lss _ _ _) (cnd_d (fun hg34 => ?_) (fun hg34 => ?_))
 have ti := hg34
 obtain ⟨P35, y36, hb37a, oP35, oy36, hb37p, hb37x⟩ := oim.el (i := (i : Int)) (f := ⟨(imF (tmF r c l) i).r, (imF (tmF r c l) i).c, (imF (tmF r c l) i).l⟩) (by omega) (by first | omega | (simp; omega)) (imF_at (f := (tmF r c l)) (by omega))
 replace oP35 : CelR H33 P35 [(.int .i64 ((imF (tmF r c l) i).r)), (.int .i64 ((imF (tmF r c l) i).c)), y36] := oP35
 replace oy36 : Ro eI H33 y36 ((imF (tmF r c l) i).l) := oy36
 refine ob_i (hb37a) (ob_i (oP35.ldn rfl) (nw_i (fun p38 H39 op38 nn40 le41 => ?_)))
 have ap1Xp38 := op1.apart nn40
 have au11Xp38 := ou11.apart nn40
 have aptXp38 := opt.apart nn40
 have atsXp38 := ots.apart nn40
 have aimXp38 : Apt Sim p38 := Apt.of_nw oim.known nn40
 have ay36Xp38 := oy36.apart nn40
 have np38 := nn40.le lE
 replace oy36 := oy36.le le41
 refine op38.stn (ws := [(.int .i64 ((imF (tmF r c l) i).r)), (.int .i64 ((imF (tmF r c l) i).c)), y36]) rfl rfl (oc1 rfl (oc1 rfl (oc1 oy36.one oc0))) (fun H42 op38 off43 => ?_)
 refine ob_i (op38.ldn rfl) ?_
 replace oy36 := oy36.off off43 ay36Xp38
 refine C.c96 oy36.sl (by exact imF_ok (f := (tmF r c l)) (trF_ok hf hpos) i) (fun   H44    le45 => ?_)
 refine bS_i (enc := vS) (l := [fieldT ((imF (tmF r c l) i).r) ((imF (tmF r c l) i).c) ((imF (tmF r c l) i).l)]) (by omega) rfl (by kernel_rfl) (fun u46 H47 ou46 nn48 le50 => ?_)
 replace ots := (((ots.le le41).off off43 atsXp38).le le45).le le50
 refine apd_any ots ou46.sl (fun _ => rfl) (by omega) (by first | omega | (simp only [List.length_cons, List.length_nil]; omega)) (fun u54 H51 ou54 off52 hb53 => ?_)
 replace op1 := (((op1.le le41).off off43 ap1Xp38).le le45).le le50
 have ap1Xu54 := Apart.ap2 op1.known ap1Xts hb53
 replace ou11 := (((ou11.le le41).off off43 au11Xp38).le le45).le le50
 have au11Xu54 := Apart.ap2 ou11.known au11Xts hb53
 replace opt := (((opt.le le41).off off43 aptXp38).le le45).le le50
 have aptXu54 := Apart.ap2 opt.known aptXts hb53
 replace oim := (((oim.le le41).off off43 aimXp38).le le45).le le50
 have aimXu54 := Apt.ap2 oim.known atsXim.symm hb53
 replace lE := ((off43.le (lE.trans le41) np38).trans le45).trans le50
 have nu54 : Nw H u54 := Nw.ap2 nts lE hb53
 refine ob_i (vInt_add (by omega) (by omega)) ?_
 replace op1 := op1.off off52 ap1Xts
 replace ou11 := ou11.off off52 au11Xts
 replace opt := opt.off off52 aptXts
 replace oim := oim.off off52 atsXim.symm
 replace lE := off52.le lE nts
 exact nxt (8 - (i + 1)) (by omega) ⟨i + 1, rfl, by omega, u54, rfl, g21L33, g22L33, (congrArg (Value.int .i64) (by first | omega | rfl | (simp; done))), op1, ou11, opt, (Own.cast imT_succ.symm ou54), oim, nu54, ap1Xu54, au11Xu54, aptXu54, aimXu54.symm, lE⟩
 have ti := hg34
 obtain rfl : i = 8 := by omega
 exact hJ27 _ _ ⟨ts, g7L33, op1, ou11, opt, ots, nts, ap1Xts, au11Xts, aptXts, lE⟩

end Go.Proofs.YtnijdhlmimemcaaGreatDoor
/- The library's sort: from the given contract to what a partial heap knows. -/
namespace Go.Proofs.YtnijdhlmimemcaaGreatDoor
open HL
set_option maxRecDepth 100000
namespace HL
open Go.Sort in
theorem HT_sort {α : Type} [Inhabited α] {P : Program} {f : FuncId} {enc : α → Value} {v : Value} {l m : List α} {H : Hp} {K : Value → Hp → Prop} (ho : Own enc H v l) (hl : 0 < l.length) (hm : m.length = l.length)
    (hc : ∀ (blk off cap : Nat) (w : World), Holds enc w blk off l.toArray → blk < w.heap.size → Calls P f #[.slice (some ⟨blk, off, none⟩) l.length cap] w fun e w' =>
      e = .returned (.tuple #[]) ∧ ∃ n os, w' = grow (putRow enc (Go.Sort.ahead w n) blk off m.toArray) os)
    (hk : ∀ H', Own enc H' v m → Off v H H' → K (.tuple #[]) H') : HT P f #[v] H K := by
  obtain ⟨a, c, rfl, hlc, hr⟩ := ho
  obtain ⟨b, off, cs, e, rfl, hb, hs, hcs⟩ := hr (by omega)
  intro w hw
  have hwb := hw b _ hb
  have hbs : b < w.heap.size := by
    rcases Nat.lt_or_ge b w.heap.size with h | h
    · exact h
    · rw [Array.getElem?_eq_none h] at hwb; exact absurd hwb (by simp)
  have hH : Holds enc w b off l.toArray := fun j hj => by
    have hj' : j < l.length := by simpa using hj
    refine ⟨?_, ?_⟩
    · simp only [World.cell?, hwb]
      rw [getElem!_pos _ j hj]
      simpa using hcs j hj'
    · rw [hw.frozen (a := ⟨b, off + j, none⟩) hb]
      simp only [Hp.frozen?, hb]
      rfl
  refine (hc b off c w hH hbs).mono fun e' w' ⟨he, n, os, hw'⟩ => ?_
  subst hw'
  have hmod : ∀ x, x < w.heap.size → (grow (putRow enc (Go.Sort.ahead w n) b off m.toArray) os).heap[x]? = if b = x then (w.heap[x]?).map (onCells (putCells enc off m.toArray)) else w.heap[x]? := fun x hx => by
    simp only [grow, putRow, mapBlock, Go.Sort.ahead]
    rw [Array.getElem?_append_left (by simpa using hx), Array.getElem?_modify]
  have hsz : (grow (putRow enc (Go.Sort.ahead w n) b off m.toArray) os).heap.size = w.heap.size + os.size := by
    simp only [grow, putRow, mapBlock, Go.Sort.ahead, Array.size_append, Array.size_modify]
  refine ⟨.tuple #[], H.put b (.cells (putCells enc off m.toArray cs) e (0, 0)), he, fun x o hx => ?_, ⟨by omega, fun x hx hn => ?_, rfl, rfl, rfl⟩, hk _ ⟨_, c, by rw [hm], by omega, fun _ => ⟨b, off, _, e, rfl, Hp.put_same _ _ _, by simpa [putCells] using hs, fun i hi => ?_⟩⟩ (fun x o hx hv => ?_)⟩
  · by_cases hxb : x = b
    · subst hxb
      rw [Hp.put_same] at hx
      rw [hmod x hbs, if_pos rfl, hwb]
      simpa [onCells] using hx
    · rw [Hp.put_ne _ _ hxb] at hx
      have hwx := hw x o hx
      have hxs : x < w.heap.size := by
        rcases Nat.lt_or_ge x w.heap.size with h | h
        · exact h
        · rw [Array.getElem?_eq_none h] at hwx; exact absurd hwx (by simp)
      rw [hmod x hxs, if_neg (Ne.symm hxb)]
      exact hwx
  · have hxb : x ≠ b := by rintro rfl; rw [hb] at hn; exact absurd hn (by simp)
    rw [Hp.put_ne _ _ hxb, hmod x hx, if_neg (Ne.symm hxb)]
    exact ⟨hn, rfl⟩
  · have : off + i < cs.size := by omega
    simp only [putCells, Array.getElem?_mapIdx, Array.getElem?_eq_getElem this, Option.map_some]
    rw [if_pos ⟨by omega, by simp; omega⟩, show off + i - off = i by omega, getElem!_pos _ i (by simpa using hi)]
    simp
  · have hxb : x ≠ b := by
      rintro rfl
      refine hv ?_
      simp only [bk]
      rw [if_neg (by omega)]
    rw [Hp.put_ne _ _ hxb]
    exact hx
end HL
end Go.Proofs.YtnijdhlmimemcaaGreatDoor
/- The names of a field's parts; the library's sort of texts. -/
namespace Go.Proofs.YtnijdhlmimemcaaGreatDoor
open HL
variable {t : Nat} {H : Hp} {K : Value → Hp → Prop}
set_option maxRecDepth 100000
section
variable {r c : Int} {l : List Int} {L : List Nat}
theorem aloL_01 (s : Nat) : ∀ x ∈ aloL c l s, 0 ≤ x ∧ x ≤ 1 := fun x hx => by
  simp only [aloL, List.mem_map] at hx
  obtain ⟨j, _, rfl⟩ := hx
  split <;> omega
theorem prtF_ok (hf : fieldN 1 r c l) {s : Nat} (h : onP l s) : fieldN 1 (prtF r c l s).r (prtF r c l s).c (prtF r c l s).l :=
  trF_ok (l := aloL c l s) ⟨hf.1, by rw [aloL_len]; exact hf.2.1, aloL_01 s⟩ (alo_pos hf.1 hf.2.1 h)
/-- A part's name. -/
noncomputable def nmP (r c : Int) (l : List Int) (s : Nat) : Txt := nameT (prtF r c l s).r (prtF r c l s).c (prtF r c l s).l
noncomputable def nmL (r c : Int) (l : List Int) (L : List Nat) : List Txt := L.map (nmP r c l)
theorem nmL_len : (nmL r c l L).length = L.length := by simp [nmL]
theorem nmL_take (ht : t < L.length) : nmL r c l (L.take (t + 1)) = nmL r c l (L.take t) ++ [nameT (prtF r c l (at_ 0 L (t : Int))).r (prtF r c l (at_ 0 L (t : Int))).c (prtF r c l (at_ 0 L (t : Int))).l] := by
  rw [take_at 0 L ht]
  simp [nmL, nmP]
theorem prt_at (ht : t < L.length) : at_ fd0 (prtL r c l L) (t : Int) = ⟨(prtF r c l (at_ 0 L (t : Int))).r, (prtF r c l (at_ 0 L (t : Int))).c, (prtF r c l (at_ 0 L (t : Int))).l⟩ := by
  rw [at_eq fd0 _ (by simpa [prtL] using ht), at_eq 0 L ht]
  simp [prtL]
theorem part_ok (hf : fieldN 1 r c l) {t : Nat} (ht : t < (stsL c l l.length).length) : fieldN 1 (prtF r c l (at_ 0 (stsL c l l.length) (t : Int))).r (prtF r c l (at_ 0 (stsL c l l.length) (t : Int))).c (prtF r c l (at_ 0 (stsL c l l.length) (t : Int))).l :=
  prtF_ok hf (stsL_on (at_mem 0 _ (i := (t : Int)) (by omega) (by omega))).1
end
theorem C.c107 {vc : Value} {r c : Int} {l : List Int} (hvc : Sl eI H vc l) (k1 : l.length ≤ 9223372036854775807)
    (hk1 : fieldN 1 r c l → ∀ u1 S1 u2 H', Fam H' u1 S1 (prtL r c l (stsL c l l.length)) → Own eI H' u2 (plcL r c l (stsL c l l.length)) → Nws H S1 → Nw H u2 → Apt S1 u2 → Le H H' → K (.tuple #[u1, u2, .bool true]) H')
    (hk2 : ¬ fieldN 1 r c l → ∀ u1 u2 H', Le H H' → K (.tuple #[u1, u2, .bool false]) H') : HT prg 67 [.agg #[.int .i64 r, .int .i64 c, vc]].toArray H K := by
  refine C.c81 hvc k1 (fun u1 S1 u2 H' o1 o2 n1 n2 a le => ?_)
  by_cases h : fieldN 1 r c l
  · rw [selL_t h] at o1 o2
    rw [decide_eq_true h]
    exact hk1 h u1 S1 u2 H' o1 o2 n1 n2 a le
  · rw [decide_eq_false h]
    exact hk2 h u1 u2 H' le
theorem C.c108 (hk : K (.int .i64 0) H) : HT prg 108 [.int .u64 0].toArray H K := by
 refine R.q108 ?_
 unfold F.q108
 refine cnd_f1 (R.q137 ?_)
 unfold F.q137
 refine jn_i (fun σ H' => σ 0 = .int .u64 0 ∧ σ 2 = .int .i64 0 ∧ H' = H) (fun σ H1 hP => ?_) (fun J hJ => ?_)
 obtain ⟨g0, g2, rfl⟩ := hP
 refine jn_i (fun σ' H' => σ' 0 = .int .u64 0 ∧ σ' 2 = .int .i64 0 ∧ H' = H1) (fun σ2 H2 hP => ?_) (fun J2 hJ2 => ?_)
 obtain ⟨g0, g2, rfl⟩ := hP
 rw [g0, g2]
 refine ob_i (a := .bool false) (by kernel_rfl) ?_
 refine cnd_f1 (ob_i (a := .int .u8 0) (by kernel_rfl) ?_)
 refine ob_i (a := .int .u8 0) (by kernel_rfl) ?_
 refine ob_i (a := .int .i64 0) (by kernel_rfl) ?_
 refine ob_i (a := .int .i64 0) (by kernel_rfl) ?_
 exact hk
 rw [g0, g2]
 refine ob_i (a := .bool false) (by kernel_rfl) ?_
 exact cnd_f1 (hJ2 _ _ ⟨g0, g2, rfl⟩)
 refine ob_i (a := .bool false) (by kernel_rfl) ?_
 exact cnd_f1 (hJ _ _ ⟨rfl, rfl, rfl⟩)

theorem C.c109 {v : Value} {ls : List Txt} (ho : Own vS H v ls) (hl : ls.length ≤ 1000000) (hk : ∀ H', Own vS H' v (srtT ls) → Off v H H' → K (.tuple #[]) H') : HT prg 69 [v].toArray H K := by
 rcases Nat.eq_zero_or_pos ls.length with h | h
 obtain rfl : ls = [] := List.length_eq_zero_iff.mp h
 have hs : srtT ([] : List Txt) = [] := by simp [srtT]
 refine R.q69 ?_
 unfold F.q69
 refine ob_i ho.len (ob_i (a := .int .u64 0) (by kernel_rfl) ?_)
 refine C.c108 ?_
 refine R.q107 ?_
 unfold F.q107
 refine ⟨fun n σ H' => n = 0 ∧ σ 0 = v ∧ σ 1 = .int .i64 0 ∧ σ 2 = .int .i64 0 ∧ H' = H, ⟨0, rfl, rfl, rfl, rfl, rfl⟩, ?_⟩
 rintro n σ H1 ⟨rfl, g0, g1, g2, rfl⟩
 simp only [g0, g1, g2]
 refine ob_i (a := .int .i64 0) (by kernel_rfl) ?_
 refine ob_i (a := .bool true) (by kernel_rfl) ?_
 refine cnd_t1 (R.q127 ?_)
 unfold F.q127
 refine ob_i (a := .int .i64 1) (by kernel_rfl) ?_
 refine ⟨fun n σ H' => n = 0 ∧ σ 6 = .int .i64 1 ∧ σ 2 = .int .i64 0 ∧ H' = H1, ⟨0, rfl, rfl, rfl, rfl⟩, ?_⟩
 rintro n σ H2 ⟨rfl, g6, g2, rfl⟩
 simp only [g6, g2]
 refine ob_i (a := .bool false) (by kernel_rfl) ?_
 refine cnd_f1 ?_
 exact hk H2 (by rw [hs]; exact ho) (Off.of_le (Le.refl H2))
 exact HT_sort ho h (srtT_len ls) (fun blk off cap w hH hb => sortT_calls blk off cap ls w hH hb (by omega)) hk

end Go.Proofs.YtnijdhlmimemcaaGreatDoor
/- A census of a field's parts: the program's, and the reference's. -/
namespace Go.Proofs.YtnijdhlmimemcaaGreatDoor
open HL
variable {p vc : Value} {r c : Int} {l : List Int} {H : Hp} {K : Value → Hp → Prop}
set_option maxRecDepth 100000
attribute [local irreducible] vStr
theorem C.c110 {row col rows cols : Int} (hp0 : CelR H p [.int .i64 r, .int .i64 c, vc]) (hvc0 : Sl eI H vc l) (hs : sidesF r c) (hl : (l.length : Int) = r * c)
    (h0 : 0 ≤ row) (h1 : 0 ≤ col) (h2 : 1 ≤ rows) (h3 : 1 ≤ cols) (h4 : row + rows ≤ r) (h5 : col + cols ≤ c) (hk : ∀ u H', Own eI H' u (mkL cols (cutG c l row col) (rows.toNat * cols.toNat)) → Nw H u → Le H H' → K (.agg #[.int .i64 rows, .int .i64 cols, u]) H') :
    HT prg 139 [p, .int .i64 row, .int .i64 col, .int .i64 rows, .int .i64 cols].toArray H K := by
 have q1 := hs.1
 have q2 := hs.2
 have lE := Le.refl H
 refine R.q139 ?_
 unfold F.q139
 refine nw_i (fun q H1 oq nn2 le3 => ?_)
 have nq := nn2.le lE
 replace oq : Cel H1 q [(.int .i64 (0)), (.int .i64 (0)), (.slice none 0 0)] := oq
 refine C.c23 (by omega) (by omega) (by omega) (by omega) (fun u H4 ou nn6  le5 => ?_)
 have aqXu := oq.apart nn6
 replace lE := lE.trans le3
 have nu := nn6.le lE
 refine nw_i (fun s H7 os nn8 le9 => ?_)
 replace oq := oq.le le5
 have aqXs := oq.apart nn8
 have auXs := ou.apart nn8
 replace lE := lE.trans le5
 have ns := nn8.le lE
 replace ou := ou.le le9
 refine os.stn (ws := [(.int .i64 (rows)), (.int .i64 (cols)), u]) rfl rfl (oc1 rfl (oc1 rfl (oc1 ou.one oc0))) (fun H10 os off11 => ?_)
 refine jn_i (fun σ' H' => σ' 10 = q ∧ σ' 11 = s ∧ Cel H' q [(.int .i64 (0)), (.int .i64 (0)), (.slice none 0 0)] ∧ Own eI H' u (mkL cols (cutG c l row col) (rows.toNat * cols.toNat)) ∧ Cel H' s [(.int .i64 (rows)), (.int .i64 (cols)), u] ∧ Le H H') (fun σ12 H12 hP => ?_) (fun J12 hJ12 => ?_)
 replace oq := (oq.le le9).off off11 aqXs
 replace lE := off11.le (lE.trans le9) ns
 replace ou := ou.off off11 auXs
 obtain ⟨g10L12, g11L12, oq, ou, os, lE⟩ := hP
 simp only [g10L12, g11L12]
 refine ob_i (os.ldn rfl) (oq.stn (ws := [(.int .i64 (rows)), (.int .i64 (cols)), u]) rfl rfl (oc1 rfl (oc1 rfl (oc1 ou.one oc0))) (fun H13 oq off14 => ?_))
 refine ob_i (oq.ldn rfl) ?_
 replace ou := ou.off off14 aqXu.symm
 replace lE := off14.le lE nq
 exact hk u _ ou nu lE
 replace oq := (oq.le le9).off off11 aqXs
 replace lE := off11.le (lE.trans le9) ns
 replace ou := ou.off off11 auXs
 refine ⟨fun n' σ' H' => ∃ i : Nat, n' = rows.toNat - i ∧ i ≤ rows.toNat ∧ σ' 0 = p ∧ σ' 1 = (.int .i64 (row)) ∧ σ' 2 = (.int .i64 (col)) ∧ σ' 3 = (.int .i64 (rows)) ∧ σ' 4 = (.int .i64 (cols)) ∧ σ' 10 = q ∧ σ' 11 = s ∧ σ' 12 = (.int .i64 ((i : Int))) ∧ Cel H' q [(.int .i64 (0)), (.int .i64 (0)), (.slice none 0 0)] ∧ Own eI H' u (fillL cols (cutG c l row col) (rows.toNat * cols.toNat) (i * cols.toNat)) ∧ Cel H' s [(.int .i64 (rows)), (.int .i64 (cols)), u] ∧ Le H H',
    ⟨_, 0, rfl, by omega, rfl, rfl, rfl, rfl, rfl, rfl, rfl, rfl, oq, by rw [Nat.zero_mul, fillL_zero]; exact ou, os, lE⟩, ?_⟩
 rintro n15 σ15 H15 ⟨i, rfl, hiN, g0L15, g1L15, g2L15, g3L15, g4L15, g10L15, g11L15, g12L15, oq, ou, os, lE⟩
 simp only [g3L15, g12L15]
 refine ob_i (vInt_lss _ _ _) (cnd_d (fun hg16 => ?_) (fun hg16 => ?_))
 have ti := hg16
 refine jn_i (fun σ' H' => σ' 0 = p ∧ σ' 1 = (.int .i64 (row)) ∧ σ' 2 = (.int .i64 (col)) ∧ σ' 3 = (.int .i64 (rows)) ∧ σ' 4 = (.int .i64 (cols)) ∧ σ' 10 = q ∧ σ' 11 = s ∧ σ' 12 = (.int .i64 ((i : Int))) ∧ Cel H' q [(.int .i64 (0)), (.int .i64 (0)), (.slice none 0 0)] ∧ Own eI H' u (fillL cols (cutG c l row col) (rows.toNat * cols.toNat) ((i + 1) * cols.toNat)) ∧ Cel H' s [(.int .i64 (rows)), (.int .i64 (cols)), u] ∧ Le H H') (fun σ17 H17 hP => ?_) (fun J17 hJ17 => ?_)
 obtain ⟨g0L17, g1L17, g2L17, g3L17, g4L17, g10L17, g11L17, g12L17, oq, ou, os, lE⟩ := hP
 simp only [g12L17]
 exact ob_i (vInt_add (by omega) (by omega)) (nxt (rows.toNat - (i + 1)) (by omega) ⟨i + 1, rfl, by omega, g0L17, g1L17, g2L17, g3L17, g4L17, g10L17, g11L17, rfl, oq, ou, os, lE⟩)
 refine ⟨fun n' σ' H' => ∃ k : Nat, n' = cols.toNat - k ∧ k ≤ cols.toNat ∧ σ' 0 = p ∧ σ' 1 = (.int .i64 (row)) ∧ σ' 2 = (.int .i64 (col)) ∧ σ' 3 = (.int .i64 (rows)) ∧ σ' 4 = (.int .i64 (cols)) ∧ σ' 10 = q ∧ σ' 11 = s ∧ σ' 12 = (.int .i64 ((i : Int))) ∧ σ' 13 = (.int .i64 ((k : Int))) ∧ Cel H' q [(.int .i64 (0)), (.int .i64 (0)), (.slice none 0 0)] ∧ Own eI H' u (fillL cols (cutG c l row col) (rows.toNat * cols.toNat) (i * cols.toNat + k)) ∧ Cel H' s [(.int .i64 (rows)), (.int .i64 (cols)), u] ∧ Le H H',
    ⟨_, 0, rfl, by omega, g0L15, g1L15, g2L15, g3L15, g4L15, g10L15, g11L15, g12L15, rfl, oq, ou, os, lE⟩, ?_⟩
 rintro n18 σ18 H18 ⟨k, rfl, hkN, g0L18, g1L18, g2L18, g3L18, g4L18, g10L18, g11L18, g12L18, g13L18, oq, ou, os, lE⟩
 simp only [g0L18, g1L18, g2L18, g4L18, g11L18, g12L18, g13L18]
 refine ob_i (vInt_lss _ _ _) (cnd_d (fun hg19 => ?_) (fun hg19 => ?_))
 have tk := hg19
 have x1 := ix_lt (a := row + i) (b := col + k) (r := r) (c := c) (by omega) (by omega) (by omega) (by omega)
 have x2 := ix_lt (a := (i : Int)) (b := (k : Int)) (r := rows) (c := cols) (by omega) (by omega) (by omega) (by omega)
 have x3 := fillL_len (c := cols) (g := cutG c l row col) (rr := rows) (cc := cols) (t := i * cols.toNat + k) (by omega) (by omega)
 have x4 := sidesF_mul hs
 have x5 := ix_le (a := rows) (b := cols) (by omega) (by omega) (by omega) (by omega)
 refine ob_i (os.fa 2) (ob_i (os.ld 2 rfl) (ob_i (vInt_mul (by omega) (by omega)) (ob_i (vInt_add (by omega) (by omega)) (ob_i ((hp0.le lE).nilC) (ob_i ((hp0.le lE).fa 2) (ob_i ((hp0.le lE).ld 2 rfl) (ob_i (vInt_add (by omega) (by omega)) (ob_i ((hp0.le lE).nilC) (ob_i ((hp0.le lE).fa 1) ?_)))))))))
 refine ob_i ((hp0.le lE).ld 1 rfl) (ob_i (vInt_mul (by omega) (by omega)) (ob_i (vInt_add (by omega) (by omega)) (ob_i (vInt_add (by omega) (by omega)) (ob_i ((hvc0.le lE).ix (by omega) (by omega)) (ob_i ((hvc0.le lE).ld 0 (by omega) (by omega)) (ob_i (ou.sl.ix (by omega) (by omega)) (ou.st (x := at_ 0 (l) ((((row + (i : Int)) * c) + col) + (k : Int))) (by omega) (by omega) rfl rfl (fun H20 ou off21 => ?_))))))))
 refine ob_i (vInt_add (by omega) (by omega)) ?_
 have e := fillL_set (c := cols) (g := cutG c l row col) (N := (rows.toNat * cols.toNat)) (i := i) (k := k) (t := i * cols.toNat + k) (by omega) (by omega) (by omega) (cast_ix (by omega)) (by omega)
 replace ou : Own eI H20 u (fillL cols (cutG c l row col) (rows.toNat * cols.toNat) (i * cols.toNat + (k + 1))) := by rw [← Nat.add_assoc, ← e]; exact ou
 replace oq := oq.off off21 aqXu
 replace os := os.off off21 auXs.symm
 replace lE := off21.le lE nu
 exact nxt (cols.toNat - (k + 1)) (by omega) ⟨k + 1, rfl, by omega, g0L18, g1L18, g2L18, g3L18, g4L18, g10L18, g11L18, g12L18, rfl, oq, ou, os, lE⟩
 have tk := hg19
 rw [show i * cols.toNat + k = (i + 1) * cols.toNat by rw [Nat.add_mul, Nat.one_mul]; omega] at ou
 exact hJ17 _ _ ⟨g0L18, g1L18, g2L18, g3L18, g4L18, g10L18, g11L18, g12L18, oq, ou, os, lE⟩
 have ti := hg16
 rw [fillL_end (by rw [show i = rows.toNat by omega]; exact Nat.le_refl _)] at ou
 exact hJ12 _ _ ⟨g10L15, g11L15, oq, ou, os, lE⟩

theorem C.c111 (hp0 : CelR H p [.int .i64 r, .int .i64 c, vc]) (hvc0 : Sl eI H vc l) (hs : sidesF r c) (hl : (l.length : Int) = r * c)
    (hk1 : (trm r c l).2.1 < 0 → ∀ H', Le H H' → K (.tuple #[.agg #[.int .i64 0, .int .i64 0, .slice none 0 0], .int .i64 0, .int .i64 0, .bool false]) H')
    (hk2 : 0 ≤ (trm r c l).2.1 → ∀ u H', Own eI H' u (trL r c l) → Nw H u → Le H H' → K (.tuple #[.agg #[.int .i64 (trR r c l), .int .i64 (trC r c l), u], .int .i64 (trm r c l).1, .int .i64 (trm r c l).2.2.1, .bool true]) H') :
    HT prg 110 [p].toArray H K := by
 have q1 := hs.1
 have q2 := hs.2
 have m := sidesF_mul hs
 change (trS r c l (r * c).toNat).2.1 < 0 → _ at hk1
 change 0 ≤ (trS r c l (r * c).toNat).2.1 → _ at hk2
 have lE := Le.refl H
 refine R.q110 ?_
 unfold F.q110
 refine nw_i (fun q H1 oq nn2 le3 => ?_)
 have nq := nn2.le lE
 replace oq : Cel H1 q [(.int .i64 (0)), (.int .i64 (0)), (.slice none 0 0)] := oq
 replace lE := lE.trans le3
 refine ob_i ((hp0.le lE).nilC) (ob_i ((hp0.le lE).fa 0) (ob_i ((hp0.le lE).ld 0 rfl) (ob_i ((hp0.le lE).nilC) (ob_i ((hp0.le lE).fa 1) (ob_i ((hp0.le lE).ld 1 rfl) (jn_i (fun σ' H' => σ' 0 = p ∧ σ' 2 = q ∧ σ' 6 = (.int .i64 ((trS r c l ((r * c).toNat)).1)) ∧ σ' 7 = (.int .i64 ((trS r c l ((r * c).toNat)).2.1)) ∧ σ' 8 = (.int .i64 ((trS r c l ((r * c).toNat)).2.2.1)) ∧ σ' 9 = (.int .i64 ((trS r c l ((r * c).toNat)).2.2.2)) ∧ Cel H' q [(.int .i64 (0)), (.int .i64 (0)), (.slice none 0 0)] ∧ Le H H') (fun σ4 H4 hP => ?_) (fun J4 hJ4 => ?_)))))))
 obtain ⟨g0L4, g2L4, g6L4, g7L4, g8L4, g9L4, oq, lE⟩ := hP
 simp only [g0L4, g2L4, g6L4, g7L4, g8L4, g9L4]
 have b := trS_bnd (l := l) hs (r * c).toNat (by omega)
 have b2 := trS_ok (l := l) hs (r * c).toNat (by omega)
 refine ob_i (vInt_lss _ _ _) (cnd_d (fun hg5 => ?_) (fun hg5 => ?_))
 refine ob_i (a := (.agg #[(.int .i64 (0)), (.int .i64 (0)), (.slice none 0 0)])) (by rfl) ?_
 refine oq.stn (ws := [(.int .i64 (0)), (.int .i64 (0)), (.slice none 0 0)]) rfl rfl (oc1 rfl (oc1 rfl (oc1 rfl oc0))) (fun H6 oq off7 => ?_)
 refine ob_i (oq.ldn rfl) ?_
 replace lE := off7.le lE nq
 exact hk1 (by omega) _ lE
 refine ob_i (vInt_sub (by omega) (by omega)) (ob_i (vInt_add (by omega) (by omega)) (ob_i (vInt_sub (by omega) (by omega)) (ob_i (vInt_add (by omega) (by omega)) (C.c110 (hp0.le lE) (hvc0.le lE) hs hl (by omega) (by omega) (by omega) (by omega) (by omega) (by omega) (fun u10 H8 ou10 nn11  le9 => ?_)))))
 have aqXu10 := oq.apart nn11
 have nu10 := nn11.le lE
 replace oq := oq.le le9
 refine oq.stn (ws := [(.int .i64 ((((trS r c l ((r * c).toNat)).2.1) - ((trS r c l ((r * c).toNat)).1)) + 1)), (.int .i64 ((((trS r c l ((r * c).toNat)).2.2.2) - ((trS r c l ((r * c).toNat)).2.2.1)) + 1)), u10]) rfl rfl (oc1 rfl (oc1 rfl (oc1 ou10.one oc0))) (fun H12 oq off13 => ?_)
 refine ob_i (oq.ldn rfl) ?_
 replace lE := off13.le (lE.trans le9) nq
 replace ou10 := ou10.off off13 aqXu10.symm
 exact hk2 (by omega) u10 _ ou10 nu10 lE
 refine ⟨fun n' σ' H' => ∃ i : Nat, n' = r.toNat - i ∧ i ≤ r.toNat ∧ σ' 0 = p ∧ σ' 2 = q ∧ σ' 6 = (.int .i64 ((trS r c l (i * c.toNat)).1)) ∧ σ' 7 = (.int .i64 ((trS r c l (i * c.toNat)).2.1)) ∧ σ' 8 = (.int .i64 ((trS r c l (i * c.toNat)).2.2.1)) ∧ σ' 9 = (.int .i64 ((trS r c l (i * c.toNat)).2.2.2)) ∧ σ' 10 = (.int .i64 ((i : Int))) ∧ Cel H' q [(.int .i64 (0)), (.int .i64 (0)), (.slice none 0 0)] ∧ Le H H',
    ⟨_, 0, rfl, by omega, rfl, rfl, by rw [Nat.zero_mul]; rfl, by rw [Nat.zero_mul]; rfl, by rw [Nat.zero_mul]; rfl, by rw [Nat.zero_mul]; rfl, rfl, oq, lE⟩, ?_⟩
 rintro n14 σ14 H14 ⟨i, rfl, hiN, g0L14, g2L14, g6L14, g7L14, g8L14, g9L14, g10L14, oq, lE⟩
 simp only [g0L14, g10L14]
 refine ob_i ((hp0.le lE).nilC) (ob_i ((hp0.le lE).fa 0) (ob_i ((hp0.le lE).ld 0 rfl) (ob_i (vInt_lss _ _ _) (cnd_d (fun hg15 => ?_) (fun hg15 => ?_)))))
 have ti := hg15
 refine jn_i (fun σ' H' => σ' 0 = p ∧ σ' 2 = q ∧ σ' 6 = (.int .i64 ((trS r c l ((i + 1) * c.toNat)).1)) ∧ σ' 7 = (.int .i64 ((trS r c l ((i + 1) * c.toNat)).2.1)) ∧ σ' 8 = (.int .i64 ((trS r c l ((i + 1) * c.toNat)).2.2.1)) ∧ σ' 9 = (.int .i64 ((trS r c l ((i + 1) * c.toNat)).2.2.2)) ∧ σ' 10 = (.int .i64 ((i : Int))) ∧ Cel H' q [(.int .i64 (0)), (.int .i64 (0)), (.slice none 0 0)] ∧ Le H H') (fun σ16 H16 hP => ?_) (fun J16 hJ16 => ?_)
 obtain ⟨g0L16, g2L16, g6L16, g7L16, g8L16, g9L16, g10L16, oq, lE⟩ := hP
 simp only [g10L16]
 exact ob_i (vInt_add (by omega) (by omega)) (nxt (r.toNat - (i + 1)) (by omega) ⟨i + 1, rfl, by omega, g0L16, g2L16, g6L16, g7L16, g8L16, g9L16, rfl, oq, lE⟩)
 refine ⟨fun n' σ' H' => ∃ k : Nat, n' = c.toNat - k ∧ k ≤ c.toNat ∧ σ' 0 = p ∧ σ' 2 = q ∧ σ' 6 = (.int .i64 ((trS r c l (i * c.toNat + k)).1)) ∧ σ' 7 = (.int .i64 ((trS r c l (i * c.toNat + k)).2.1)) ∧ σ' 8 = (.int .i64 ((trS r c l (i * c.toNat + k)).2.2.1)) ∧ σ' 9 = (.int .i64 ((trS r c l (i * c.toNat + k)).2.2.2)) ∧ σ' 10 = (.int .i64 ((i : Int))) ∧ σ' 11 = (.int .i64 ((k : Int))) ∧ Cel H' q [(.int .i64 (0)), (.int .i64 (0)), (.slice none 0 0)] ∧ Le H H',
    ⟨_, 0, rfl, by omega, g0L14, g2L14, g6L14, g7L14, g8L14, g9L14, g10L14, rfl, oq, lE⟩, ?_⟩
 rintro n17 σ17 H17 ⟨k, rfl, hkN, g0L17, g2L17, g6L17, g7L17, g8L17, g9L17, g10L17, g11L17, oq, lE⟩
 simp only [g0L17, g6L17, g7L17, g8L17, g9L17, g10L17, g11L17]
 refine ob_i ((hp0.le lE).nilC) (ob_i ((hp0.le lE).fa 1) (ob_i ((hp0.le lE).ld 1 rfl) (ob_i (vInt_lss _ _ _) (cnd_d (fun hg18 => ?_) (fun hg18 => ?_)))))
 have tk := hg18
 have x1 := ix_lt (a := (i : Int)) (b := (k : Int)) (r := r) (c := c) (by omega) (by omega) (by omega) (by omega)
 have x4 := sidesF_mul hs
 refine ob_i ((hp0.le lE).nilC) (ob_i ((hp0.le lE).fa 2) (ob_i ((hp0.le lE).ld 2 rfl) (ob_i ((hp0.le lE).nilC) (ob_i ((hp0.le lE).fa 1) (ob_i ((hp0.le lE).ld 1 rfl) (ob_i (vInt_mul (by omega) (by omega)) (ob_i (vInt_add (by omega) (by omega)) (ob_i ((hvc0.le lE).ix (by omega) (by omega)) (ob_i ((hvc0.le lE).ld 0 (by omega) (by omega)) ?_)))))))))
 refine ob_i (vInt_eql _ _ _) (cnd_d (fun hg19 => ?_) (fun hg19 => ?_))
 refine C.c27  ?_
 refine C.c28  ?_
 refine C.c27  ?_
 refine C.c28  ?_
 refine ob_i (vInt_add (by omega) (by omega)) ?_
 have eT := trS_t2 (r := r) (c := c) (i := (i : Int)) (k := (k : Int)) (t := i * c.toNat + k) (by omega) (by omega) (by omega) (cast_ix (by omega)) hg19
 exact nxt (c.toNat - (k + 1)) (by omega) ⟨k + 1, rfl, by omega, g0L17, g2L17, (by rw [← Nat.add_assoc, eT]; rfl), (by rw [← Nat.add_assoc, eT]; rfl), (by rw [← Nat.add_assoc, eT]; rfl), (by rw [← Nat.add_assoc, eT]; rfl), g10L17, rfl, oq, lE⟩
 refine ob_i (vInt_add (by omega) (by omega)) ?_
 have eT := trS_f2 (r := r) (c := c) (i := (i : Int)) (k := (k : Int)) (t := i * c.toNat + k) (cast_ix (by omega)) hg19
 exact nxt (c.toNat - (k + 1)) (by omega) ⟨k + 1, rfl, by omega, g0L17, g2L17, (by rw [← Nat.add_assoc, eT]; exact g6L17), (by rw [← Nat.add_assoc, eT]; exact g7L17), (by rw [← Nat.add_assoc, eT]; exact g8L17), (by rw [← Nat.add_assoc, eT]; exact g9L17), g10L17, rfl, oq, lE⟩
 have tk := hg18
 exact hJ16 _ _ ⟨g0L17, g2L17, (by rw [← show i * c.toNat + k = (i + 1) * c.toNat by rw [Nat.add_mul, Nat.one_mul]; congr 1; omega]; exact g6L17), (by rw [← show i * c.toNat + k = (i + 1) * c.toNat by rw [Nat.add_mul, Nat.one_mul]; congr 1; omega]; exact g7L17), (by rw [← show i * c.toNat + k = (i + 1) * c.toNat by rw [Nat.add_mul, Nat.one_mul]; congr 1; omega]; exact g8L17), (by rw [← show i * c.toNat + k = (i + 1) * c.toNat by rw [Nat.add_mul, Nat.one_mul]; congr 1; omega]; exact g9L17), g10L17, oq, lE⟩
 have ti := hg15
 exact hJ4 _ _ ⟨g0L14, g2L14, (by rw [← show i * c.toNat = (r * c).toNat by rw [Int.toNat_mul (by omega) (by omega)]; congr 1; omega]; exact g6L14), (by rw [← show i * c.toNat = (r * c).toNat by rw [Int.toNat_mul (by omega) (by omega)]; congr 1; omega]; exact g7L14), (by rw [← show i * c.toNat = (r * c).toNat by rw [Int.toNat_mul (by omega) (by omega)]; congr 1; omega]; exact g8L14), (by rw [← show i * c.toNat = (r * c).toNat by rw [Int.toNat_mul (by omega) (by omega)]; congr 1; omega]; exact g9L14), oq, lE⟩

theorem C.c112  {H : Hp} {K : Value → Hp → Prop} (hp0 : CelR H p [(.int .i64 (r)), (.int .i64 (c)), vc]) (hvc0 : Sl eI H vc l) (hf : fieldN 1 r c l)
    (hk : ∀ H', Le H H' → K (vS (nameT r c l)) H') : HT prg 72 [p].toArray H K := by
 have lE := Le.refl H
 refine R.q72 ?_
 unfold F.q72
 have hs := hf.1
 have hl := hf.2.1
 have q1 := hs.1
 have q2 := hs.2
 have qm := sidesF_mul hs
 have l1 := fieldN_len hf
 have il := imgs_len (⟨(trR r c l), (trC r c l), (trL r c l)⟩ : FdL) 8
 refine C.c111 (hp0.le lE) (hvc0.le lE) (by first | omega | assumption) (by first | omega | assumption) (fun hc1  H2    le3 => ?_) (fun hc4 u7 H5 ou7 nn8  le6 => ?_)
 refine ob_i (vExt_40 _ _ _ _) (ob_i (vExt_41 _ _ _ _) (ob_i (vExt_42 _ _ _ _) (ob_i (vExt_43 _ _ _ _) (nw_i (fun pt H9 opt nn10 le11 => ?_)))))
 replace lE := lE.trans le3
 have npt := nn10.le lE
 refine opt.stn (ws := [(.int .i64 (0)), (.int .i64 (0)), (.slice none 0 0)]) rfl rfl (oc1 rfl (oc1 rfl (oc1 rfl oc0))) (fun H12 opt off13 => ?_)
 refine ob_i (a := .bool true) rfl ?_
 refine cnd_t1 ?_
 replace lE := off13.le (lE.trans le11) npt
 exact keq (K := K) (by rw [show (nameT r c l) = (([] : List UInt8)) from by exact nameT_f hc1]; try rfl) (hk   _    lE)
 have hpos := hc4
 refine ob_i (vExt_40 _ _ _ _) (ob_i (vExt_41 _ _ _ _) (ob_i (vExt_42 _ _ _ _) (ob_i (vExt_43 _ _ _ _) (nw_i (fun pt H14 opt nn15 le16 => ?_)))))
 have au7Xpt := ou7.apart nn15
 replace lE := lE.trans le6
 have npt := nn15.le lE
 replace ou7 := ou7.le le16
 refine opt.stn (ws := [(.int .i64 (trR r c l)), (.int .i64 (trC r c l)), u7]) rfl rfl (oc1 rfl (oc1 rfl (oc1 ou7.one oc0))) (fun H17 opt off18 => ?_)
 refine ob_i (a := .bool false) rfl ?_
 refine cnd_f1 ?_
 replace ou7 := ou7.off off18 au7Xpt
 refine C.c103 opt ou7.sl (by exact trF_ok hf hpos) (fun  im Sim H19 oim nn21  le20 => ?_)
 refine jn_i (fun σ' H' => σ' 8 = (vS (minF (imT (tmF r c l) 8))) ∧ Own eI H' u7 (trL r c l) ∧ Cel H' pt [(.int .i64 (trR r c l)), (.int .i64 (trC r c l)), u7] ∧ Fam H' im Sim (imgs (⟨(trR r c l), (trC r c l), (trL r c l)⟩ : FdL) 8) ∧ Le H H') (fun σ22 H22 hP => ?_) (fun J22 hJ22 => ?_)
 replace lE := (off18.le (lE.trans le16) npt).trans le20
 replace ou7 := ou7.le le20
 replace opt := opt.le le20
 obtain ⟨g8L22, ou7, opt, oim, lE⟩ := hP
 try simp only [g8L22]
 exact keq (K := K) (by rw [show (nameT r c l) = (minF (imT (tmF r c l) 8)) from by exact nameT_t hpos]; try rfl) (hk   _    lE)
 refine ob_i (oim.len) ?_
 replace lE := (off18.le (lE.trans le16) npt).trans le20
 replace ou7 := ou7.le le20
 replace opt := opt.le le20
 refine ⟨fun n' σ' H' => ∃ i : Nat, n' = 8 - i ∧ i ≤ 8 ∧ σ' 7 = im ∧ σ' 8 = (vS (minF (imT (tmF r c l) i))) ∧ σ' 22 = (.int .i64 (((imgs (⟨(trR r c l), (trC r c l), (trL r c l)⟩ : FdL) 8).length : Int))) ∧ σ' 23 = (.int .i64 ((i : Int))) ∧ Own eI H' u7 (trL r c l) ∧ Cel H' pt [(.int .i64 (trR r c l)), (.int .i64 (trC r c l)), u7] ∧ Fam H' im Sim (imgs (⟨(trR r c l), (trC r c l), (trL r c l)⟩ : FdL) 8) ∧ Le H H',
    ⟨_, 0, rfl, by omega, rfl, rfl, rfl, (congrArg (Value.int .i64) (by first | omega | rfl | (simp; done))), ou7, opt, oim, lE⟩, ?_⟩
 rintro n23 σ23 H23 ⟨i, rfl, hiN, g7L23, g8L23, g22L23, g23L23, ou7, opt, oim, lE⟩
 try simp only [g7L23, g8L23, g22L23, g23L23]
 refine ob_i (vInt_lss _ _ _) (cnd_d (fun hg24 => ?_) (fun hg24 => ?_))
 have ti := hg24
 obtain ⟨P25, y26, hb27a, oP25, oy26, hb27p, hb27x⟩ := oim.el (i := (i : Int)) (f := ⟨(imF (tmF r c l) i).r, (imF (tmF r c l) i).c, (imF (tmF r c l) i).l⟩) (by omega) (by first | omega | (simp; omega)) (imF_at (f := (tmF r c l)) (by omega))
 replace oP25 : CelR H23 P25 [(.int .i64 ((imF (tmF r c l) i).r)), (.int .i64 ((imF (tmF r c l) i).c)), y26] := oP25
 replace oy26 : Ro eI H23 y26 ((imF (tmF r c l) i).l) := oy26
 refine ob_i (hb27a) (C.c95 oP25 oy26.sl (by exact imF_ok (f := (tmF r c l)) (trF_ok hf hpos) i) (fun   H28    le29 => ?_))
 refine ob_i (vInt_eql _ _ _) ?_
 by_cases hc30 : (i : Int) = 0
 refine hT hc30 (hT hc30 (hT hc30 (ob_i (vPick_et (decide_eq_true hc30) _ _) (cnd_t1 (ob_i (vInt_add (by omega) (by omega)) ?_)))))
 replace ou7 := ou7.le le29
 replace opt := opt.le le29
 replace oim := oim.le le29
 replace lE := lE.trans le29
 exact nxt (8 - (i + 1)) (by omega) ⟨i + 1, rfl, by omega, g7L23, (congrArg vS (minF_first (by omega)).symm), g22L23, (congrArg (Value.int .i64) (by first | omega | rfl | (simp; done))), ou7, opt, oim, lE⟩
 refine gF hc30 (gF hc30 (gF hc30 (ob_i (vStr_lss (fieldT ((imF (tmF r c l) i).r) ((imF (tmF r c l) i).c) ((imF (tmF r c l) i).l)) (minF (imT (tmF r c l) i))) (ob_i (vPick_ef (decide_eq_false hc30) _ _) (cnd_i (fun hg31 => ?_) (fun hg31 => ?_))))))
 refine ob_i (vInt_add (by omega) (by omega)) ?_
 replace ou7 := ou7.le le29
 replace opt := opt.le le29
 replace oim := oim.le le29
 replace lE := lE.trans le29
 exact nxt (8 - (i + 1)) (by omega) ⟨i + 1, rfl, by omega, g7L23, (congrArg vS (by rw [minF_next (by omega), minT_t hg31])), g22L23, (congrArg (Value.int .i64) (by first | omega | rfl | (simp; done))), ou7, opt, oim, lE⟩
 refine ob_i (vInt_add (by omega) (by omega)) ?_
 replace ou7 := ou7.le le29
 replace opt := opt.le le29
 replace oim := oim.le le29
 replace lE := lE.trans le29
 exact nxt (8 - (i + 1)) (by omega) ⟨i + 1, rfl, by omega, g7L23, (g8L23.trans (congrArg vS (by rw [minF_next (by omega), minT_f (by simp [hg31])]))), g22L23, (congrArg (Value.int .i64) (by first | omega | rfl | (simp; done))), ou7, opt, oim, lE⟩
 have ti := hg24
 exact hJ22 _ _ ⟨(g8L23.trans (congrArg vS (by rw [show i = 8 by omega]))), ou7, opt, oim, lE⟩

section
variable {ns : List Txt} {cs : List Int} {L : List Txt} {i : Nat}
theorem cen_cast {ns' L' : List Txt} {cs' : List Int} (h : Cen ns cs L) (e1 : ns' = ns) (e2 : cs' = cs) (e3 : L' = L) : Cen ns' cs' L' := by subst e1 e2 e3; exact h
theorem cen_any (h : Cen ns cs L) (z : Int) : 0 ≤ at_ 0 cs z ∧ at_ 0 cs z ≤ L.length := by
  unfold at_
  rw [List.getD_eq_getElem?_getD]
  cases hz : cs[z.toNat]? with
  | none => simp
  | some x => exact h.bnd (List.mem_of_getElem? hz)
theorem snoc_last (cs : List Int) : (cs ++ [0]).length = cs.length + 1 ∧ at_ 0 (cs ++ [0]) ((((cs ++ [0]).length : Nat) : Int) - 1) = 0 := by
  have e0 : (((cs ++ [0]).length : Nat) : Int) - 1 = (cs.length : Int) := by simp
  refine ⟨by simp, ?_⟩
  rw [e0, at_eq 0 _ (by simp)]
  simp
theorem cen_last (h : Cen ns cs ((srtT L).take i)) (hi : i < (srtT L).length) {j : Nat} (hj : j < ns.length) : ¬ LtT (at_ [] (srtT L) (i : Int)) (at_ [] ns (j : Int)) := by
  have hm := (h.mem (at_ [] ns (j : Int))).mp (at_mem [] ns (by omega) (by omega))
  obtain ⟨k, hk, e⟩ := List.getElem_of_mem hm
  rw [List.length_take] at hk
  rw [← e, List.getElem_take, ← at_eq [] (srtT L) (by omega)]
  exact srtT_le L (by omega) hi
/-- A new name behind the others. -/
theorem cen_more (h : Cen ns cs ((srtT L).take i)) (hi : i < (srtT L).length) (hn : (ns.length : Int) = 0 ∨ at_ [] ns ((ns.length : Int) - 1) ≠ at_ [] (srtT L) (i : Int)) :
    Cen (ns ++ [at_ [] (srtT L) (i : Int)]) ((cs ++ [0]).set ((((cs ++ [0]).length : Int) - 1)).toNat (at_ 0 (cs ++ [0]) (((cs ++ [0]).length : Int) - 1) + 1)) ((srtT L).take (i + 1)) := by
  have hcl := h.len
  have := cen_at_new (p := ns.length) (x := at_ [] (srtT L) (i : Int)) h (Nat.le_refl _) (fun j hj => ?_) (fun hh => absurd hh (by omega))
  · refine cen_cast this (by simp) ?_ (take_at [] _ hi)
    have e0 : (((cs ++ [0]).length : Nat) : Int) - 1 = (cs.length : Int) := by simp
    rw [e0, Int.toNat_natCast]
    rw [show at_ 0 (cs ++ [0]) (cs.length : Int) = 0 by rw [at_eq 0 _ (by simp)]; simp]
    rw [List.set_append_right _ _ (by omega), ← hcl]
    simp
  · have h1 := cen_last h hi hj
    rcases Nat.lt_or_ge j (ns.length - 1) with h2 | h2
    · have h3 := cen_last h hi (show ns.length - 1 < ns.length by omega)
      have h4 : LtT (at_ [] ns (j : Int)) (at_ [] ns ((ns.length - 1 : Nat) : Int)) := by
        rw [at_eq [] ns hj, at_eq [] ns (by omega)]
        exact List.pairwise_iff_getElem.mp h.srt _ _ _ _ h2
      by_cases h5 : at_ [] ns ((ns.length - 1 : Nat) : Int) = at_ [] (srtT L) (i : Int)
      · rw [h5] at h4; exact h4
      · exact ltT_trans h4 (ltT_tri h3 (fun e => h5 e.symm))
    · refine ltT_tri h1 (fun e => ?_)
      rcases hn with hn | hn
      · omega
      · refine hn ?_
        rw [e, show ((ns.length : Int) - 1) = (j : Int) by omega]
/-- The last name once more. -/
theorem cen_same (h : Cen ns cs ((srtT L).take i)) (hi : i < (srtT L).length) (hn : ¬ (ns.length : Int) = 0) (he : at_ [] ns ((ns.length : Int) - 1) = at_ [] (srtT L) (i : Int)) :
    Cen ns (cs.set ((cs.length : Int) - 1).toNat (at_ 0 cs ((cs.length : Int) - 1) + 1)) ((srtT L).take (i + 1)) := by
  have hcl := h.len
  have e1 : ((ns.length - 1 : Nat) : Int) = (ns.length : Int) - 1 := by omega
  have := cen_at_hit (p := ns.length - 1) (x := at_ [] (srtT L) (i : Int)) h (by omega) (by rw [e1]; exact he)
  rw [e1] at this
  exact cen_cast this rfl (by rw [hcl, show ((ns.length : Int) - 1).toNat = ns.length - 1 by omega]) (take_at [] _ hi)
end
set_option maxHeartbeats 2000000 in
theorem C.c113  {H : Hp} {K : Value → Hp → Prop} (hvc0 : Sl eI H vc l) (k1 : l.length ≤ 9223372036854775807)
    (hk : ∀ u1 u2 H', Own vS H' u1 (selL (fieldN 1 r c l ∧ (cenN (nmL r c l (stsL c l l.length))).length ≤ 64) (cenN (nmL r c l (stsL c l l.length)))) → Own eI H' u2 (selL (fieldN 1 r c l ∧ (cenN (nmL r c l (stsL c l l.length))).length ≤ 64) (cenC (nmL r c l (stsL c l l.length)))) → Nw H u1 → Nw H u2 → Apart u1 u2 → Le H H' → K (.tuple #[u1, u2, (.bool (decide (fieldN 1 r c l ∧ (cenN (nmL r c l (stsL c l l.length))).length ≤ 64)))]) H') : HT prg 27 [(.agg #[(.int .i64 (r)), (.int .i64 (c)), vc])].toArray H K := by
 have lE := Le.refl H
 refine R.q27 ?_
 unfold F.q27
 refine nw_i (fun p1 H2 op1 nn3 le4 => ?_)
 replace op1 : Cel H2 p1 [(.int .i64 (r)), (.int .i64 (c)), vc] := op1
 refine ob_i (op1.ldn rfl) ?_
 replace lE := lE.trans le4
 refine C.c107 (hvc0.le lE) (by omega) (fun hf pu Spu pv H5 opu opv nn7 nn8 apuXpv le6 => ?_) (fun hn y1 y2 H5 le6 => ?_)
 have hs := hf.1
 have hl := hf.2.1
 have q1 := hs.1
 have q2 := hs.2
 have qm := sidesF_mul hs
 have l1 := fieldN_len hf
 have sl := stsL_len (c := c) (l := l) l.length
 have pl1 := prtL_len (r := r) (c := c) (l := l) (L := (stsL c l l.length))
 have nl0 := nmL_len (r := r) (c := c) (l := l) (L := (stsL c l l.length))
 refine ob_i (vExt_30 _ _ _) (ob_i (vExt_31 _ _ _) (ob_i (vExt_32 _ _ _) (ob_i (a := .bool false) rfl ?_)))
 refine cnd_f1 (bS_nil (enc := vS) (fun ts H10 ots nn11 kk12 le13 => ?_))
 replace op1 := op1.le le6
 have ap1Xts := op1.apart nn11
 have apuXts : Apt Spu ts := Apt.of_nw opu.known nn11
 have apvXts := opv.apart nn11
 replace lE := lE.trans le6
 have nts := nn11.le lE
 refine jn_i (fun σ' H' => ∃ ts, σ' 8 = ts ∧ Cel H' p1 [(.int .i64 (r)), (.int .i64 (c)), vc] ∧ Fam H' pu Spu (prtL r c l (stsL c l l.length)) ∧ Own eI H' pv (plcL r c l (stsL c l l.length)) ∧ Own vS H' ts (nmL r c l (stsL c l l.length)) ∧ Nw H ts ∧ Apart p1 ts ∧ Apt Spu ts ∧ Apart pv ts ∧ Le H H') (fun σ14 H14 hP => ?_) (fun J14 hJ14 => ?_)
 replace op1 := op1.le le13
 replace opu := opu.le le13
 replace opv := opv.le le13
 replace lE := lE.trans le13
 obtain ⟨ts, g8L14, op1, opu, opv, ots, nts, ap1Xts, apuXts, apvXts, lE⟩ := hP
 try simp only [g8L14]
 refine C.c109 ots (by omega) (fun H15 ots off16 => ?_)
 refine bS_nil (enc := vS) (fun ns H17 ons nn18 kk19 le20 => ?_)
 replace op1 := op1.off off16 ap1Xts
 have ap1Xns := op1.apart nn18
 replace opu := opu.off off16 apuXts
 have apuXns : Apt Spu ns := Apt.of_nw opu.known nn18
 replace opv := opv.off off16 apvXts
 have apvXns := opv.apart nn18
 have atsXns := ots.apart nn18
 replace lE := off16.le lE nts
 have nns := nn18.le lE
 refine bS_nil (enc := eI) (fun cs H21 ocs nn22 kk23 le24 => ?_)
 replace op1 := op1.le le20
 have ap1Xcs := op1.apart nn22
 replace opu := opu.le le20
 have apuXcs : Apt Spu cs := Apt.of_nw opu.known nn22
 replace opv := opv.le le20
 have apvXcs := opv.apart nn22
 replace ots := ots.le le20
 have atsXcs := ots.apart nn22
 have ansXcs := ons.apart nn22
 replace lE := lE.trans le20
 have ncs := nn22.le lE
 refine jn_i (fun σ' H' => ∃ ns, ∃ cs, σ' 11 = ns ∧ σ' 12 = cs ∧ Cel H' p1 [(.int .i64 (r)), (.int .i64 (c)), vc] ∧ Fam H' pu Spu (prtL r c l (stsL c l l.length)) ∧ Own eI H' pv (plcL r c l (stsL c l l.length)) ∧ Own vS H' ts (srtT (nmL r c l (stsL c l l.length))) ∧ Own vS H' ns (cenN (nmL r c l (stsL c l l.length))) ∧ Own eI H' cs (cenC (nmL r c l (stsL c l l.length))) ∧ Nw H ns ∧ Apart p1 ns ∧ Apt Spu ns ∧ Apart pv ns ∧ Apart ts ns ∧ Nw H cs ∧ Apart p1 cs ∧ Apt Spu cs ∧ Apart pv cs ∧ Apart ts cs ∧ Apart ns cs ∧ Le H H') (fun σ25 H25 hP => ?_) (fun J25 hJ25 => ?_)
 replace op1 := op1.le le24
 replace opu := opu.le le24
 replace opv := opv.le le24
 replace ots := ots.le le24
 replace ons := ons.le le24
 replace lE := lE.trans le24
 obtain ⟨ns, cs, g11L25, g12L25, op1, opu, opv, ots, ons, ocs, nns, ap1Xns, apuXns, apvXns, atsXns, ncs, ap1Xcs, apuXcs, apvXcs, atsXcs, ansXcs, lE⟩ := hP
 try simp only [g11L25, g12L25]
 refine ob_i (ons.len) (ob_i (vInt_gtr _ _ _) (cnd_d (fun hg26 => ?_) (fun hg26 => ?_)))
 have hok : ¬ (fieldN 1 r c l ∧ (cenN (nmL r c l (stsL c l l.length))).length ≤ 64) := by intro h; first | exact absurd h.1 (by assumption) | (have := h.2; omega)
 exact keq (K := K) (by rw [decide_eq_false (show ¬ (fieldN 1 r c l ∧ (cenN (nmL r c l (stsL c l l.length))).length ≤ 64) from by exact hok)]; try rfl) (hk  (.slice none 0 0) (.slice none 0 0) _ (Own.cast (show [] = selL (fieldN 1 r c l ∧ (cenN (nmL r c l (stsL c l l.length))).length ≤ 64) (cenN (nmL r c l (stsL c l l.length))) by exact (selL_f hok).symm) (Own.nil_of none)) (Own.cast (show [] = selL (fieldN 1 r c l ∧ (cenN (nmL r c l (stsL c l l.length))).length ≤ 64) (cenC (nmL r c l (stsL c l l.length))) by exact (selL_f hok).symm) (Own.nil_of none)) (fun b hb => by simp [bk] at hb) (fun b hb => by simp [bk] at hb) (fun b hb => by simp [bk] at hb) lE)
 have hok : fieldN 1 r c l ∧ (cenN (nmL r c l (stsL c l l.length))).length ≤ 64 := by exact ⟨hf, by omega⟩
 exact keq (K := K) (by rw [decide_eq_true (show (fieldN 1 r c l ∧ (cenN (nmL r c l (stsL c l l.length))).length ≤ 64) from by exact hok)]; try rfl) (hk  ns cs _ (Own.cast (show cenN (nmL r c l (stsL c l l.length)) = selL (fieldN 1 r c l ∧ (cenN (nmL r c l (stsL c l l.length))).length ≤ 64) (cenN (nmL r c l (stsL c l l.length))) by exact (selL_t hok).symm) ons) (Own.cast (show cenC (nmL r c l (stsL c l l.length)) = selL (fieldN 1 r c l ∧ (cenN (nmL r c l (stsL c l l.length))).length ≤ 64) (cenC (nmL r c l (stsL c l l.length))) by exact (selL_t hok).symm) ocs) nns ncs ansXcs lE)
 replace ots := ots.le le24
 refine ob_i (ots.len) ?_
 replace op1 := op1.le le24
 replace opu := opu.le le24
 replace opv := opv.le le24
 replace ons := ons.le le24
 replace lE := lE.trans le24
 refine ⟨fun n' σ' H' => ∃ i : Nat, n' = (srtT (nmL r c l (stsL c l l.length))).length - i ∧ i ≤ (srtT (nmL r c l (stsL c l l.length))).length ∧ ∃ ns, ∃ cs, ∃ nl : List Txt, ∃ cl : List Int, σ' 11 = ns ∧ σ' 12 = cs ∧ σ' 40 = ts ∧ σ' 41 = (.int .i64 (((srtT (nmL r c l (stsL c l l.length))).length : Int))) ∧ σ' 42 = (.int .i64 ((i : Int))) ∧ Cel H' p1 [(.int .i64 (r)), (.int .i64 (c)), vc] ∧ Fam H' pu Spu (prtL r c l (stsL c l l.length)) ∧ Own eI H' pv (plcL r c l (stsL c l l.length)) ∧ Own vS H' ts (srtT (nmL r c l (stsL c l l.length))) ∧ Own vS H' ns (nl) ∧ Own eI H' cs (cl) ∧ Nw H ns ∧ Apart p1 ns ∧ Apt Spu ns ∧ Apart pv ns ∧ Apart ts ns ∧ Nw H cs ∧ Apart p1 cs ∧ Apt Spu cs ∧ Apart pv cs ∧ Apart ts cs ∧ Apart ns cs ∧ Le H H' ∧ Cen nl cl ((srtT (nmL r c l (stsL c l l.length))).take i),
    ⟨_, 0, rfl, by omega, ns, cs, [], [], rfl, rfl, rfl, rfl, (congrArg (Value.int .i64) (by first | omega | rfl | (simp; done))), op1, opu, opv, ots, (Own.cast (by first | rfl | (simp; done)) ons), (Own.cast (by first | rfl | (simp; done)) ocs), nns, ap1Xns, apuXns, apvXns, atsXns, ncs, ap1Xcs, apuXcs, apvXcs, atsXcs, ansXcs, lE, (by rw [List.take_zero]; exact cen_nil)⟩, ?_⟩
 rintro n27 σ27 H27 ⟨i, rfl, hiN, ns, cs, nl, cl, g11L27, g12L27, g40L27, g41L27, g42L27, op1, opu, opv, ots, ons, ocs, nns, ap1Xns, apuXns, apvXns, atsXns, ncs, ap1Xcs, apuXcs, apvXcs, atsXcs, ansXcs, lE, hcen⟩
 try simp only [g11L27, g12L27, g40L27, g41L27, g42L27]
 have srl := srtT_len (nmL r c l (stsL c l l.length))
 have cl1 := hcen.len
 have cl2 := hcen.le
 rw [List.length_take] at cl2
 have cb := cen_any hcen ((cl.length : Int) - 1)
 rw [List.length_take] at cb
 have cs1 := snoc_last cl
 refine ob_i (vInt_lss _ _ _) (cnd_d (fun hg28 => ?_) (fun hg28 => ?_))
 have ti := hg28
 refine ob_i (ots.sl.ix (by omega) (by omega)) (ob_i (ots.sl.ld [] (by omega) (by omega)) (ob_i (ons.len) (ob_i (vInt_eql _ _ _) ?_)))
 by_cases hc29 : (((nl).length : Int)) = 0
 refine hT hc29 (hT hc29 (hT hc29 (hT hc29 (hT hc29 (hT hc29 (hT hc29 (hT hc29 (ob_i (vPick_et (decide_eq_true hc29) _ _) (cnd_t1 (bS_i (enc := vS) (l := [at_ [] (srtT (nmL r c l (stsL c l l.length))) ((i : Int))]) (by omega) rfl (by kernel_rfl) (fun u30 H31 ou30 nn32 le34 => ?_)))))))))))
 replace ons := ons.le le34
 refine apd_any ons ou30.sl (fun _ => rfl) (by omega) (by first | omega | (simp only [List.length_cons, List.length_nil]; omega)) (fun u38 H35 ou38 off36 hb37 => ?_)
 replace op1 := op1.le le34
 have ap1Xu38 := Apart.ap2 op1.known ap1Xns hb37
 replace opu := opu.le le34
 have apuXu38 := Apt.ap2 opu.known apuXns hb37
 replace opv := opv.le le34
 have apvXu38 := Apart.ap2 opv.known apvXns hb37
 replace ots := ots.le le34
 have atsXu38 := Apart.ap2 ots.known atsXns hb37
 replace ocs := ocs.le le34
 have acsXu38 := Apart.ap2 ocs.known ansXcs.symm hb37
 replace lE := lE.trans le34
 have nu38 : Nw H u38 := Nw.ap2 nns lE hb37
 refine bS_i (enc := eI) (l := [(0 : Int)]) (by omega) rfl (by kernel_rfl) (fun u39 H40 ou39 nn41 le43 => ?_)
 replace ocs := (ocs.off off36 ansXcs.symm).le le43
 refine apd_any ocs ou39.sl (fun _ => rfl) (by omega) (by first | omega | (simp only [List.length_cons, List.length_nil]; omega)) (fun u47 H44 ou47 off45 hb46 => ?_)
 replace op1 := (op1.off off36 ap1Xns).le le43
 have ap1Xu47 := Apart.ap2 op1.known ap1Xcs hb46
 replace opu := (opu.off off36 apuXns).le le43
 have apuXu47 := Apt.ap2 opu.known apuXcs hb46
 replace opv := (opv.off off36 apvXns).le le43
 have apvXu47 := Apart.ap2 opv.known apvXcs hb46
 replace ots := (ots.off off36 atsXns).le le43
 have atsXu47 := Apart.ap2 ots.known atsXcs hb46
 replace ou38 := ou38.le le43
 have au38Xu47 := Apart.ap2 ou38.known acsXu38.symm hb46
 replace lE := (off36.le lE nns).trans le43
 have nu47 : Nw H u47 := Nw.ap2 ncs lE hb46
 refine ob_i (ou47.len) (ob_i (vInt_sub (by omega) (by omega)) (ob_i (ou47.sl.ix (by omega) (by omega)) (ob_i (ou47.sl.ld 0 (by omega) (by omega)) (ob_i (vInt_add (by omega) (by omega)) (ob_i (ou47.sl.ix (by omega) (by omega)) (ou47.st (x := (at_ 0 (cl ++ ([(0 : Int)])) ((((cl ++ ([(0 : Int)])).length : Int)) - 1)) + 1) (by omega) (by omega) rfl rfl (fun H48 ou47 off49 => ?_)))))))
 refine ob_i (vInt_add (by omega) (by omega)) ?_
 replace op1 := (op1.off off45 ap1Xcs).off off49 ap1Xu47
 replace opu := (opu.off off45 apuXcs).off off49 apuXu47
 replace opv := (opv.off off45 apvXcs).off off49 apvXu47
 replace ots := (ots.off off45 atsXcs).off off49 atsXu47
 replace ou38 := (ou38.off off45 acsXu38.symm).off off49 au38Xu47
 replace lE := off49.le (off45.le lE ncs) nu47
 exact nxt ((srtT (nmL r c l (stsL c l l.length))).length - (i + 1)) (by omega) ⟨i + 1, rfl, by omega, u38, u47, _, _, rfl, rfl, g40L27, g41L27, (congrArg (Value.int .i64) (by first | omega | rfl | (simp; done))), op1, opu, opv, ots, ou38, ou47, nu38, ap1Xu38, apuXu38, apvXu38, atsXu38, nu47, ap1Xu47, apuXu47, apvXu47, atsXu47, au38Xu47, lE, (cen_more hcen (by omega) (.inl (by omega)))⟩
 refine gF hc29 (gF hc29 (gF hc29 (ob_i (ons.len) (gF hc29 (ob_i (vInt_sub (by omega) (by omega)) (gF hc29 (ob_i (ons.sl.ix (by omega) (by omega)) (gF hc29 (ob_i (ons.sl.ld [] (by omega) (by omega)) ?_)))))))))
 refine gF hc29 (gF hc29 (ob_i (vStr_neq (at_ [] (nl) ((((nl).length : Int)) - 1)) (at_ [] (srtT (nmL r c l (stsL c l l.length))) ((i : Int)))) (ob_i (vPick_ef (decide_eq_false hc29) _ _) (cnd_d (fun hg50 => ?_) (fun hg50 => ?_)))))
 refine bS_i (enc := vS) (l := [at_ [] (srtT (nmL r c l (stsL c l l.length))) ((i : Int))]) (by omega) rfl (by kernel_rfl) (fun u51 H52 ou51 nn53 le55 => ?_)
 replace ons := ons.le le55
 refine apd_any ons ou51.sl (fun _ => rfl) (by omega) (by first | omega | (simp only [List.length_cons, List.length_nil]; omega)) (fun u59 H56 ou59 off57 hb58 => ?_)
 replace op1 := op1.le le55
 have ap1Xu59 := Apart.ap2 op1.known ap1Xns hb58
 replace opu := opu.le le55
 have apuXu59 := Apt.ap2 opu.known apuXns hb58
 replace opv := opv.le le55
 have apvXu59 := Apart.ap2 opv.known apvXns hb58
 replace ots := ots.le le55
 have atsXu59 := Apart.ap2 ots.known atsXns hb58
 replace ocs := ocs.le le55
 have acsXu59 := Apart.ap2 ocs.known ansXcs.symm hb58
 replace lE := lE.trans le55
 have nu59 : Nw H u59 := Nw.ap2 nns lE hb58
 refine bS_i (enc := eI) (l := [(0 : Int)]) (by omega) rfl (by kernel_rfl) (fun u60 H61 ou60 nn62 le64 => ?_)
 replace ocs := (ocs.off off57 ansXcs.symm).le le64
 refine apd_any ocs ou60.sl (fun _ => rfl) (by omega) (by first | omega | (simp only [List.length_cons, List.length_nil]; omega)) (fun u68 H65 ou68 off66 hb67 => ?_)
 replace op1 := (op1.off off57 ap1Xns).le le64
 have ap1Xu68 := Apart.ap2 op1.known ap1Xcs hb67
 replace opu := (opu.off off57 apuXns).le le64
 have apuXu68 := Apt.ap2 opu.known apuXcs hb67
 replace opv := (opv.off off57 apvXns).le le64
 have apvXu68 := Apart.ap2 opv.known apvXcs hb67
 replace ots := (ots.off off57 atsXns).le le64
 have atsXu68 := Apart.ap2 ots.known atsXcs hb67
 replace ou59 := ou59.le le64
 have au59Xu68 := Apart.ap2 ou59.known acsXu59.symm hb67
 replace lE := (off57.le lE nns).trans le64
 have nu68 : Nw H u68 := Nw.ap2 ncs lE hb67
 refine ob_i (ou68.len) (ob_i (vInt_sub (by omega) (by omega)) (ob_i (ou68.sl.ix (by omega) (by omega)) (ob_i (ou68.sl.ld 0 (by omega) (by omega)) (ob_i (vInt_add (by omega) (by omega)) (ob_i (ou68.sl.ix (by omega) (by omega)) (ou68.st (x := (at_ 0 (cl ++ ([(0 : Int)])) ((((cl ++ ([(0 : Int)])).length : Int)) - 1)) + 1) (by omega) (by omega) rfl rfl (fun H69 ou68 off70 => ?_)))))))
 refine ob_i (vInt_add (by omega) (by omega)) ?_
 replace op1 := (op1.off off66 ap1Xcs).off off70 ap1Xu68
 replace opu := (opu.off off66 apuXcs).off off70 apuXu68
 replace opv := (opv.off off66 apvXcs).off off70 apvXu68
 replace ots := (ots.off off66 atsXcs).off off70 atsXu68
 replace ou59 := (ou59.off off66 acsXu59.symm).off off70 au59Xu68
 replace lE := off70.le (off66.le lE ncs) nu68
 exact nxt ((srtT (nmL r c l (stsL c l l.length))).length - (i + 1)) (by omega) ⟨i + 1, rfl, by omega, u59, u68, _, _, rfl, rfl, g40L27, g41L27, (congrArg (Value.int .i64) (by first | omega | rfl | (simp; done))), op1, opu, opv, ots, ou59, ou68, nu59, ap1Xu59, apuXu59, apvXu59, atsXu59, nu68, ap1Xu68, apuXu68, apvXu68, atsXu68, au59Xu68, lE, (cen_more hcen (by omega) (.inr hg50))⟩
 refine ob_i (ocs.len) (ob_i (vInt_sub (by omega) (by omega)) (ob_i (ocs.sl.ix (by omega) (by omega)) (ob_i (ocs.sl.ld 0 (by omega) (by omega)) (ob_i (vInt_add (by omega) (by omega)) (ob_i (ocs.sl.ix (by omega) (by omega)) (ocs.st (x := (at_ 0 (cl) ((((cl).length : Int)) - 1)) + 1) (by omega) (by omega) rfl rfl (fun H71 ocs off72 => ?_)))))))
 refine ob_i (vInt_add (by omega) (by omega)) ?_
 replace op1 := op1.off off72 ap1Xcs
 replace opu := opu.off off72 apuXcs
 replace opv := opv.off off72 apvXcs
 replace ots := ots.off off72 atsXcs
 replace ons := ons.off off72 ansXcs
 replace lE := off72.le lE ncs
 exact nxt ((srtT (nmL r c l (stsL c l l.length))).length - (i + 1)) (by omega) ⟨i + 1, rfl, by omega, ns, cs, _, _, g11L27, g12L27, g40L27, g41L27, (congrArg (Value.int .i64) (by first | omega | rfl | (simp; done))), op1, opu, opv, ots, ons, ocs, nns, ap1Xns, apuXns, apvXns, atsXns, ncs, ap1Xcs, apuXcs, apvXcs, atsXcs, ansXcs, lE, (cen_same hcen (by omega) hc29 (Decidable.not_not.mp hg50))⟩
 have ti := hg28
 have hce := cen_eq (M := (nmL r c l (stsL c l l.length))) hcen (by rw [List.take_of_length_le (by omega)]; exact srtT_perm _)
 exact hJ25 _ _ ⟨ns, cs, g11L27, g12L27, op1, opu, opv, ots, (Own.cast hce.1 ons), (Own.cast hce.2 ocs), nns, ap1Xns, apuXns, apvXns, atsXns, ncs, ap1Xcs, apuXcs, apvXcs, atsXcs, ansXcs, lE⟩
 replace opu := opu.le le13
 refine ob_i (opu.len) ?_
 replace op1 := op1.le le13
 replace opv := opv.le le13
 replace lE := lE.trans le13
 refine ⟨fun n' σ' H' => ∃ t : Nat, n' = (stsL c l l.length).length - t ∧ t ≤ (stsL c l l.length).length ∧ ∃ ts, σ' 8 = ts ∧ σ' 24 = pu ∧ σ' 25 = (.int .i64 (((prtL r c l (stsL c l l.length)).length : Int))) ∧ σ' 26 = (.int .i64 ((t : Int))) ∧ Cel H' p1 [(.int .i64 (r)), (.int .i64 (c)), vc] ∧ Fam H' pu Spu (prtL r c l (stsL c l l.length)) ∧ Own eI H' pv (plcL r c l (stsL c l l.length)) ∧ Own vS H' ts (nmL r c l ((stsL c l l.length).take t)) ∧ Nw H ts ∧ Apart p1 ts ∧ Apt Spu ts ∧ Apart pv ts ∧ Le H H',
    ⟨_, 0, rfl, by omega, ts, rfl, rfl, rfl, (congrArg (Value.int .i64) (by first | omega | rfl | (simp; done))), op1, opu, opv, (Own.cast (by first | rfl | (simp; done)) ots), nts, ap1Xts, apuXts, apvXts, lE⟩, ?_⟩
 rintro n73 σ73 H73 ⟨t, rfl, htN, ts, g8L73, g24L73, g25L73, g26L73, op1, opu, opv, ots, nts, ap1Xts, apuXts, apvXts, lE⟩
 try simp only [g8L73, g24L73, g25L73, g26L73]
 have tl := nmL_len (r := r) (c := c) (l := l) (L := (stsL c l l.length).take t)
 have tl2 : ((stsL c l l.length).take t).length = t := by rw [List.length_take]; omega
 refine ob_i (vInt_lss _ _ _) (cnd_d (fun hg74 => ?_) (fun hg74 => ?_))
 have tt := hg74
 obtain ⟨P75, y76, hb77a, oP75, oy76, hb77p, hb77x⟩ := opu.el (i := (t : Int)) (f := ⟨(prtF r c l (at_ 0 (stsL c l l.length) (t : Int))).r, (prtF r c l (at_ 0 (stsL c l l.length) (t : Int))).c, (prtF r c l (at_ 0 (stsL c l l.length) (t : Int))).l⟩) (by omega) (by first | omega | (simp; omega)) (prt_at (by omega))
 replace oP75 : CelR H73 P75 [(.int .i64 ((prtF r c l (at_ 0 (stsL c l l.length) (t : Int))).r)), (.int .i64 ((prtF r c l (at_ 0 (stsL c l l.length) (t : Int))).c)), y76] := oP75
 replace oy76 : Ro eI H73 y76 ((prtF r c l (at_ 0 (stsL c l l.length) (t : Int))).l) := oy76
 refine ob_i (hb77a) (ob_i (oP75.ldn rfl) (nw_i (fun p78 H79 op78 nn80 le81 => ?_)))
 have ap1Xp78 := op1.apart nn80
 have apuXp78 : Apt Spu p78 := Apt.of_nw opu.known nn80
 have apvXp78 := opv.apart nn80
 have atsXp78 := ots.apart nn80
 have ay76Xp78 := oy76.apart nn80
 have np78 := nn80.le lE
 replace oy76 := oy76.le le81
 refine op78.stn (ws := [(.int .i64 ((prtF r c l (at_ 0 (stsL c l l.length) (t : Int))).r)), (.int .i64 ((prtF r c l (at_ 0 (stsL c l l.length) (t : Int))).c)), y76]) rfl rfl (oc1 rfl (oc1 rfl (oc1 oy76.one oc0))) (fun H82 op78 off83 => ?_)
 refine ob_i (op78.ldn rfl) ?_
 replace oy76 := oy76.off off83 ay76Xp78
 refine C.c106 oy76.sl (by exact part_ok hf (by omega)) (fun   H84    le85 => ?_)
 refine bS_i (enc := vS) (l := [nameT ((prtF r c l (at_ 0 (stsL c l l.length) (t : Int))).r) ((prtF r c l (at_ 0 (stsL c l l.length) (t : Int))).c) ((prtF r c l (at_ 0 (stsL c l l.length) (t : Int))).l)]) (by omega) rfl (by kernel_rfl) (fun u86 H87 ou86 nn88 le90 => ?_)
 replace ots := (((ots.le le81).off off83 atsXp78).le le85).le le90
 refine apd_any ots ou86.sl (fun _ => rfl) (by omega) (by first | omega | (simp only [List.length_cons, List.length_nil]; omega)) (fun u94 H91 ou94 off92 hb93 => ?_)
 replace op1 := (((op1.le le81).off off83 ap1Xp78).le le85).le le90
 have ap1Xu94 := Apart.ap2 op1.known ap1Xts hb93
 replace opu := (((opu.le le81).off off83 apuXp78).le le85).le le90
 have apuXu94 := Apt.ap2 opu.known apuXts hb93
 replace opv := (((opv.le le81).off off83 apvXp78).le le85).le le90
 have apvXu94 := Apart.ap2 opv.known apvXts hb93
 replace lE := ((off83.le (lE.trans le81) np78).trans le85).trans le90
 have nu94 : Nw H u94 := Nw.ap2 nts lE hb93
 refine ob_i (vInt_add (by omega) (by omega)) ?_
 replace op1 := op1.off off92 ap1Xts
 replace opu := opu.off off92 apuXts
 replace opv := opv.off off92 apvXts
 replace lE := off92.le lE nts
 exact nxt ((stsL c l l.length).length - (t + 1)) (by omega) ⟨t + 1, rfl, by omega, u94, rfl, g24L73, g25L73, (congrArg (Value.int .i64) (by first | omega | rfl | (simp; done))), op1, opu, opv, (Own.cast (nmL_take (by omega)).symm ou94), nu94, ap1Xu94, apuXu94, apvXu94, lE⟩
 have tt := hg74
 rw [List.take_of_length_le (by omega)] at ots
 exact hJ14 _ _ ⟨ts, g8L73, op1, opu, opv, ots, nts, ap1Xts, apuXts, apvXts, lE⟩
 refine ob_i (vExt_30 _ _ _) (ob_i (vExt_31 _ _ _) (ob_i (vExt_32 _ _ _) (ob_i (a := .bool true) rfl ?_)))
 refine cnd_t1 ?_
 have hok : ¬ (fieldN 1 r c l ∧ (cenN (nmL r c l (stsL c l l.length))).length ≤ 64) := by intro h; first | exact absurd h.1 (by assumption) | (have := h.2; omega)
 replace lE := lE.trans le6
 exact keq (K := K) (by rw [decide_eq_false (show ¬ (fieldN 1 r c l ∧ (cenN (nmL r c l (stsL c l l.length))).length ≤ 64) from by exact hok)]; try rfl) (hk  (.slice none 0 0) (.slice none 0 0) _ (Own.cast (show [] = selL (fieldN 1 r c l ∧ (cenN (nmL r c l (stsL c l l.length))).length ≤ 64) (cenN (nmL r c l (stsL c l l.length))) by exact (selL_f hok).symm) (Own.nil_of none)) (Own.cast (show [] = selL (fieldN 1 r c l ∧ (cenN (nmL r c l (stsL c l l.length))).length ≤ 64) (cenC (nmL r c l (stsL c l l.length))) by exact (selL_f hok).symm) (Own.nil_of none)) (fun b hb => by simp [bk] at hb) (fun b hb => by simp [bk] at hb) (fun b hb => by simp [bk] at hb) lE)

theorem lt_snoc {k : Nat} {P : Nat → Prop} (h : ∀ j, j < k → P j) (hk : P k) : ∀ j, j < k + 1 → P j := fun j hj => by
  rcases Nat.lt_or_ge j k with h1 | h1
  · exact h j h1
  · obtain rfl : j = k := by omega
    exact hk
theorem mid_eq' {ns : List Txt} (cs : List Int) {p : Nat} (h : cs.length = ns.length) : ((cs.drop (0 : Int).toNat).take ((p : Int).toNat - (0 : Int).toNat) ++ [1]) ++ (cs.drop (p : Int).toNat).take (((cs.length : Nat) : Int).toNat - (p : Int).toNat) = cs.take p ++ [1] ++ cs.drop p := by
  rw [Int.toNat_natCast, Int.toNat_natCast, List.take_of_length_le (l := cs.drop p) (by simp)]
  rfl
theorem mid_eq {α : Type} (l : List α) (x : α) (p : Nat) : ((l.drop (0 : Int).toNat).take ((p : Int).toNat - (0 : Int).toNat) ++ [x]) ++ (l.drop (p : Int).toNat).take (((l.length : Nat) : Int).toNat - (p : Int).toNat) = l.take p ++ [x] ++ l.drop p := by
  rw [Int.toNat_natCast, Int.toNat_natCast, List.take_of_length_le (l := l.drop p) (by simp)]
  rfl
set_option maxHeartbeats 2000000 in
theorem C.c114 {p0 : Value}  {H : Hp} {K : Value → Hp → Prop} (hp00 : Cel H p0 [(.int .i64 (r)), (.int .i64 (c)), vc]) (hvc0 : Sl eI H vc l) (hf : fieldN 1 r c l)
    (hk : ∀ u1 u2 H', Own vS H' u1 (cenN (nmL r c l (stsL c l l.length))) → Own eI H' u2 (cenC (nmL r c l (stsL c l l.length))) → Nw H u1 → Nw H u2 → Apart u1 u2 → Le H H' → K (.tuple #[u1, u2, (.bool (decide (((cenN (nmL r c l (stsL c l l.length))).length : Int) ≤ 64)))]) H') : HT prg 29 [p0].toArray H K := by
 have lE := Le.refl H
 refine R.q29 ?_
 unfold F.q29
 have hs := hf.1
 have hl := hf.2.1
 have q1 := hs.1
 have q2 := hs.2
 have qm := sidesF_mul hs
 have l1 := fieldN_len hf
 have sl := stsL_len (c := c) (l := l) l.length
 have pl1 := prtL_len (r := r) (c := c) (l := l) (L := (stsL c l l.length))
 have nl0 := nmL_len (r := r) (c := c) (l := l) (L := (stsL c l l.length))
 refine C.c78 (hp00.le lE) (hvc0.le lE) (by first | omega | assumption) (fun  u3 Su3 u4 H1 ou3 ou4 nn5 nn6 au3Xu4 le2 => ?_)
 refine ob_i (vExt_20 _ _) (ob_i (vExt_21 _ _) (bS_nil (enc := vS) (fun ns H7 ons nn8 kk9 le10 => ?_)))
 have au3Xns : Apt Su3 ns := Apt.of_nw ou3.known nn8
 have au4Xns := ou4.apart nn8
 replace lE := lE.trans le2
 have nns := nn8.le lE
 refine bS_nil (enc := eI) (fun cs H11 ocs nn12 kk13 le14 => ?_)
 replace ou3 := ou3.le le10
 have au3Xcs : Apt Su3 cs := Apt.of_nw ou3.known nn12
 replace ou4 := ou4.le le10
 have au4Xcs := ou4.apart nn12
 have ansXcs := ons.apart nn12
 replace lE := lE.trans le10
 have ncs := nn12.le lE
 refine jn_i (fun σ' H' => ∃ ns, ∃ cs, σ' 7 = ns ∧ σ' 8 = cs ∧ Fam H' u3 Su3 (prtL r c l (stsL c l l.length)) ∧ Own eI H' u4 (plcL r c l (stsL c l l.length)) ∧ Own vS H' ns (cenN (nmL r c l (stsL c l l.length))) ∧ Own eI H' cs (cenC (nmL r c l (stsL c l l.length))) ∧ Nw H ns ∧ Apt Su3 ns ∧ Apart u4 ns ∧ Nw H cs ∧ Apt Su3 cs ∧ Apart u4 cs ∧ Apart ns cs ∧ Le H H') (fun σ15 H15 hP => ?_) (fun J15 hJ15 => ?_)
 replace ou3 := ou3.le le14
 replace ou4 := ou4.le le14
 replace ons := ons.le le14
 replace lE := lE.trans le14
 obtain ⟨ns, cs, g7L15, g8L15, ou3, ou4, ons, ocs, nns, au3Xns, au4Xns, ncs, au3Xcs, au4Xcs, ansXcs, lE⟩ := hP
 try simp only [g7L15, g8L15]
 refine ob_i (ons.len) (ob_i (vInt_leq _ _ _) ?_)
 exact keq (K := K) (by rw [show decide ((((cenN (nmL r c l (stsL c l l.length))).length : Int)) ≤ 64) = decide (((cenN (nmL r c l (stsL c l l.length))).length : Int) ≤ 64) from decide_eq_decide.mpr (by first | omega | assumption)]; try rfl) (hk  ns cs _ ons ocs nns ncs ansXcs lE)
 replace ou3 := ou3.le le14
 refine ob_i (ou3.len) ?_
 replace ou4 := ou4.le le14
 replace ons := ons.le le14
 replace lE := lE.trans le14
 refine ⟨fun n' σ' H' => ∃ t : Nat, n' = (stsL c l l.length).length - t ∧ t ≤ (stsL c l l.length).length ∧ ∃ ns, ∃ cs, ∃ nl : List Txt, ∃ cl : List Int, σ' 5 = u3 ∧ σ' 7 = ns ∧ σ' 8 = cs ∧ σ' 22 = (.int .i64 (((prtL r c l (stsL c l l.length)).length : Int))) ∧ σ' 23 = (.int .i64 ((t : Int))) ∧ Fam H' u3 Su3 (prtL r c l (stsL c l l.length)) ∧ Own eI H' u4 (plcL r c l (stsL c l l.length)) ∧ Own vS H' ns (nl) ∧ Own eI H' cs (cl) ∧ Nw H ns ∧ Apt Su3 ns ∧ Apart u4 ns ∧ Nw H cs ∧ Apt Su3 cs ∧ Apart u4 cs ∧ Apart ns cs ∧ Le H H' ∧ Cen nl cl (nmL r c l ((stsL c l l.length).take t)),
    ⟨_, 0, rfl, by omega, ns, cs, [], [], rfl, rfl, rfl, rfl, (congrArg (Value.int .i64) (by first | omega | rfl | (simp; done))), ou3, ou4, (Own.cast (by first | rfl | (simp; done)) ons), (Own.cast (by first | rfl | (simp; done)) ocs), nns, au3Xns, au4Xns, ncs, au3Xcs, au4Xcs, ansXcs, lE, (by rw [List.take_zero]; exact cen_nil)⟩, ?_⟩
 rintro n16 σ16 H16 ⟨t, rfl, htN, ns, cs, nl, cl, g5L16, g7L16, g8L16, g22L16, g23L16, ou3, ou4, ons, ocs, nns, au3Xns, au4Xns, ncs, au3Xcs, au4Xcs, ansXcs, lE, hcen⟩
 try simp only [g5L16, g22L16, g23L16]
 have tl := nmL_len (r := r) (c := c) (l := l) (L := (stsL c l l.length).take t)
 have tl2 : ((stsL c l l.length).take t).length = t := by rw [List.length_take]; omega
 have cl1 := hcen.len
 have cl2 := hcen.le
 refine ob_i (vInt_lss _ _ _) (cnd_d (fun hg17 => ?_) (fun hg17 => ?_))
 have tt := hg17
 refine jn_i (fun σ' H' => ∃ ns, ∃ cs, ∃ nl2 : List Txt, ∃ cl2 : List Int, σ' 5 = u3 ∧ σ' 7 = ns ∧ σ' 8 = cs ∧ σ' 22 = (.int .i64 (((prtL r c l (stsL c l l.length)).length : Int))) ∧ σ' 23 = (.int .i64 ((t : Int))) ∧ Fam H' u3 Su3 (prtL r c l (stsL c l l.length)) ∧ Own eI H' u4 (plcL r c l (stsL c l l.length)) ∧ Own vS H' ns (nl2) ∧ Own eI H' cs (cl2) ∧ Nw H ns ∧ Apt Su3 ns ∧ Apart u4 ns ∧ Nw H cs ∧ Apt Su3 cs ∧ Apart u4 cs ∧ Apart ns cs ∧ Le H H' ∧ Cen nl2 cl2 (nmL r c l ((stsL c l l.length).take (t + 1)))) (fun σ18 H18 hP => ?_) (fun J18 hJ18 => ?_)
 obtain ⟨ns, cs, nl2, cl2, g5L18, g7L18, g8L18, g22L18, g23L18, ou3, ou4, ons, ocs, nns, au3Xns, au4Xns, ncs, au3Xcs, au4Xcs, ansXcs, lE, hcen2⟩ := hP
 try simp only [g23L18]
 refine ob_i (vInt_add (by omega) (by omega)) ?_
 exact nxt ((stsL c l l.length).length - (t + 1)) (by omega) ⟨t + 1, rfl, by omega, ns, cs, _, _, g5L18, g7L18, g8L18, g22L18, (congrArg (Value.int .i64) (by first | omega | rfl | (simp; done))), ou3, ou4, ons, ocs, nns, au3Xns, au4Xns, ncs, au3Xcs, au4Xcs, ansXcs, lE, hcen2⟩
 obtain ⟨P19, y20, hb21a, oP19, oy20, hb21p, hb21x⟩ := ou3.el (i := (t : Int)) (f := ⟨(prtF r c l (at_ 0 (stsL c l l.length) (t : Int))).r, (prtF r c l (at_ 0 (stsL c l l.length) (t : Int))).c, (prtF r c l (at_ 0 (stsL c l l.length) (t : Int))).l⟩) (by omega) (by first | omega | (simp; omega)) (prt_at (by omega))
 replace oP19 : CelR H16 P19 [(.int .i64 ((prtF r c l (at_ 0 (stsL c l l.length) (t : Int))).r)), (.int .i64 ((prtF r c l (at_ 0 (stsL c l l.length) (t : Int))).c)), y20] := oP19
 replace oy20 : Ro eI H16 y20 ((prtF r c l (at_ 0 (stsL c l l.length) (t : Int))).l) := oy20
 refine ob_i (hb21a) (C.c112 oP19 oy20.sl (by exact part_ok hf (by omega)) (fun   H22    le23 => ?_))
 refine jn_i (fun σ' H' => ∃ p : Nat, σ' 5 = u3 ∧ σ' 7 = ns ∧ σ' 8 = cs ∧ σ' 10 = (vS (nameT ((prtF r c l (at_ 0 (stsL c l l.length) (t : Int))).r) ((prtF r c l (at_ 0 (stsL c l l.length) (t : Int))).c) ((prtF r c l (at_ 0 (stsL c l l.length) (t : Int))).l))) ∧ σ' 11 = (.int .i64 ((p : Int))) ∧ σ' 22 = (.int .i64 (((prtL r c l (stsL c l l.length)).length : Int))) ∧ σ' 23 = (.int .i64 ((t : Int))) ∧ Fam H' u3 Su3 (prtL r c l (stsL c l l.length)) ∧ Own eI H' u4 (plcL r c l (stsL c l l.length)) ∧ Own vS H' ns (nl) ∧ Own eI H' cs (cl) ∧ CelR H' P19 [(.int .i64 ((prtF r c l (at_ 0 (stsL c l l.length) (t : Int))).r)), (.int .i64 ((prtF r c l (at_ 0 (stsL c l l.length) (t : Int))).c)), y20] ∧ Ro eI H' y20 ((prtF r c l (at_ 0 (stsL c l l.length) (t : Int))).l) ∧ Le H H' ∧ (∀ j : Nat, j < p → LtT (at_ [] nl (j : Int)) (nameT (prtF r c l (at_ 0 (stsL c l l.length) (t : Int))).r (prtF r c l (at_ 0 (stsL c l l.length) (t : Int))).c (prtF r c l (at_ 0 (stsL c l l.length) (t : Int))).l)) ∧ p ≤ nl.length ∧ (p < nl.length → ¬ LtT (at_ [] nl (p : Int)) (nameT (prtF r c l (at_ 0 (stsL c l l.length) (t : Int))).r (prtF r c l (at_ 0 (stsL c l l.length) (t : Int))).c (prtF r c l (at_ 0 (stsL c l l.length) (t : Int))).l))) (fun σ24 H24 hP => ?_) (fun J24 hJ24 => ?_)
 replace ou3 := ou3.le le23
 replace ou4 := ou4.le le23
 replace ons := ons.le le23
 replace ocs := ocs.le le23
 replace oP19 := oP19.le le23
 replace oy20 := oy20.le le23
 replace lE := lE.trans le23
 obtain ⟨p, g5L24, g7L24, g8L24, g10L24, g11L24, g22L24, g23L24, ou3, ou4, ons, ocs, oP19, oy20, lE, hlt, hple, hge⟩ := hP
 try simp only [g7L24, g8L24, g10L24, g11L24]
 have c1nl : (((nl).drop (0 : Int).toNat).take ((p : Int).toNat - (0 : Int).toNat)).length = p := by rw [List.length_take, List.length_drop]; omega
 have c2nl : (((nl).drop (p : Int).toNat).take ((((nl).length : Nat) : Int).toNat - (p : Int).toNat)).length = nl.length - p := by rw [List.length_take, List.length_drop]; omega
 have c1cl : (((cl).drop (0 : Int).toNat).take ((p : Int).toNat - (0 : Int).toNat)).length = p := by rw [List.length_take, List.length_drop]; omega
 have c2cl : (((cl).drop (p : Int).toNat).take ((((cl).length : Nat) : Int).toNat - (p : Int).toNat)).length = cl.length - p := by rw [List.length_take, List.length_drop]; omega
 have cb := cen_any hcen (p : Int)
 refine ob_i (ons.len) (ob_i (vInt_lss _ _ _) ?_)
 by_cases hc25 : (p : Int) < (((nl).length : Int))
 refine gT hc25 (gT hc25 (gT hc25 (ob_i (ons.sl.ix (by omega) (by omega)) (gT hc25 (ob_i (ons.sl.ld [] (by omega) (by omega)) (gT hc25 (gT hc25 (ob_i (vStr_eql (at_ [] (nl) ((p : Int))) (nameT ((prtF r c l (at_ 0 (stsL c l l.length) (t : Int))).r) ((prtF r c l (at_ 0 (stsL c l l.length) (t : Int))).c) ((prtF r c l (at_ 0 (stsL c l l.length) (t : Int))).l))) (ob_i (vPick_et (decide_eq_true hc25) _ _) (cnd_d (fun hg26 => ?_) (fun hg26 => ?_)))))))))))
 refine ob_i (ocs.sl.ix (by omega) (by omega)) (ob_i (ocs.sl.ld 0 (by omega) (by omega)) (ob_i (vInt_add (by omega) (by omega)) (ob_i (ocs.sl.ix (by omega) (by omega)) (ocs.st (x := (at_ 0 (cl) ((p : Int))) + 1) (by omega) (by omega) rfl rfl (fun H27 ocs off28 => ?_)))))
 replace ou3 := ou3.off off28 au3Xcs
 replace ou4 := ou4.off off28 au4Xcs
 replace ons := ons.off off28 ansXcs
 replace lE := off28.le lE ncs
 exact hJ18 _ _ ⟨ns, cs, _, _, g5L24, g7L24, g8L24, g22L24, g23L24, ou3, ou4, ons, ocs, nns, au3Xns, au4Xns, ncs, au3Xcs, au4Xcs, ansXcs, lE, (cen_cast (cen_at_hit hcen (by omega) hg26) rfl (by rw [Int.toNat_natCast]) (nmL_take (by omega)))⟩
 refine bS_nil (enc := vS) (fun u29 H30 ou29 nn31 kk32 le33 => ?_)
 replace ons := ons.le le33
 obtain ⟨x34, eq35a, eq35b, eq35c, eq35d, hx340, hb36⟩ := ons.sl.cut (lo := (0 : Int)) (hi := (p : Int)) (by omega) (by omega) (by omega)
 refine ob_i (eq35c rfl) ?_
 have ox34 : Ro vS H30 x34 (((nl).drop ((0 : Int)).toNat).take (((p : Int)).toNat - ((0 : Int)).toNat)) := ⟨hx340, fun b hb => ons.known b (hb36 b hb)⟩
 refine apd_nil ou29 kk32 ox34.sl (fun _ => rfl) (by omega) (by omega) (fun u40 H37 ou40 nn41 le42 => ?_)
 replace ou3 := ou3.le le33
 have au3Xu40 : Apt Su3 u40 := Apt.of_nw ou3.known nn41
 replace ou4 := ou4.le le33
 have au4Xu40 := ou4.apart nn41
 have ansXu40 := ons.apart nn41
 replace ocs := ocs.le le33
 have acsXu40 := ocs.apart nn41
 replace lE := lE.trans le33
 have nu40 := nn41.le lE
 refine bS_i (enc := vS) (l := [nameT ((prtF r c l (at_ 0 (stsL c l l.length) (t : Int))).r) ((prtF r c l (at_ 0 (stsL c l l.length) (t : Int))).c) ((prtF r c l (at_ 0 (stsL c l l.length) (t : Int))).l)]) (by omega) rfl (by kernel_rfl) (fun u43 H44 ou43 nn45 le47 => ?_)
 replace ou40 := ou40.le le47
 refine apd_any ou40 ou43.sl (fun _ => rfl) (by omega) (by first | omega | (simp only [List.length_cons, List.length_nil]; omega)) (fun u51 H48 ou51 off49 hb50 => ?_)
 replace ou3 := (ou3.le le42).le le47
 have au3Xu51 := Apt.ap2 ou3.known au3Xu40 hb50
 replace ou4 := (ou4.le le42).le le47
 have au4Xu51 := Apart.ap2 ou4.known au4Xu40 hb50
 replace ocs := (ocs.le le42).le le47
 have acsXu51 := Apart.ap2 ocs.known acsXu40 hb50
 replace lE := (lE.trans le42).trans le47
 have nu51 : Nw H u51 := Nw.ap2 nu40 lE hb50
 replace ons := ((ons.le le42).le le47).off off49 ansXu40
 obtain ⟨x52, eq53a, eq53b, eq53c, eq53d, hx520, hb54⟩ := ons.sl.cut (lo := (p : Int)) (hi := ((nl).length : Int)) (by omega) (by omega) (by omega)
 refine ob_i (eq53b rfl) ?_
 have ox52 : Ro vS H48 x52 (((nl).drop ((p : Int)).toNat).take ((((nl).length : Int)).toNat - ((p : Int)).toNat)) := ⟨hx520, fun b hb => ons.known b (hb54 b hb)⟩
 refine apd_any ou51 ox52.sl (fun _ => rfl) (by omega) (by first | omega | (simp only [List.length_cons, List.length_nil, List.length_append]; omega)) (fun u58 H55 ou58 off56 hb57 => ?_)
 replace ou3 := ou3.off off49 au3Xu40
 have au3Xu58 := Apt.ap2 ou3.known au3Xu51 hb57
 replace ou4 := ou4.off off49 au4Xu40
 have au4Xu58 := Apart.ap2 ou4.known au4Xu51 hb57
 replace lE := off49.le lE nu40
 have nu58 : Nw H u58 := Nw.ap2 nu51 lE hb57
 refine bS_nil (enc := eI) (fun u59 H60 ou59 nn61 kk62 le63 => ?_)
 replace ocs := ((ocs.off off49 acsXu40).off off56 acsXu51).le le63
 obtain ⟨x64, eq65a, eq65b, eq65c, eq65d, hx640, hb66⟩ := ocs.sl.cut (lo := (0 : Int)) (hi := (p : Int)) (by omega) (by omega) (by omega)
 refine ob_i (eq65c rfl) ?_
 have ox64 : Ro eI H60 x64 (((cl).drop ((0 : Int)).toNat).take (((p : Int)).toNat - ((0 : Int)).toNat)) := ⟨hx640, fun b hb => ocs.known b (hb66 b hb)⟩
 refine apd_nil ou59 kk62 ox64.sl (fun _ => rfl) (by omega) (by omega) (fun u70 H67 ou70 nn71 le72 => ?_)
 replace ou3 := (ou3.off off56 au3Xu51).le le63
 have au3Xu70 : Apt Su3 u70 := Apt.of_nw ou3.known nn71
 replace ou4 := (ou4.off off56 au4Xu51).le le63
 have au4Xu70 := ou4.apart nn71
 have acsXu70 := ocs.apart nn71
 replace ou58 := ou58.le le63
 have au58Xu70 := ou58.apart nn71
 replace lE := (off56.le lE nu51).trans le63
 have nu70 := nn71.le lE
 refine bS_i (enc := eI) (l := [(1 : Int)]) (by omega) rfl (by kernel_rfl) (fun u73 H74 ou73 nn75 le77 => ?_)
 replace ou70 := ou70.le le77
 refine apd_any ou70 ou73.sl (fun _ => rfl) (by omega) (by first | omega | (simp only [List.length_cons, List.length_nil]; omega)) (fun u81 H78 ou81 off79 hb80 => ?_)
 replace ou3 := (ou3.le le72).le le77
 have au3Xu81 := Apt.ap2 ou3.known au3Xu70 hb80
 replace ou4 := (ou4.le le72).le le77
 have au4Xu81 := Apart.ap2 ou4.known au4Xu70 hb80
 replace ou58 := (ou58.le le72).le le77
 have au58Xu81 := Apart.ap2 ou58.known au58Xu70 hb80
 replace lE := (lE.trans le72).trans le77
 have nu81 : Nw H u81 := Nw.ap2 nu70 lE hb80
 replace ocs := ((ocs.le le72).le le77).off off79 acsXu70
 obtain ⟨x82, eq83a, eq83b, eq83c, eq83d, hx820, hb84⟩ := ocs.sl.cut (lo := (p : Int)) (hi := ((cl).length : Int)) (by omega) (by omega) (by omega)
 refine ob_i (eq83b rfl) ?_
 have ox82 : Ro eI H78 x82 (((cl).drop ((p : Int)).toNat).take ((((cl).length : Int)).toNat - ((p : Int)).toNat)) := ⟨hx820, fun b hb => ocs.known b (hb84 b hb)⟩
 refine apd_any ou81 ox82.sl (fun _ => rfl) (by omega) (by first | omega | (simp only [List.length_cons, List.length_nil, List.length_append]; omega)) (fun u88 H85 ou88 off86 hb87 => ?_)
 replace ou3 := ou3.off off79 au3Xu70
 have au3Xu88 := Apt.ap2 ou3.known au3Xu81 hb87
 replace ou4 := ou4.off off79 au4Xu70
 have au4Xu88 := Apart.ap2 ou4.known au4Xu81 hb87
 replace ou58 := ou58.off off79 au58Xu70
 have au58Xu88 := Apart.ap2 ou58.known au58Xu81 hb87
 replace lE := off79.le lE nu70
 have nu88 : Nw H u88 := Nw.ap2 nu81 lE hb87
 replace ou3 := ou3.off off86 au3Xu81
 replace ou4 := ou4.off off86 au4Xu81
 replace ou58 := ou58.off off86 au58Xu81
 replace lE := off86.le lE nu81
 exact hJ18 _ _ ⟨u58, u88, _, _, g5L24, rfl, rfl, g22L24, g23L24, ou3, ou4, ou58, ou88, nu58, au3Xu58, au4Xu58, nu88, au3Xu88, au4Xu88, au58Xu88, lE, (cen_cast (cen_at_new hcen (by omega) hlt (fun hh => ⟨hge hh, hg26⟩)) (mid_eq nl _ p) (mid_eq' cl cl1) (nmL_take (by omega)))⟩
 refine hF hc25 (hF hc25 (hF hc25 (hF hc25 (hF hc25 (hF hc25 (ob_i (vPick_ef (decide_eq_false hc25) _ _) (cnd_f1 (bS_nil (enc := vS) (fun u89 H90 ou89 nn91 kk92 le93 => ?_)))))))))
 replace ons := ons.le le93
 obtain ⟨x94, eq95a, eq95b, eq95c, eq95d, hx940, hb96⟩ := ons.sl.cut (lo := (0 : Int)) (hi := (p : Int)) (by omega) (by omega) (by omega)
 refine ob_i (eq95c rfl) ?_
 have ox94 : Ro vS H90 x94 (((nl).drop ((0 : Int)).toNat).take (((p : Int)).toNat - ((0 : Int)).toNat)) := ⟨hx940, fun b hb => ons.known b (hb96 b hb)⟩
 refine apd_nil ou89 kk92 ox94.sl (fun _ => rfl) (by omega) (by omega) (fun u100 H97 ou100 nn101 le102 => ?_)
 replace ou3 := ou3.le le93
 have au3Xu100 : Apt Su3 u100 := Apt.of_nw ou3.known nn101
 replace ou4 := ou4.le le93
 have au4Xu100 := ou4.apart nn101
 have ansXu100 := ons.apart nn101
 replace ocs := ocs.le le93
 have acsXu100 := ocs.apart nn101
 replace lE := lE.trans le93
 have nu100 := nn101.le lE
 refine bS_i (enc := vS) (l := [nameT ((prtF r c l (at_ 0 (stsL c l l.length) (t : Int))).r) ((prtF r c l (at_ 0 (stsL c l l.length) (t : Int))).c) ((prtF r c l (at_ 0 (stsL c l l.length) (t : Int))).l)]) (by omega) rfl (by kernel_rfl) (fun u103 H104 ou103 nn105 le107 => ?_)
 replace ou100 := ou100.le le107
 refine apd_any ou100 ou103.sl (fun _ => rfl) (by omega) (by first | omega | (simp only [List.length_cons, List.length_nil]; omega)) (fun u111 H108 ou111 off109 hb110 => ?_)
 replace ou3 := (ou3.le le102).le le107
 have au3Xu111 := Apt.ap2 ou3.known au3Xu100 hb110
 replace ou4 := (ou4.le le102).le le107
 have au4Xu111 := Apart.ap2 ou4.known au4Xu100 hb110
 replace ocs := (ocs.le le102).le le107
 have acsXu111 := Apart.ap2 ocs.known acsXu100 hb110
 replace lE := (lE.trans le102).trans le107
 have nu111 : Nw H u111 := Nw.ap2 nu100 lE hb110
 replace ons := ((ons.le le102).le le107).off off109 ansXu100
 obtain ⟨x112, eq113a, eq113b, eq113c, eq113d, hx1120, hb114⟩ := ons.sl.cut (lo := (p : Int)) (hi := ((nl).length : Int)) (by omega) (by omega) (by omega)
 refine ob_i (eq113b rfl) ?_
 have ox112 : Ro vS H108 x112 (((nl).drop ((p : Int)).toNat).take ((((nl).length : Int)).toNat - ((p : Int)).toNat)) := ⟨hx1120, fun b hb => ons.known b (hb114 b hb)⟩
 refine apd_any ou111 ox112.sl (fun _ => rfl) (by omega) (by first | omega | (simp only [List.length_cons, List.length_nil, List.length_append]; omega)) (fun u118 H115 ou118 off116 hb117 => ?_)
 replace ou3 := ou3.off off109 au3Xu100
 have au3Xu118 := Apt.ap2 ou3.known au3Xu111 hb117
 replace ou4 := ou4.off off109 au4Xu100
 have au4Xu118 := Apart.ap2 ou4.known au4Xu111 hb117
 replace lE := off109.le lE nu100
 have nu118 : Nw H u118 := Nw.ap2 nu111 lE hb117
 refine bS_nil (enc := eI) (fun u119 H120 ou119 nn121 kk122 le123 => ?_)
 replace ocs := ((ocs.off off109 acsXu100).off off116 acsXu111).le le123
 obtain ⟨x124, eq125a, eq125b, eq125c, eq125d, hx1240, hb126⟩ := ocs.sl.cut (lo := (0 : Int)) (hi := (p : Int)) (by omega) (by omega) (by omega)
 refine ob_i (eq125c rfl) ?_
 have ox124 : Ro eI H120 x124 (((cl).drop ((0 : Int)).toNat).take (((p : Int)).toNat - ((0 : Int)).toNat)) := ⟨hx1240, fun b hb => ocs.known b (hb126 b hb)⟩
 refine apd_nil ou119 kk122 ox124.sl (fun _ => rfl) (by omega) (by omega) (fun u130 H127 ou130 nn131 le132 => ?_)
 replace ou3 := (ou3.off off116 au3Xu111).le le123
 have au3Xu130 : Apt Su3 u130 := Apt.of_nw ou3.known nn131
 replace ou4 := (ou4.off off116 au4Xu111).le le123
 have au4Xu130 := ou4.apart nn131
 have acsXu130 := ocs.apart nn131
 replace ou118 := ou118.le le123
 have au118Xu130 := ou118.apart nn131
 replace lE := (off116.le lE nu111).trans le123
 have nu130 := nn131.le lE
 refine bS_i (enc := eI) (l := [(1 : Int)]) (by omega) rfl (by kernel_rfl) (fun u133 H134 ou133 nn135 le137 => ?_)
 replace ou130 := ou130.le le137
 refine apd_any ou130 ou133.sl (fun _ => rfl) (by omega) (by first | omega | (simp only [List.length_cons, List.length_nil]; omega)) (fun u141 H138 ou141 off139 hb140 => ?_)
 replace ou3 := (ou3.le le132).le le137
 have au3Xu141 := Apt.ap2 ou3.known au3Xu130 hb140
 replace ou4 := (ou4.le le132).le le137
 have au4Xu141 := Apart.ap2 ou4.known au4Xu130 hb140
 replace ou118 := (ou118.le le132).le le137
 have au118Xu141 := Apart.ap2 ou118.known au118Xu130 hb140
 replace lE := (lE.trans le132).trans le137
 have nu141 : Nw H u141 := Nw.ap2 nu130 lE hb140
 replace ocs := ((ocs.le le132).le le137).off off139 acsXu130
 obtain ⟨x142, eq143a, eq143b, eq143c, eq143d, hx1420, hb144⟩ := ocs.sl.cut (lo := (p : Int)) (hi := ((cl).length : Int)) (by omega) (by omega) (by omega)
 refine ob_i (eq143b rfl) ?_
 have ox142 : Ro eI H138 x142 (((cl).drop ((p : Int)).toNat).take ((((cl).length : Int)).toNat - ((p : Int)).toNat)) := ⟨hx1420, fun b hb => ocs.known b (hb144 b hb)⟩
 refine apd_any ou141 ox142.sl (fun _ => rfl) (by omega) (by first | omega | (simp only [List.length_cons, List.length_nil, List.length_append]; omega)) (fun u148 H145 ou148 off146 hb147 => ?_)
 replace ou3 := ou3.off off139 au3Xu130
 have au3Xu148 := Apt.ap2 ou3.known au3Xu141 hb147
 replace ou4 := ou4.off off139 au4Xu130
 have au4Xu148 := Apart.ap2 ou4.known au4Xu141 hb147
 replace ou118 := ou118.off off139 au118Xu130
 have au118Xu148 := Apart.ap2 ou118.known au118Xu141 hb147
 replace lE := off139.le lE nu130
 have nu148 : Nw H u148 := Nw.ap2 nu141 lE hb147
 replace ou3 := ou3.off off146 au3Xu141
 replace ou4 := ou4.off off146 au4Xu141
 replace ou118 := ou118.off off146 au118Xu141
 replace lE := off146.le lE nu141
 exact hJ18 _ _ ⟨u118, u148, _, _, g5L24, rfl, rfl, g22L24, g23L24, ou3, ou4, ou118, ou148, nu118, au3Xu118, au4Xu118, nu148, au3Xu148, au4Xu148, au118Xu148, lE, (cen_cast (cen_at_new hcen (by omega) hlt (fun hh => ⟨hge hh, fun _ => absurd hh (by omega)⟩)) (mid_eq nl _ p) (mid_eq' cl cl1) (nmL_take (by omega)))⟩
 replace ou3 := ou3.le le23
 replace ou4 := ou4.le le23
 replace ons := ons.le le23
 replace ocs := ocs.le le23
 replace oP19 := oP19.le le23
 replace oy20 := oy20.le le23
 replace lE := lE.trans le23
 refine ⟨fun n' σ' H' => ∃ k : Nat, n' = nl.length - k ∧ k ≤ nl.length ∧ σ' 5 = u3 ∧ σ' 7 = ns ∧ σ' 8 = cs ∧ σ' 10 = (vS (nameT ((prtF r c l (at_ 0 (stsL c l l.length) (t : Int))).r) ((prtF r c l (at_ 0 (stsL c l l.length) (t : Int))).c) ((prtF r c l (at_ 0 (stsL c l l.length) (t : Int))).l))) ∧ σ' 11 = (.int .i64 ((k : Int))) ∧ σ' 22 = (.int .i64 (((prtL r c l (stsL c l l.length)).length : Int))) ∧ σ' 23 = (.int .i64 ((t : Int))) ∧ Fam H' u3 Su3 (prtL r c l (stsL c l l.length)) ∧ Own eI H' u4 (plcL r c l (stsL c l l.length)) ∧ Own vS H' ns (nl) ∧ Own eI H' cs (cl) ∧ CelR H' P19 [(.int .i64 ((prtF r c l (at_ 0 (stsL c l l.length) (t : Int))).r)), (.int .i64 ((prtF r c l (at_ 0 (stsL c l l.length) (t : Int))).c)), y20] ∧ Ro eI H' y20 ((prtF r c l (at_ 0 (stsL c l l.length) (t : Int))).l) ∧ Le H H' ∧ (∀ j : Nat, j < k → LtT (at_ [] nl (j : Int)) (nameT (prtF r c l (at_ 0 (stsL c l l.length) (t : Int))).r (prtF r c l (at_ 0 (stsL c l l.length) (t : Int))).c (prtF r c l (at_ 0 (stsL c l l.length) (t : Int))).l)),
    ⟨_, 0, rfl, by omega, g5L16, g7L16, g8L16, rfl, (congrArg (Value.int .i64) (by first | omega | rfl | (simp; done))), g22L16, g23L16, ou3, ou4, ons, ocs, oP19, oy20, lE, (fun j hj => absurd hj (by omega))⟩, ?_⟩
 rintro n149 σ149 H149 ⟨k, rfl, hkN, g5L149, g7L149, g8L149, g10L149, g11L149, g22L149, g23L149, ou3, ou4, ons, ocs, oP19, oy20, lE, hlt⟩
 try simp only [g7L149, g10L149, g11L149]
 refine ob_i (ons.len) (ob_i (vInt_lss _ _ _) ?_)
 by_cases hc150 : (k : Int) < (((nl).length : Int))
 refine gT hc150 (gT hc150 (gT hc150 (ob_i (ons.sl.ix (by omega) (by omega)) (gT hc150 (ob_i (ons.sl.ld [] (by omega) (by omega)) (gT hc150 (gT hc150 (ob_i (vStr_lss (at_ [] (nl) ((k : Int))) (nameT ((prtF r c l (at_ 0 (stsL c l l.length) (t : Int))).r) ((prtF r c l (at_ 0 (stsL c l l.length) (t : Int))).c) ((prtF r c l (at_ 0 (stsL c l l.length) (t : Int))).l))) (ob_i (vPick_et (decide_eq_true hc150) _ _) (cnd_i (fun hg151 => ?_) (fun hg151 => ?_)))))))))))
 refine ob_i (vInt_add (by omega) (by omega)) ?_
 exact nxt (nl.length - (k + 1)) (by omega) ⟨k + 1, rfl, by omega, g5L149, g7L149, g8L149, g10L149, (congrArg (Value.int .i64) (by first | omega | rfl | (simp; done))), g22L149, g23L149, ou3, ou4, ons, ocs, oP19, oy20, lE, (lt_snoc hlt hg151)⟩
 exact hJ24 _ _ ⟨k, g5L149, g7L149, g8L149, g10L149, (g11L149.trans (congrArg (Value.int .i64) (by first | omega | rfl | (simp; done)))), g22L149, g23L149, ou3, ou4, ons, ocs, oP19, oy20, lE, hlt, (by omega), (fun _ h9 => absurd (h9.symm.trans hg151) (by decide))⟩
 refine hF hc150 (hF hc150 (hF hc150 (hF hc150 (hF hc150 (hF hc150 (ob_i (vPick_ef (decide_eq_false hc150) _ _) (cnd_f1 ?_)))))))
 exact hJ24 _ _ ⟨k, g5L149, g7L149, g8L149, g10L149, (g11L149.trans (congrArg (Value.int .i64) (by first | omega | rfl | (simp; done)))), g22L149, g23L149, ou3, ou4, ons, ocs, oP19, oy20, lE, hlt, (by omega), (fun h9 => absurd h9 (by omega))⟩
 have tt := hg17
 have hce := cen_eq (M := (nmL r c l (stsL c l l.length))) hcen (by rw [List.take_of_length_le (by omega)])
 exact hJ15 _ _ ⟨ns, cs, g7L16, g8L16, ou3, ou4, (Own.cast hce.1 ons), (Own.cast hce.2 ocs), nns, au3Xns, au4Xns, ncs, au3Xcs, au4Xcs, ansXcs, lE⟩

end Go.Proofs.YtnijdhlmimemcaaGreatDoor
/- What soups become. -/
namespace Go.Proofs.YtnijdhlmimemcaaGreatDoor
open HL
set_option maxRecDepth 100000
attribute [local irreducible] vStr
theorem C.c115 {vc : Value} {r c : Int} {l : List Int} {H : Hp} {K : Value → Hp → Prop} (hvc0 : Sl eI H vc l) (k1 : l.length ≤ 9223372036854775807)
    (hk1 : (fieldN 1 r c l ∧ (cenN (nmL r c l (stsL c l l.length))).length ≤ 64) → ∀ u1 u2 H', Own vS H' u1 (cenN (nmL r c l (stsL c l l.length))) → Own eI H' u2 (cenC (nmL r c l (stsL c l l.length))) → Nw H u1 → Nw H u2 → Apart u1 u2 → Le H H' → K (.tuple #[u1, u2, .bool true]) H')
    (hk2 : ¬ (fieldN 1 r c l ∧ (cenN (nmL r c l (stsL c l l.length))).length ≤ 64) → ∀ u1 u2 H', Own vS H' u1 [] → Own eI H' u2 [] → Nw H u1 → Nw H u2 → Apart u1 u2 → Le H H' → K (.tuple #[u1, u2, .bool false]) H') : HT prg 27 [.agg #[.int .i64 r, .int .i64 c, vc]].toArray H K := by
  refine C.c113 hvc0 k1 (fun u1 u2 H' o1 o2 n1 n2 a le => ?_)
  by_cases h : fieldN 1 r c l ∧ (cenN (nmL r c l (stsL c l l.length))).length ≤ 64
  · rw [selL_t h] at o1 o2
    rw [decide_eq_true h]
    exact hk1 h u1 u2 H' o1 o2 n1 n2 a le
  · rw [selL_f h] at o1 o2
    rw [decide_eq_false h]
    exact hk2 h u1 u2 H' o1 o2 n1 n2 a le
end Go.Proofs.YtnijdhlmimemcaaGreatDoor
/- What crashes leave. -/
namespace Go.Proofs.YtnijdhlmimemcaaGreatDoor
open HL
variable {ra ca rb cb row col r c b st : Int} {la lb l s : List Int} {vc vb vs va vb2 : Value} {H : Hp} {K : Value → Hp → Prop}
set_option maxRecDepth 100000
attribute [local irreducible] vStr
section
variable {r c b : Int} {l : List Int}
theorem groW_field (h : groOk r c l b) : fieldN 1 (r + 2 * b) (c + 2 * b) (groW r c l b) := mkL_field ⟨h.2.2.1, h.2.2.2⟩ (fun i k => flatF_01 h.1 _ _)
theorem metL0_field (h : metOk ra ca la rb cb lb row col) : fieldN 1 (max ra (row + rb)) (max ca (col + cb)) (metL0 ra ca la rb cb lb row col) := mkL_field ⟨h.2.2.2.2.1, h.2.2.2.2.2⟩ (fun i k => by
  have h1 := flatF_01 h.1 i k
  have h2 := flatF_01 h.2.1 (i - row) (k - col)
  unfold metG
  omega)
end
theorem C.c116 (hc : Sl eI H vc l) (k1 : l.length ≤ 9223372036854775807) (hk1 : groOk r c l b → ∀ u H', Own eI H' u (groW r c l b) → Nw H u → Le H H' → K (.tuple #[.agg #[.int .i64 (r + 2 * b), .int .i64 (c + 2 * b), u], .bool true]) H')
    (hk2 : ¬ groOk r c l b → ∀ u H', Own eI H' u [] → Nw H u → Le H H' → K (.tuple #[.agg #[.int .i64 0, .int .i64 0, u], .bool false]) H') : HT prg 60 [.agg #[.int .i64 r, .int .i64 c, vc], .int .i64 b].toArray H K := by
  refine C.c22 hc k1 (fun u H' o n le => ?_)
  by_cases h : groOk r c l b
  · simp only [groL, groI, h, if_true, decide_true] at o ⊢
    exact hk1 h u H' o n le
  · simp only [groL, groI, h, if_false, decide_false] at o ⊢
    exact hk2 h u H' o n le
theorem C.c117 (hc : Sl eI H vc l) (k1 : l.length ≤ 9223372036854775807) (hk1 : groOk r c l b → ∀ u H', Own eI H' u (groW r c l b) → Nw H u → Le H H' → K (.tuple #[.agg #[.int .i64 (r + 2 * b), .int .i64 (c + 2 * b), u], .bool true]) H')
    (hk2 : ¬ groOk r c l b → ∀ u H', Own eI H' u [] → Nw H u → Le H H' → K (.tuple #[.agg #[.int .i64 0, .int .i64 0, u], .bool false]) H') : HT prg 64 [.agg #[.int .i64 r, .int .i64 c, vc], .int .i64 b].toArray H K := by
  refine C.c26 hc k1 (fun u H' o n le => ?_)
  by_cases h : groOk r c l b
  · simp only [groL, groI, h, if_true, decide_true] at o ⊢
    exact hk1 h u H' o n le
  · simp only [groL, groI, h, if_false, decide_false] at o ⊢
    exact hk2 h u H' o n le
/-- What the names of a crash's parts are told of. -/
noncomputable abbrev crN (b s la lb : List Int) (ra ca rb cb row col st : Int) : List Txt := (nmL ((max ra (row + rb)) + 2 * st) ((max ca (col + cb)) + 2 * st) (rnL false b s ((max ra (row + rb)) + 2 * st) ((max ca (col + cb)) + 2 * st) (groW (max ra (row + rb)) (max ca (col + cb)) (metL0 ra ca la rb cb lb row col) st) st.toNat) (stsL ((max ca (col + cb)) + 2 * st) (rnL false b s ((max ra (row + rb)) + 2 * st) ((max ca (col + cb)) + 2 * st) (groW (max ra (row + rb)) (max ca (col + cb)) (metL0 ra ca la rb cb lb row col) st) st.toNat) ((rnL false b s ((max ra (row + rb)) + 2 * st) ((max ca (col + cb)) + 2 * st) (groW (max ra (row + rb)) (max ca (col + cb)) (metL0 ra ca la rb cb lb row col) st) st.toNat)).length))
abbrev crP (b s la lb : List Int) (ra ca rb cb row col st : Int) : Prop := lifP b s ∧ metOk ra ca la rb cb lb row col ∧ groOk (max ra (row + rb)) (max ca (col + cb)) (metL0 ra ca la rb cb lb row col) st ∧ (0 ≤ st ∧ st ≤ 8) ∧ (cenN (crN b s la lb ra ca rb cb row col st)).length ≤ 64
theorem C.c118 {b : List Int}  {H : Hp} {K : Value → Hp → Prop} (hvb0 : Sl eI H vb b) (hvs0 : Sl eI H vs s) (hva0 : Sl eI H va la) (hvb20 : Sl eI H vb2 lb) (kb : b.length ≤ 9223372036854775807) (ks : s.length ≤ 9223372036854775807) (k1 : la.length ≤ 9223372036854775807) (k2 : lb.length ≤ 9223372036854775807)
    (hk : ∀ u1 u2 H', Own vS H' u1 (selL (crP b s la lb ra ca rb cb row col st) (cenN (crN b s la lb ra ca rb cb row col st))) → Own eI H' u2 (selL (crP b s la lb ra ca rb cb row col st) (cenC (crN b s la lb ra ca rb cb row col st))) → Nw H u1 → Nw H u2 → Apart u1 u2 → Le H H' → K (.tuple #[u1, u2, (.bool (decide (crP b s la lb ra ca rb cb row col st)))]) H') : HT prg 21 [(.agg #[vb, vs]), (.agg #[(.int .i64 (ra)), (.int .i64 (ca)), va]), (.agg #[(.int .i64 (rb)), (.int .i64 (cb)), vb2]), (.int .i64 (row)), (.int .i64 (col)), (.int .i64 (st))].toArray H K := by
 have lE := Le.refl H
 refine R.q21 ?_
 unfold F.q21
 refine nw_i (fun p1 H2 op1 nn3 le4 => ?_)
 replace op1 : Cel H2 p1 [vb, vs] := op1
 refine nw_i (fun p5 H6 op5 nn7 le8 => ?_)
 replace op5 : Cel H6 p5 [(.int .i64 (ra)), (.int .i64 (ca)), va] := op5
 refine nw_i (fun p9 H10 op9 nn11 le12 => ?_)
 replace op9 : Cel H10 p9 [(.int .i64 (rb)), (.int .i64 (cb)), vb2] := op9
 replace op5 := op5.le le12
 refine ob_i (op5.ldn rfl) (ob_i (op9.ldn rfl) ?_)
 replace lE := ((lE.trans le4).trans le8).trans le12
 refine C.c71 (hva0.le lE) (hvb20.le lE) (by first | omega | assumption) (by first | omega | assumption) (fun hc13  H14    le15 => ?_) (fun hc16 u19 H17 ou19 nn20  le18 => ?_)
 refine ob_i (vExt_20 _ _) (ob_i (vExt_21 _ _) (nw_i (fun p21 H22 op21 nn23 le24 => ?_)))
 replace lE := lE.trans le15
 have np21 := nn23.le lE
 refine op21.stn (ws := [(.int .i64 (0)), (.int .i64 (0)), (.slice none 0 0)]) rfl rfl (oc1 rfl (oc1 rfl (oc1 rfl oc0))) (fun H25 op21 off26 => ?_)
 refine ob_i (a := .bool true) rfl ?_
 refine gop_st (gop_st (gop_st (ob_i (vPick_t _ _) (gop_st (gop_st (gop_st (ob_i (vPick_t _ _) (cnd_t1 ?_))))))))
 have hok : ¬ (crP b s la lb ra ca rb cb row col st) := by intro h; obtain ⟨h1, h2, h3, h4, h5⟩ := h; first | exact absurd h1 (by assumption) | exact absurd h2 (by assumption) | exact absurd h3 (by assumption) | exact absurd h4 (by assumption) | exact absurd (show canP b s ra ca la from ⟨h1, h2.1⟩) (by assumption) | exact absurd h2.2.1 (by assumption) | exact absurd h2.2.2 (by assumption) | exact absurd (And.intro hrf h5) (by assumption) | exact absurd (Int.ofNat_le.mpr h5) (by assumption) | omega
 replace lE := off26.le (lE.trans le24) np21
 exact keq (K := K) (by rw [decide_eq_false (show ¬ (crP b s la lb ra ca rb cb row col st) from by exact hok)]; try rfl) (hk  (.slice none 0 0) (.slice none 0 0) _ (Own.cast (show [] = selL (crP b s la lb ra ca rb cb row col st) (cenN (crN b s la lb ra ca rb cb row col st)) by exact (selL_f hok).symm) (Own.nil_of none)) (Own.cast (show [] = selL (crP b s la lb ra ca rb cb row col st) (cenC (crN b s la lb ra ca rb cb row col st)) by exact (selL_f hok).symm) (Own.nil_of none)) (fun b hb => by simp [bk] at hb) (fun b hb => by simp [bk] at hb) (fun b hb => by simp [bk] at hb) lE)
 have hmk := hc16
 have hmf := metL0_field hmk
 have lmf := fieldN_len hmf
 refine ob_i (vExt_20 _ _) (ob_i (vExt_21 _ _) (nw_i (fun p27 H28 op27 nn29 le30 => ?_)))
 replace op1 := ((op1.le le8).le le12).le le18
 have ap1Xp27 := op1.apart nn29
 have au19Xp27 := ou19.apart nn29
 replace lE := lE.trans le18
 have np27 := nn29.le lE
 replace ou19 := ou19.le le30
 refine op27.stn (ws := [(.int .i64 (max ra (row + rb))), (.int .i64 (max ca (col + cb))), u19]) rfl rfl (oc1 rfl (oc1 rfl (oc1 ou19.one oc0))) (fun H31 op27 off32 => ?_)
 refine ob_i (a := .bool false) rfl ?_
 refine gop_rf ?_
 replace op1 := (op1.le le30).off off32 ap1Xp27
 refine ob_i (op1.ldn rfl) (gop_rf ?_)
 replace lE := off32.le (lE.trans le30) np27
 refine C.c39 (hvb0.le lE) (hvs0.le lE) (by first | omega | assumption) (by first | omega | assumption) (fun   H33    le34 => ?_)
 refine gop_rf (ob_nd (fun hc35 => ?_) (fun hc35 => ?_))
 refine ob_i (vPick_f _ _) (gop_rf (gop_rf (C.c1  ?_)))
 refine gop_rf (ob_nd (fun hc36 => ?_) (fun hc36 => ?_))
 refine ob_i (vPick_f _ _) (cnd_f1 ?_)
 replace op27 := op27.le le34
 refine ob_i (op27.ldn rfl) ?_
 replace ou19 := (ou19.off off32 au19Xp27).le le34
 refine C.c116 ou19.sl (by first | omega | assumption) (fun hc37 u40 H38 ou40 nn41  le39 => ?_) (fun hc42 u45 H43 ou45 nn46  le44 => ?_)
 have hgo := hc37
 have hgf := groW_field hgo
 have hrf := rnL_field (rnd := false) (b := b) (s := s) hgf st.toNat
 have lgf := fieldN_len hgf
 have lrf := fieldN_len hrf
 have ap27Xu40 := op27.apart nn41
 refine ob_i (vExt_20 _ _) (ob_i (vExt_21 _ _) ?_)
 replace op27 := op27.le le39
 refine op27.stn (ws := [(.int .i64 ((max ra (row + rb)) + 2 * st)), (.int .i64 ((max ca (col + cb)) + 2 * st)), u40]) rfl rfl (oc1 rfl (oc1 rfl (oc1 ou40.one oc0))) (fun H47 op27 off48 => ?_)
 refine ob_i (a := .bool false) rfl ?_
 refine cnd_f1 ?_
 replace op1 := ((op1.le le34).le le39).off off48 ap1Xp27
 refine ob_i (op1.ldn rfl) (ob_i (op27.ldn rfl) ?_)
 replace lE := off48.le ((lE.trans le34).trans le39) np27
 replace ou40 := ou40.off off48 ap27Xu40.symm
 refine C.c56 (hvb0.le lE) (hvs0.le lE) ou40.sl (by exact hgf) (by first | omega | assumption) (by first | omega | assumption) (by first | omega | assumption) (by first | omega | assumption) (fun  u51 H49 ou51 nn52  le50 => ?_)
 refine C.c115 ou51.sl (by first | omega | assumption) (fun hc53 u56 u57 H54 ou56 ou57 nn58 nn59 au56Xu57 le55 => ?_) (fun hc60 u63 u64 H61 ou63 ou64 nn65 nn66 au63Xu64 le62 => ?_)
 replace lE := lE.trans le50
 have nu56 := nn58.le lE
 have nu57 := nn59.le lE
 refine ob_i (vExt_30 _ _ _) (ob_i (vExt_31 _ _ _) (ob_i (vExt_32 _ _ _) ?_))
 have hok : crP b s la lb ra ca rb cb row col st := by first | exact ⟨by assumption, hmk, hgo, by assumption, (by assumption : _ ∧ _).2⟩ | exact ⟨hcn.1, hmk, hgo, by assumption, Int.ofNat_le.mp (by assumption)⟩
 replace lE := lE.trans le55
 exact keq (K := K) (by rw [decide_eq_true (show (crP b s la lb ra ca rb cb row col st) from by exact hok)]; try rfl) (hk  u56 u57 _ (Own.cast (show cenN (nmL (((max ra (row + rb)) + 2 * st)) (((max ca (col + cb)) + 2 * st)) (rnL false b s ((max ra (row + rb)) + 2 * st) ((max ca (col + cb)) + 2 * st) (groW (max ra (row + rb)) (max ca (col + cb)) (metL0 ra ca la rb cb lb row col) st) st.toNat) (stsL (((max ca (col + cb)) + 2 * st)) (rnL false b s ((max ra (row + rb)) + 2 * st) ((max ca (col + cb)) + 2 * st) (groW (max ra (row + rb)) (max ca (col + cb)) (metL0 ra ca la rb cb lb row col) st) st.toNat) ((rnL false b s ((max ra (row + rb)) + 2 * st) ((max ca (col + cb)) + 2 * st) (groW (max ra (row + rb)) (max ca (col + cb)) (metL0 ra ca la rb cb lb row col) st) st.toNat)).length)) = selL (crP b s la lb ra ca rb cb row col st) (cenN (crN b s la lb ra ca rb cb row col st)) by first | exact (selL_t hok).symm | exact (selL_f hok).symm) ou56) (Own.cast (show cenC (nmL (((max ra (row + rb)) + 2 * st)) (((max ca (col + cb)) + 2 * st)) (rnL false b s ((max ra (row + rb)) + 2 * st) ((max ca (col + cb)) + 2 * st) (groW (max ra (row + rb)) (max ca (col + cb)) (metL0 ra ca la rb cb lb row col) st) st.toNat) (stsL (((max ca (col + cb)) + 2 * st)) (rnL false b s ((max ra (row + rb)) + 2 * st) ((max ca (col + cb)) + 2 * st) (groW (max ra (row + rb)) (max ca (col + cb)) (metL0 ra ca la rb cb lb row col) st) st.toNat) ((rnL false b s ((max ra (row + rb)) + 2 * st) ((max ca (col + cb)) + 2 * st) (groW (max ra (row + rb)) (max ca (col + cb)) (metL0 ra ca la rb cb lb row col) st) st.toNat)).length)) = selL (crP b s la lb ra ca rb cb row col st) (cenC (crN b s la lb ra ca rb cb row col st)) by first | exact (selL_t hok).symm | exact (selL_f hok).symm) ou57) nu56 nu57 au56Xu57 lE)
 replace lE := lE.trans le50
 have nu63 := nn65.le lE
 have nu64 := nn66.le lE
 refine ob_i (vExt_30 _ _ _) (ob_i (vExt_31 _ _ _) (ob_i (vExt_32 _ _ _) ?_))
 have hok : ¬ (crP b s la lb ra ca rb cb row col st) := by intro h; obtain ⟨h1, h2, h3, h4, h5⟩ := h; first | exact absurd h1 (by assumption) | exact absurd h2 (by assumption) | exact absurd h3 (by assumption) | exact absurd h4 (by assumption) | exact absurd (show canP b s ra ca la from ⟨h1, h2.1⟩) (by assumption) | exact absurd h2.2.1 (by assumption) | exact absurd h2.2.2 (by assumption) | exact absurd (And.intro hrf h5) (by assumption) | exact absurd (Int.ofNat_le.mpr h5) (by assumption) | omega
 replace lE := lE.trans le62
 exact keq (K := K) (by rw [decide_eq_false (show ¬ (crP b s la lb ra ca rb cb row col st) from by exact hok)]; try rfl) (hk  u63 u64 _ (Own.cast (show [] = selL (crP b s la lb ra ca rb cb row col st) (cenN (crN b s la lb ra ca rb cb row col st)) by first | exact (selL_t hok).symm | exact (selL_f hok).symm) ou63) (Own.cast (show [] = selL (crP b s la lb ra ca rb cb row col st) (cenC (crN b s la lb ra ca rb cb row col st)) by first | exact (selL_t hok).symm | exact (selL_f hok).symm) ou64) nu63 nu64 au63Xu64 lE)
 refine ob_i (vExt_20 _ _) (ob_i (vExt_21 _ _) ?_)
 replace op27 := op27.le le44
 refine op27.stn (ws := [(.int .i64 (0)), (.int .i64 (0)), u45]) rfl rfl (oc1 rfl (oc1 rfl (oc1 ou45.one oc0))) (fun H67 op27 off68 => ?_)
 refine ob_i (a := .bool true) rfl ?_
 refine cnd_t1 ?_
 have hok : ¬ (crP b s la lb ra ca rb cb row col st) := by intro h; obtain ⟨h1, h2, h3, h4, h5⟩ := h; first | exact absurd h1 (by assumption) | exact absurd h2 (by assumption) | exact absurd h3 (by assumption) | exact absurd h4 (by assumption) | exact absurd (show canP b s ra ca la from ⟨h1, h2.1⟩) (by assumption) | exact absurd h2.2.1 (by assumption) | exact absurd h2.2.2 (by assumption) | exact absurd (And.intro hrf h5) (by assumption) | exact absurd (Int.ofNat_le.mpr h5) (by assumption) | omega
 replace lE := off68.le ((lE.trans le34).trans le44) np27
 exact keq (K := K) (by rw [decide_eq_false (show ¬ (crP b s la lb ra ca rb cb row col st) from by exact hok)]; try rfl) (hk  (.slice none 0 0) (.slice none 0 0) _ (Own.cast (show [] = selL (crP b s la lb ra ca rb cb row col st) (cenN (crN b s la lb ra ca rb cb row col st)) by exact (selL_f hok).symm) (Own.nil_of none)) (Own.cast (show [] = selL (crP b s la lb ra ca rb cb row col st) (cenC (crN b s la lb ra ca rb cb row col st)) by exact (selL_f hok).symm) (Own.nil_of none)) (fun b hb => by simp [bk] at hb) (fun b hb => by simp [bk] at hb) (fun b hb => by simp [bk] at hb) lE)
 refine ob_i (vPick_f _ _) (cnd_t1 ?_)
 have hok : ¬ (crP b s la lb ra ca rb cb row col st) := by intro h; obtain ⟨h1, h2, h3, h4, h5⟩ := h; first | exact absurd h1 (by assumption) | exact absurd h2 (by assumption) | exact absurd h3 (by assumption) | exact absurd h4 (by assumption) | exact absurd (show canP b s ra ca la from ⟨h1, h2.1⟩) (by assumption) | exact absurd h2.2.1 (by assumption) | exact absurd h2.2.2 (by assumption) | exact absurd (And.intro hrf h5) (by assumption) | exact absurd (Int.ofNat_le.mpr h5) (by assumption) | omega
 replace lE := lE.trans le34
 exact keq (K := K) (by rw [decide_eq_false (show ¬ (crP b s la lb ra ca rb cb row col st) from by exact hok)]; try rfl) (hk  (.slice none 0 0) (.slice none 0 0) _ (Own.cast (show [] = selL (crP b s la lb ra ca rb cb row col st) (cenN (crN b s la lb ra ca rb cb row col st)) by exact (selL_f hok).symm) (Own.nil_of none)) (Own.cast (show [] = selL (crP b s la lb ra ca rb cb row col st) (cenC (crN b s la lb ra ca rb cb row col st)) by exact (selL_f hok).symm) (Own.nil_of none)) (fun b hb => by simp [bk] at hb) (fun b hb => by simp [bk] at hb) (fun b hb => by simp [bk] at hb) lE)
 refine ob_i (vPick_f _ _) (gop_st (gop_st (gop_st (ob_i (vPick_t _ _) (cnd_t1 ?_)))))
 have hok : ¬ (crP b s la lb ra ca rb cb row col st) := by intro h; obtain ⟨h1, h2, h3, h4, h5⟩ := h; first | exact absurd h1 (by assumption) | exact absurd h2 (by assumption) | exact absurd h3 (by assumption) | exact absurd h4 (by assumption) | exact absurd (show canP b s ra ca la from ⟨h1, h2.1⟩) (by assumption) | exact absurd h2.2.1 (by assumption) | exact absurd h2.2.2 (by assumption) | exact absurd (And.intro hrf h5) (by assumption) | exact absurd (Int.ofNat_le.mpr h5) (by assumption) | omega
 replace lE := lE.trans le34
 exact keq (K := K) (by rw [decide_eq_false (show ¬ (crP b s la lb ra ca rb cb row col st) from by exact hok)]; try rfl) (hk  (.slice none 0 0) (.slice none 0 0) _ (Own.cast (show [] = selL (crP b s la lb ra ca rb cb row col st) (cenN (crN b s la lb ra ca rb cb row col st)) by exact (selL_f hok).symm) (Own.nil_of none)) (Own.cast (show [] = selL (crP b s la lb ra ca rb cb row col st) (cenC (crN b s la lb ra ca rb cb row col st)) by exact (selL_f hok).symm) (Own.nil_of none)) (fun b hb => by simp [bk] at hb) (fun b hb => by simp [bk] at hb) (fun b hb => by simp [bk] at hb) lE)

theorem C.c119 {b : List Int}  {H : Hp} {K : Value → Hp → Prop} (hvb0 : Sl eI H vb b) (hvs0 : Sl eI H vs s) (hva0 : Sl eI H va la) (hvb20 : Sl eI H vb2 lb) (kb : b.length ≤ 9223372036854775807) (ks : s.length ≤ 9223372036854775807) (k1 : la.length ≤ 9223372036854775807) (k2 : lb.length ≤ 9223372036854775807)
    (hk : ∀ u1 u2 H', Own vS H' u1 (selL (crP b s la lb ra ca rb cb row col st) (cenN (crN b s la lb ra ca rb cb row col st))) → Own eI H' u2 (selL (crP b s la lb ra ca rb cb row col st) (cenC (crN b s la lb ra ca rb cb row col st))) → Nw H u1 → Nw H u2 → Apart u1 u2 → Le H H' → K (.tuple #[u1, u2, (.bool (decide (crP b s la lb ra ca rb cb row col st)))]) H') : HT prg 22 [(.agg #[vb, vs]), (.agg #[(.int .i64 (ra)), (.int .i64 (ca)), va]), (.agg #[(.int .i64 (rb)), (.int .i64 (cb)), vb2]), (.int .i64 (row)), (.int .i64 (col)), (.int .i64 (st))].toArray H K := by
 have lE := Le.refl H
 refine R.q22 ?_
 unfold F.q22
 refine nw_i (fun p1 H2 op1 nn3 le4 => ?_)
 replace op1 : Cel H2 p1 [vb, vs] := op1
 refine nw_i (fun p5 H6 op5 nn7 le8 => ?_)
 replace op5 : Cel H6 p5 [(.int .i64 (ra)), (.int .i64 (ca)), va] := op5
 refine nw_i (fun p9 H10 op9 nn11 le12 => ?_)
 replace op9 : Cel H10 p9 [(.int .i64 (rb)), (.int .i64 (cb)), vb2] := op9
 replace lE := ((lE.trans le4).trans le8).trans le12
 replace op1 := (op1.le le8).le le12
 replace op5 := op5.le le12
 refine C.c40 op1 op5 (hvb0.le lE) (hvs0.le lE) (hva0.le lE) (by first | omega | assumption) (by first | omega | assumption) (by first | omega | assumption) (fun   H13    le14 => ?_)
 refine ob_nd (fun hc15 => ?_) (fun hc15 => ?_)
 have hcn := hc15
 refine gop_rf ?_
 replace op9 := op9.le le14
 replace lE := lE.trans le14
 refine C.c5 op9 (hvb20.le lE) (by first | omega | assumption) ?_
 refine gop_rf (ob_nd (fun hc16 => ?_) (fun hc16 => ?_))
 have hfb := hc16
 refine ob_i (vPick_f _ _) (gop_rf (gop_rf (C.c0  ?_)))
 refine gop_rf (ob_nd (fun hc17 => ?_) (fun hc17 => ?_))
 refine ob_i (vPick_f _ _) (cnd_f1 ?_)
 replace op5 := op5.le le14
 refine C.c69 op5 op9 (hva0.le lE) (hvb20.le lE) (by exact hcn.2) (by exact hfb) (fun hc18  H19    le20 => ?_) (fun hc21 u24 H22 ou24 nn25  le23 => ?_)
 refine ob_i (vExt_20 _ _) (ob_i (vExt_21 _ _) (nw_i (fun p26 H27 op26 nn28 le29 => ?_)))
 replace lE := lE.trans le20
 have np26 := nn28.le lE
 refine op26.stn (ws := [(.int .i64 (0)), (.int .i64 (0)), (.slice none 0 0)]) rfl rfl (oc1 rfl (oc1 rfl (oc1 rfl oc0))) (fun H30 op26 off31 => ?_)
 refine ob_i (a := .bool true) rfl ?_
 refine cnd_t1 ?_
 have hok : ¬ (crP b s la lb ra ca rb cb row col st) := by intro h; obtain ⟨h1, h2, h3, h4, h5⟩ := h; first | exact absurd h1 (by assumption) | exact absurd h2 (by assumption) | exact absurd h3 (by assumption) | exact absurd h4 (by assumption) | exact absurd (show canP b s ra ca la from ⟨h1, h2.1⟩) (by assumption) | exact absurd h2.2.1 (by assumption) | exact absurd h2.2.2 (by assumption) | exact absurd (And.intro hrf h5) (by assumption) | exact absurd (Int.ofNat_le.mpr h5) (by assumption) | omega
 replace lE := off31.le (lE.trans le29) np26
 exact keq (K := K) (by rw [decide_eq_false (show ¬ (crP b s la lb ra ca rb cb row col st) from by exact hok)]; try rfl) (hk  (.slice none 0 0) (.slice none 0 0) _ (Own.cast (show [] = selL (crP b s la lb ra ca rb cb row col st) (cenN (crN b s la lb ra ca rb cb row col st)) by exact (selL_f hok).symm) (Own.nil_of none)) (Own.cast (show [] = selL (crP b s la lb ra ca rb cb row col st) (cenC (crN b s la lb ra ca rb cb row col st)) by exact (selL_f hok).symm) (Own.nil_of none)) (fun b hb => by simp [bk] at hb) (fun b hb => by simp [bk] at hb) (fun b hb => by simp [bk] at hb) lE)
 have hmk : metOk ra ca la rb cb lb row col := ⟨hcn.2, hfb, hc21⟩
 have hmf := metL0_field hmk
 have lmf := fieldN_len hmf
 refine ob_i (vExt_20 _ _) (ob_i (vExt_21 _ _) (nw_i (fun p32 H33 op32 nn34 le35 => ?_)))
 replace op1 := (op1.le le14).le le23
 have ap1Xp32 := op1.apart nn34
 have au24Xp32 := ou24.apart nn34
 replace lE := lE.trans le23
 have np32 := nn34.le lE
 replace ou24 := ou24.le le35
 refine op32.stn (ws := [(.int .i64 (max ra (row + rb))), (.int .i64 (max ca (col + cb))), u24]) rfl rfl (oc1 rfl (oc1 rfl (oc1 ou24.one oc0))) (fun H36 op32 off37 => ?_)
 refine ob_i (a := .bool false) rfl ?_
 refine cnd_f1 (ob_i (op32.ldn rfl) ?_)
 replace ou24 := ou24.off off37 au24Xp32
 refine C.c117 ou24.sl (by first | omega | assumption) (fun hc38 u41 H39 ou41 nn42  le40 => ?_) (fun hc43 u46 H44 ou46 nn47  le45 => ?_)
 have hgo := hc38
 have hgf := groW_field hgo
 have hrf := rnL_field (rnd := false) (b := b) (s := s) hgf st.toNat
 have lgf := fieldN_len hgf
 have lrf := fieldN_len hrf
 refine ob_i (vExt_20 _ _) (ob_i (vExt_21 _ _) (nw_i (fun p48 H49 op48 nn50 le51 => ?_)))
 replace op1 := ((op1.le le35).off off37 ap1Xp32).le le40
 have ap1Xp48 := op1.apart nn50
 have au41Xp48 := ou41.apart nn50
 replace lE := (off37.le (lE.trans le35) np32).trans le40
 have np48 := nn50.le lE
 replace ou41 := ou41.le le51
 refine op48.stn (ws := [(.int .i64 ((max ra (row + rb)) + 2 * st)), (.int .i64 ((max ca (col + cb)) + 2 * st)), u41]) rfl rfl (oc1 rfl (oc1 rfl (oc1 ou41.one oc0))) (fun H52 op48 off53 => ?_)
 refine ob_i (a := .bool false) rfl ?_
 refine cnd_f1 ?_
 replace op1 := (op1.le le51).off off53 ap1Xp48
 replace lE := off53.le (lE.trans le51) np48
 replace ou41 := ou41.off off53 au41Xp48
 refine C.c55 op1 op48 (hvb0.le lE) (hvs0.le lE) ou41.sl (by exact hgf) (by first | omega | assumption) (by first | omega | assumption) (by first | omega | assumption) (by first | omega | assumption) (fun  u56 H54 ou56 nn57  le55 => ?_)
 refine nw_i (fun p58 H59 op58 nn60 le61 => ?_)
 have au56Xp58 := ou56.apart nn60
 replace lE := lE.trans le55
 have np58 := nn60.le lE
 replace ou56 := ou56.le le61
 refine op58.stn (ws := [(.int .i64 (((max ra (row + rb)) + 2 * st))), (.int .i64 (((max ca (col + cb)) + 2 * st))), u56]) rfl rfl (oc1 rfl (oc1 rfl (oc1 ou56.one oc0))) (fun H62 op58 off63 => ?_)
 replace ou56 := ou56.off off63 au56Xp58
 refine C.c114 op58 ou56.sl (by exact hrf) (fun  u66 u67 H64 ou66 ou67 nn68 nn69 au66Xu67 le65 => ?_)
 replace lE := off63.le (lE.trans le61) np58
 have nu66 := nn68.le lE
 have nu67 := nn69.le lE
 refine ob_i (vExt_30 _ _ _) (ob_i (vExt_31 _ _ _) (ob_i (vExt_32 _ _ _) (ob_nd (fun hc70 => ?_) (fun hc70 => ?_))))
 refine cnd_f1 ?_
 have hok : crP b s la lb ra ca rb cb row col st := by first | exact ⟨by assumption, hmk, hgo, by assumption, (by assumption : _ ∧ _).2⟩ | exact ⟨hcn.1, hmk, hgo, by assumption, Int.ofNat_le.mp (by assumption)⟩
 replace lE := lE.trans le65
 exact keq (K := K) (by rw [decide_eq_true (show (crP b s la lb ra ca rb cb row col st) from by exact hok)]; try rfl) (hk  u66 u67 _ (Own.cast (show cenN (nmL (((max ra (row + rb)) + 2 * st)) (((max ca (col + cb)) + 2 * st)) (rnL false b s ((max ra (row + rb)) + 2 * st) ((max ca (col + cb)) + 2 * st) (groW (max ra (row + rb)) (max ca (col + cb)) (metL0 ra ca la rb cb lb row col) st) st.toNat) (stsL (((max ca (col + cb)) + 2 * st)) (rnL false b s ((max ra (row + rb)) + 2 * st) ((max ca (col + cb)) + 2 * st) (groW (max ra (row + rb)) (max ca (col + cb)) (metL0 ra ca la rb cb lb row col) st) st.toNat) ((rnL false b s ((max ra (row + rb)) + 2 * st) ((max ca (col + cb)) + 2 * st) (groW (max ra (row + rb)) (max ca (col + cb)) (metL0 ra ca la rb cb lb row col) st) st.toNat)).length)) = selL (crP b s la lb ra ca rb cb row col st) (cenN (crN b s la lb ra ca rb cb row col st)) by first | exact (selL_t hok).symm | exact (selL_f hok).symm) ou66) (Own.cast (show cenC (nmL (((max ra (row + rb)) + 2 * st)) (((max ca (col + cb)) + 2 * st)) (rnL false b s ((max ra (row + rb)) + 2 * st) ((max ca (col + cb)) + 2 * st) (groW (max ra (row + rb)) (max ca (col + cb)) (metL0 ra ca la rb cb lb row col) st) st.toNat) (stsL (((max ca (col + cb)) + 2 * st)) (rnL false b s ((max ra (row + rb)) + 2 * st) ((max ca (col + cb)) + 2 * st) (groW (max ra (row + rb)) (max ca (col + cb)) (metL0 ra ca la rb cb lb row col) st) st.toNat) ((rnL false b s ((max ra (row + rb)) + 2 * st) ((max ca (col + cb)) + 2 * st) (groW (max ra (row + rb)) (max ca (col + cb)) (metL0 ra ca la rb cb lb row col) st) st.toNat)).length)) = selL (crP b s la lb ra ca rb cb row col st) (cenC (crN b s la lb ra ca rb cb row col st)) by first | exact (selL_t hok).symm | exact (selL_f hok).symm) ou67) nu66 nu67 au66Xu67 lE)
 refine cnd_t1 ?_
 have hok : ¬ (crP b s la lb ra ca rb cb row col st) := by intro h; obtain ⟨h1, h2, h3, h4, h5⟩ := h; first | exact absurd h1 (by assumption) | exact absurd h2 (by assumption) | exact absurd h3 (by assumption) | exact absurd h4 (by assumption) | exact absurd (show canP b s ra ca la from ⟨h1, h2.1⟩) (by assumption) | exact absurd h2.2.1 (by assumption) | exact absurd h2.2.2 (by assumption) | exact absurd (And.intro hrf h5) (by assumption) | exact absurd (Int.ofNat_le.mpr h5) (by assumption) | omega
 replace lE := lE.trans le65
 exact keq (K := K) (by rw [decide_eq_false (show ¬ (crP b s la lb ra ca rb cb row col st) from by exact hok)]; try rfl) (hk  (.slice none 0 0) (.slice none 0 0) _ (Own.cast (show [] = selL (crP b s la lb ra ca rb cb row col st) (cenN (crN b s la lb ra ca rb cb row col st)) by exact (selL_f hok).symm) (Own.nil_of none)) (Own.cast (show [] = selL (crP b s la lb ra ca rb cb row col st) (cenC (crN b s la lb ra ca rb cb row col st)) by exact (selL_f hok).symm) (Own.nil_of none)) (fun b hb => by simp [bk] at hb) (fun b hb => by simp [bk] at hb) (fun b hb => by simp [bk] at hb) lE)
 refine ob_i (vExt_20 _ _) (ob_i (vExt_21 _ _) (nw_i (fun p71 H72 op71 nn73 le74 => ?_)))
 replace lE := (off37.le (lE.trans le35) np32).trans le45
 have np71 := nn73.le lE
 replace ou46 := ou46.le le74
 refine op71.stn (ws := [(.int .i64 (0)), (.int .i64 (0)), u46]) rfl rfl (oc1 rfl (oc1 rfl (oc1 ou46.one oc0))) (fun H75 op71 off76 => ?_)
 refine ob_i (a := .bool true) rfl ?_
 refine cnd_t1 ?_
 have hok : ¬ (crP b s la lb ra ca rb cb row col st) := by intro h; obtain ⟨h1, h2, h3, h4, h5⟩ := h; first | exact absurd h1 (by assumption) | exact absurd h2 (by assumption) | exact absurd h3 (by assumption) | exact absurd h4 (by assumption) | exact absurd (show canP b s ra ca la from ⟨h1, h2.1⟩) (by assumption) | exact absurd h2.2.1 (by assumption) | exact absurd h2.2.2 (by assumption) | exact absurd (And.intro hrf h5) (by assumption) | exact absurd (Int.ofNat_le.mpr h5) (by assumption) | omega
 replace lE := off76.le (lE.trans le74) np71
 exact keq (K := K) (by rw [decide_eq_false (show ¬ (crP b s la lb ra ca rb cb row col st) from by exact hok)]; try rfl) (hk  (.slice none 0 0) (.slice none 0 0) _ (Own.cast (show [] = selL (crP b s la lb ra ca rb cb row col st) (cenN (crN b s la lb ra ca rb cb row col st)) by exact (selL_f hok).symm) (Own.nil_of none)) (Own.cast (show [] = selL (crP b s la lb ra ca rb cb row col st) (cenC (crN b s la lb ra ca rb cb row col st)) by exact (selL_f hok).symm) (Own.nil_of none)) (fun b hb => by simp [bk] at hb) (fun b hb => by simp [bk] at hb) (fun b hb => by simp [bk] at hb) lE)
 refine ob_i (vPick_f _ _) (cnd_t1 ?_)
 have hok : ¬ (crP b s la lb ra ca rb cb row col st) := by intro h; obtain ⟨h1, h2, h3, h4, h5⟩ := h; first | exact absurd h1 (by assumption) | exact absurd h2 (by assumption) | exact absurd h3 (by assumption) | exact absurd h4 (by assumption) | exact absurd (show canP b s ra ca la from ⟨h1, h2.1⟩) (by assumption) | exact absurd h2.2.1 (by assumption) | exact absurd h2.2.2 (by assumption) | exact absurd (And.intro hrf h5) (by assumption) | exact absurd (Int.ofNat_le.mpr h5) (by assumption) | omega
 exact keq (K := K) (by rw [decide_eq_false (show ¬ (crP b s la lb ra ca rb cb row col st) from by exact hok)]; try rfl) (hk  (.slice none 0 0) (.slice none 0 0) _ (Own.cast (show [] = selL (crP b s la lb ra ca rb cb row col st) (cenN (crN b s la lb ra ca rb cb row col st)) by exact (selL_f hok).symm) (Own.nil_of none)) (Own.cast (show [] = selL (crP b s la lb ra ca rb cb row col st) (cenC (crN b s la lb ra ca rb cb row col st)) by exact (selL_f hok).symm) (Own.nil_of none)) (fun b hb => by simp [bk] at hb) (fun b hb => by simp [bk] at hb) (fun b hb => by simp [bk] at hb) lE)
 refine ob_i (vPick_f _ _) (gop_st (gop_st (gop_st (ob_i (vPick_t _ _) (cnd_t1 ?_)))))
 have hok : ¬ (crP b s la lb ra ca rb cb row col st) := by intro h; obtain ⟨h1, h2, h3, h4, h5⟩ := h; first | exact absurd h1 (by assumption) | exact absurd h2 (by assumption) | exact absurd h3 (by assumption) | exact absurd h4 (by assumption) | exact absurd (show canP b s ra ca la from ⟨h1, h2.1⟩) (by assumption) | exact absurd h2.2.1 (by assumption) | exact absurd h2.2.2 (by assumption) | exact absurd (And.intro hrf h5) (by assumption) | exact absurd (Int.ofNat_le.mpr h5) (by assumption) | omega
 exact keq (K := K) (by rw [decide_eq_false (show ¬ (crP b s la lb ra ca rb cb row col st) from by exact hok)]; try rfl) (hk  (.slice none 0 0) (.slice none 0 0) _ (Own.cast (show [] = selL (crP b s la lb ra ca rb cb row col st) (cenN (crN b s la lb ra ca rb cb row col st)) by exact (selL_f hok).symm) (Own.nil_of none)) (Own.cast (show [] = selL (crP b s la lb ra ca rb cb row col st) (cenC (crN b s la lb ra ca rb cb row col st)) by exact (selL_f hok).symm) (Own.nil_of none)) (fun b hb => by simp [bk] at hb) (fun b hb => by simp [bk] at hb) (fun b hb => by simp [bk] at hb) lE)
 refine gop_st (gop_st (ob_i (vPick_t _ _) (gop_st (gop_st (gop_st (ob_i (vPick_t _ _) (cnd_t1 ?_)))))))
 have hok : ¬ (crP b s la lb ra ca rb cb row col st) := by intro h; obtain ⟨h1, h2, h3, h4, h5⟩ := h; first | exact absurd h1 (by assumption) | exact absurd h2 (by assumption) | exact absurd h3 (by assumption) | exact absurd h4 (by assumption) | exact absurd (show canP b s ra ca la from ⟨h1, h2.1⟩) (by assumption) | exact absurd h2.2.1 (by assumption) | exact absurd h2.2.2 (by assumption) | exact absurd (And.intro hrf h5) (by assumption) | exact absurd (Int.ofNat_le.mpr h5) (by assumption) | omega
 replace lE := lE.trans le14
 exact keq (K := K) (by rw [decide_eq_false (show ¬ (crP b s la lb ra ca rb cb row col st) from by exact hok)]; try rfl) (hk  (.slice none 0 0) (.slice none 0 0) _ (Own.cast (show [] = selL (crP b s la lb ra ca rb cb row col st) (cenN (crN b s la lb ra ca rb cb row col st)) by exact (selL_f hok).symm) (Own.nil_of none)) (Own.cast (show [] = selL (crP b s la lb ra ca rb cb row col st) (cenC (crN b s la lb ra ca rb cb row col st)) by exact (selL_f hok).symm) (Own.nil_of none)) (fun b hb => by simp [bk] at hb) (fun b hb => by simp [bk] at hb) (fun b hb => by simp [bk] at hb) lE)

end Go.Proofs.YtnijdhlmimemcaaGreatDoor
/- What the law of fates needs, by plain law: a glider's steps, parts of small fields, what comes again. -/
namespace Go.Proofs.YtnijdhlmimemcaaGreatDoor
open HL
variable {c r : Int} {l : List Int}
set_option maxRecDepth 100000
/-- Is a cell among some? -/
def pmF (ps : List (Int × Int)) (x y : Int) : Int := if ps.any (fun p => p.1 == x && p.2 == y) = true then 1 else 0
def gpL (ps : List (Int × Int)) : List Int := mkL 24 (pmF ps) ((24 : Int).toNat * (24 : Int).toNat)
theorem mkL_look {g : Int → Int → Int} {N : Nat} {i k : Int} (i0 : 0 ≤ i) (k0 : 0 ≤ k) (k1 : k < c) (h : i * c + k < N) : at_ 0 (mkL c g N) (i * c + k) = g i k := by
  have hm : 0 ≤ i * c := Int.mul_nonneg i0 (by omega)
  obtain ⟨t, ht⟩ := Int.eq_ofNat_of_zero_le (show 0 ≤ i * c + k by omega)
  have d := divmod (c := c) (i := i) (k := k) (by omega) k0 k1
  rw [ht, at_eq 0 _ (by rw [mkL_length]; omega)]
  simp only [mkL, List.getElem_map, List.getElem_range]
  rw [← ht, d.1, d.2]
def inC (ps : List (Int × Int)) : Bool := ps.all (fun p => decide (0 ≤ p.1 ∧ p.1 ≤ 23 ∧ 0 ≤ p.2 ∧ p.2 ≤ 23))
theorem pm_out {ps : List (Int × Int)} (h : inC ps = true) {x y : Int} (hx : ¬ ((0 ≤ x ∧ x ≤ 24 - 1) ∧ 0 ≤ y ∧ y ≤ 24 - 1)) : pmF ps x y = 0 := by
  unfold pmF
  rw [if_neg]
  intro ha
  obtain ⟨p, hp, he⟩ := List.any_eq_true.mp ha
  have := of_decide_eq_true (List.all_eq_true.mp h p hp)
  simp only [Bool.and_eq_true, beq_iff_eq] at he
  omega
theorem flat_gp {ps : List (Int × Int)} (h : inC ps = true) (x y : Int) : flatF 24 24 (gpL ps) x y = pmF ps x y := by
  unfold flatF
  by_cases hx : (0 ≤ x ∧ x ≤ 24 - 1) ∧ 0 ≤ y ∧ y ≤ 24 - 1
  · rw [if_pos hx]
    exact mkL_look hx.1.1 hx.2.1 (by omega) (by show x * 24 + y < ((576 : Nat) : Int); omega)
  · rw [if_neg hx, pm_out h hx]
/-- What becomes of a cell. -/
def nxC (ps : List (Int × Int)) (i k : Int) : Int :=
  if pmF ps i k = 0 then (if sumF (fun a => sumF (fun b => if i - 1 + a = i ∧ k - 1 + b = k then 0 else pmF ps (i - 1 + a) (k - 1 + b)) 3) 3 ∈ ([3] : List Int) then 1 else 0)
  else (if sumF (fun a => sumF (fun b => if i - 1 + a = i ∧ k - 1 + b = k then 0 else pmF ps (i - 1 + a) (k - 1 + b)) 3) 3 ∈ ([2, 3] : List Int) then 1 else 0)
def okC (ps qs : List (Int × Int)) : Bool := (List.range 24).all fun i => (List.range 24).all fun k => nxC ps (i : Nat) (k : Nat) == pmF qs (i : Nat) (k : Nat)
theorem nx_gp {ps qs : List (Int × Int)} (h : inC ps = true) (hq : okC ps qs = true) : nxL false [3] [2, 3] 24 24 (gpL ps) = gpL qs := by
  unfold nxL
  rw [show gpL qs = mkL 24 (pmF qs) ((24 : Int).toNat * (24 : Int).toNat) from rfl]
  refine mkL_congr (by omega) (fun x y x0 y0 y1 hN => ?_)
  have hx1 : x < 24 := by
    have : x * 24 + y < ((576 : Nat) : Int) := hN
    omega
  have e := List.all_eq_true.mp (List.all_eq_true.mp hq x.toNat (List.mem_range.mpr (by omega))) y.toNat (List.mem_range.mpr (by omega))
  rw [Int.toNat_of_nonneg x0, Int.toNat_of_nonneg y0] at e
  rw [← eq_of_beq e]
  have ef := flat_gp h
  have e1 : at_ 0 (gpL ps) (x * 24 + y) = pmF ps x y := by
    have := ef x y
    unfold flatF at this
    rw [if_pos ⟨⟨x0, by omega⟩, y0, by omega⟩] at this
    exact this
  unfold nxG nxC arF skF
  simp only [e1, lkF, Bool.false_eq_true, if_false, ef]
/-- Where the cells lie. -/
def stpC (ps : List (Int × Int)) (s : Int × Int × Int × Int) (j : Nat) : Int × Int × Int × Int :=
  if pmF ps ((j : Int) / 24) ((j : Int) % 24) = 1 then (min s.1 ((j : Int) / 24), max s.2.1 ((j : Int) / 24), min s.2.2.1 ((j : Int) % 24), max s.2.2.2 ((j : Int) % 24)) else s
def trC24 (ps : List (Int × Int)) : Int × Int × Int × Int := (List.range 576).foldl (stpC ps) (24, -1, 24, -1)
theorem gp_at {ps : List (Int × Int)} {j : Nat} (hj : j < 576) : at_ 0 (gpL ps) (j : Int) = pmF ps ((j : Int) / 24) ((j : Int) % 24) := by
  rw [at_eq 0 _ (by unfold gpL; rw [mkL_length]; exact hj)]
  simp [gpL, mkL]
theorem foldl_same {α β : Type} {f g : α → β → α} : ∀ {l : List β} {a : α}, (∀ a b, b ∈ l → f a b = g a b) → l.foldl f a = l.foldl g a
  | [], _, _ => rfl
  | x :: l, a, h => by
    rw [List.foldl_cons, List.foldl_cons, h a x (by simp)]
    exact foldl_same (fun a b hb => h a b (by simp [hb]))
theorem trm_gp (ps : List (Int × Int)) : trm 24 24 (gpL ps) = trC24 ps := by
  unfold trm trS trC24
  rw [show (24 * 24 : Int).toNat = 576 from rfl]
  refine foldl_same (fun a j hj => ?_)
  unfold trStep stpC
  rw [gp_at (List.mem_range.mp hj)]
def brC (ps : List (Int × Int)) : Bool := ps.all (fun p => decide (1 ≤ p.1 ∧ p.1 ≤ 22 ∧ 1 ≤ p.2 ∧ p.2 ≤ 22))
theorem brd_gp {ps : List (Int × Int)} (h : brC ps = true) : ¬ brdP 24 24 (gpL ps) := by
  intro hb
  refine hb (fun j hj hc => ?_)
  have hj' : j < 576 := hj
  unfold bdC at hc
  rw [gp_at hj'] at hc
  obtain ⟨h1, h2⟩ := hc
  unfold pmF at h1
  split at h1
  · rename_i ha
    obtain ⟨p, hp, he⟩ := List.any_eq_true.mp ha
    have := of_decide_eq_true (List.all_eq_true.mp h p hp)
    simp only [Bool.and_eq_true, beq_iff_eq] at he
    omega
  · omega
/-- The cells within the bounds. -/
def cutC (ps : List (Int × Int)) : List Int := mkL ((trC24 ps).2.2.2 - (trC24 ps).2.2.1 + 1) (fun i k => pmF ps ((trC24 ps).1 + i) ((trC24 ps).2.2.1 + k)) (((trC24 ps).2.1 - (trC24 ps).1 + 1).toNat * ((trC24 ps).2.2.2 - (trC24 ps).2.2.1 + 1).toNat)
theorem trL_gp {ps : List (Int × Int)} (h : 0 ≤ (trC24 ps).1 ∧ (trC24 ps).1 ≤ (trC24 ps).2.1 ∧ (trC24 ps).2.1 ≤ 23 ∧ 0 ≤ (trC24 ps).2.2.1 ∧ (trC24 ps).2.2.1 ≤ (trC24 ps).2.2.2 ∧ (trC24 ps).2.2.2 ≤ 23) : trL 24 24 (gpL ps) = cutC ps := by
  unfold trL cutC trR trC
  rw [trm_gp]
  generalize trC24 ps = q at h
  obtain ⟨a, b, c, d⟩ := q
  simp only at h ⊢
  refine mkL_congr (by omega) (fun x y x0 y0 y1 hN => ?_)
  have hN' : x * (d - c + 1) + y < (b - a + 1) * (d - c + 1) := by
    rw [Int.natCast_mul, Int.toNat_of_nonneg (by omega), Int.toNat_of_nonneg (by omega)] at hN
    exact hN
  have hx : x < b - a + 1 := by
    rcases Int.lt_or_le x (b - a + 1) with g | g
    · exact g
    · have := Int.mul_le_mul_of_nonneg_right g (show 0 ≤ d - c + 1 by omega)
      omega
  unfold cutG
  rw [show (a + x) * 24 + c + y = (a + x) * 24 + (c + y) by omega]
  exact mkL_look (by omega) (by omega) (by omega) (by show _ < ((576 : Nat) : Int); omega)
def glC0 : List (Int × Int) := [(10, 11), (11, 12), (12, 10), (12, 11), (12, 12)]
def glC1 : List (Int × Int) := [(11, 10), (11, 12), (12, 11), (12, 12), (13, 11)]
def glC2 : List (Int × Int) := [(11, 12), (12, 10), (12, 12), (13, 11), (13, 12)]
def glC3 : List (Int × Int) := [(11, 11), (12, 12), (12, 13), (13, 11), (13, 12)]
def glC4 : List (Int × Int) := [(11, 12), (12, 13), (13, 11), (13, 12), (13, 13)]
/-- Glider and life. -/
def glL : List Int := [0, 1, 0, 0, 0, 1, 1, 1, 1]
theorem gl_start : shp0 3 3 glL = gpL glC0 := by
  unfold shp0 gpL
  refine mkL_congr (by omega) (fun x y x0 y0 y1 hN => ?_)
  have hx1 : x < 24 := by
    have : x * 24 + y < ((576 : Nat) : Int) := hN
    omega
  have h : ((List.range 24).all fun i => (List.range 24).all fun k => flatF 3 3 glL ((i : Nat) - (24 - 3) / 2) ((k : Nat) - (24 - 3) / 2) == pmF glC0 (i : Nat) (k : Nat)) = true := by decide +kernel
  have e := List.all_eq_true.mp (List.all_eq_true.mp h x.toNat (List.mem_range.mpr (by omega))) y.toNat (List.mem_range.mpr (by omega))
  rw [Int.toNat_of_nonneg x0, Int.toNat_of_nonneg y0] at e
  exact eq_of_beq e
theorem gl_steps : shpS [3] [2, 3] 3 3 glL 1 = gpL glC1 ∧ shpS [3] [2, 3] 3 3 glL 2 = gpL glC2 ∧ shpS [3] [2, 3] 3 3 glL 3 = gpL glC3 ∧ shpS [3] [2, 3] 3 3 glL 4 = gpL glC4 := by
  have e1 : shpS [3] [2, 3] 3 3 glL 1 = gpL glC1 := by
    show nxL false [3] [2, 3] 24 24 (shp0 3 3 glL) = _
    rw [gl_start]; exact nx_gp (by decide +kernel) (by decide +kernel)
  have e2 : shpS [3] [2, 3] 3 3 glL 2 = gpL glC2 := by
    show nxL false [3] [2, 3] 24 24 (shpS [3] [2, 3] 3 3 glL 1) = _
    rw [e1]; exact nx_gp (by decide +kernel) (by decide +kernel)
  have e3 : shpS [3] [2, 3] 3 3 glL 3 = gpL glC3 := by
    show nxL false [3] [2, 3] 24 24 (shpS [3] [2, 3] 3 3 glL 2) = _
    rw [e2]; exact nx_gp (by decide +kernel) (by decide +kernel)
  have e4 : shpS [3] [2, 3] 3 3 glL 4 = gpL glC4 := by
    show nxL false [3] [2, 3] 24 24 (shpS [3] [2, 3] 3 3 glL 3) = _
    rw [e3]; exact nx_gp (by decide +kernel) (by decide +kernel)
  exact ⟨e1, e2, e3, e4⟩
theorem gl_ship : shpOk [3] [2, 3] 3 3 glL 8 ∧ shpF [3] [2, 3] 3 3 glL 8 + 1 = 4 ∧ (trm 24 24 (shpT [3] [2, 3] 3 3 glL 8)).1 - (trm 24 24 (shp0 3 3 glL)).1 = 1 ∧ (trm 24 24 (shpT [3] [2, 3] 3 3 glL 8)).2.2.1 - (trm 24 24 (shp0 3 3 glL)).2.2.1 = 1 := by
  obtain ⟨e1, e2, e3, e4⟩ := gl_steps
  have t0 : trC24 glC0 = (10, 12, 10, 12) := by decide +kernel
  have t1 : trC24 glC1 = (11, 13, 10, 12) := by decide +kernel
  have t2 : trC24 glC2 = (11, 13, 10, 12) := by decide +kernel
  have t3 : trC24 glC3 = (11, 13, 11, 13) := by decide +kernel
  have t4 : trC24 glC4 = (11, 13, 11, 13) := by decide +kernel
  have l0 : trL 24 24 (gpL glC0) = cutC glC0 := trL_gp (by rw [t0]; decide)
  have c12 : cutC glC1 ≠ cutC glC0 ∧ cutC glC2 ≠ cutC glC0 ∧ cutC glC3 ≠ cutC glC0 ∧ cutC glC4 = cutC glC0 := by decide +kernel
  have hm4 : matP (shp0 3 3 glL) (shpS [3] [2, 3] 3 3 glL 4) := by
    rw [gl_start, e4]
    refine ⟨by rw [trm_gp, t4]; decide, by unfold trR; rw [trm_gp, trm_gp, t4, t0]; rfl, by unfold trC; rw [trm_gp, trm_gp, t4, t0]; rfl, ?_⟩
    rw [trL_gp (by rw [t4]; decide), l0]; exact c12.2.2.2
  have hno : ∀ x, x < 3 → ¬ shpE [3] [2, 3] 3 3 glL x := by
    intro x hx h
    have : x = 0 ∨ x = 1 ∨ x = 2 := by omega
    rcases this with rfl | rfl | rfl
    · rcases h with h | h
      · rw [e1] at h; exact brd_gp (by decide) h
      · have h4 := h.2.2.2
        rw [gl_start, e1, trL_gp (by rw [t1]; decide), l0] at h4
        exact c12.1 h4
    · rcases h with h | h
      · rw [e2] at h; exact brd_gp (by decide) h
      · have h4 := h.2.2.2
        rw [gl_start, e2, trL_gp (by rw [t2]; decide), l0] at h4
        exact c12.2.1 h4
    · rcases h with h | h
      · rw [e3] at h; exact brd_gp (by decide) h
      · have h4 := h.2.2.2
        rw [gl_start, e3, trL_gp (by rw [t3]; decide), l0] at h4
        exact c12.2.2.1 h4
  have hcan : canP [3] [2, 3] 3 3 glL := by decide
  have hh := shp_hit (b := [3]) (s := [2, 3]) (r := 3) (c := 3) (l := glL) (st := 8) (t := 3) hcan (by decide) (by rw [gl_start, trm_gp, t0]; decide) (by rw [gl_start]; exact brd_gp (by decide)) (by rw [e4]; exact brd_gp (by decide)) hm4 hno (by decide)
  refine ⟨hh.1, by rw [hh.2.1]; rfl, ?_, ?_⟩
  · rw [hh.2.2, e4, gl_start, trm_gp, trm_gp, t4, t0]; rfl
  · rw [hh.2.2, e4, gl_start, trm_gp, trm_gp, t4, t0]; rfl
/-- Starts are not reached from one another. -/
theorem stsL_apart {c : Int} {l : List Int} : ∀ {i : Nat}, (stsL c l i).Pairwise (fun a b => ¬ Rch c l a b)
  | 0 => by simp [stsL]
  | i + 1 => by
    by_cases h : onP l i ∧ ∀ s ∈ stsL c l i, ¬ Rch c l s i
    · rw [stsL_t h.1 h.2, List.pairwise_append]
      exact ⟨stsL_apart, List.pairwise_singleton _ _, fun a ha b hb => by rw [List.mem_singleton.mp hb]; exact h.2 a ha⟩
    · rw [stsL_f h]; exact stsL_apart
theorem parts_49 (r0 : 1 ≤ r) (r1 : r ≤ 14) (c0 : 1 ≤ c) (c1 : c ≤ 14) (hl : (l.length : Int) = r * c) : (stsL c l l.length).length ≤ 49 := by
  have key := nodup_len 49 ((stsL c l l.length).map fun (s : Nat) => ((s : Int) / c / 2) * 7 + (s : Int) % c / 2) ?_ ?_
  · rw [List.length_map] at key; exact key
  · unfold List.Nodup
    rw [List.pairwise_map]
    refine (List.Pairwise.and_mem.mp stsL_apart).imp (fun {a b} h => ?_)
    obtain ⟨ha, hb, hn⟩ := h
    intro e
    have h1 := (stsL_on ha).1
    have h2 := (stsL_on hb).1
    have a0 := Int.emod_nonneg (a : Int) (b := c) (by omega)
    have a1 := Int.emod_lt_of_pos (a : Int) (b := c) (by omega)
    have b0 := Int.emod_nonneg (b : Int) (b := c) (by omega)
    have b1 := Int.emod_lt_of_pos (b : Int) (b := c) (by omega)
    have a2 := Int.ediv_nonneg (a := (a : Int)) (b := c) (by omega) (by omega)
    have b2 := Int.ediv_nonneg (a := (b : Int)) (b := c) (by omega) (by omega)
    exact hn ((Rch.base h1).step ⟨⟨by omega, by omega⟩, by omega, by omega⟩ h2)
  · intro x hx
    obtain ⟨s, hs, rfl⟩ := List.mem_map.mp hx
    have h1 := (stsL_on hs).2
    have a0 := Int.emod_nonneg (s : Int) (b := c) (by omega)
    have a1 := Int.emod_lt_of_pos (s : Int) (b := c) (by omega)
    have a2 := Int.ediv_nonneg (a := (s : Int)) (b := c) (by omega) (by omega)
    have a3 : (s : Int) / c < r := Int.ediv_lt_of_lt_mul (by omega) (by omega)
    omega
theorem cen_64 (r0 : 1 ≤ r) (r1 : r ≤ 14) (c0 : 1 ≤ c) (c1 : c ≤ 14) (hl : (l.length : Int) = r * c) : (cenN (nmL r c l (stsL c l l.length))).length ≤ 64 := by
  have h1 := (cen_of (nmL r c l (stsL c l l.length))).le
  rw [nmL_len] at h1
  have := parts_49 r0 r1 c0 c1 hl
  omega
theorem least_of {p : Nat → Prop} : ∀ {n : Nat}, p n → ∃ k, k ≤ n ∧ p k ∧ ∀ j, j < k → ¬ p j := by
  intro n
  induction n using Nat.strongRecOn with
  | ind n ih =>
    intro h
    by_cases hx : ∃ m, m < n ∧ p m
    · obtain ⟨m, h1, h2⟩ := hx
      obtain ⟨k, g1, g2, g3⟩ := ih m h1 h2
      exact ⟨k, by omega, g2, g3⟩
    · exact ⟨n, Nat.le_refl _, h, fun j hj hp => hx ⟨j, hj, hp⟩⟩
/-- What is told of that which comes again. -/
theorem ft_spec {G : Nat → List Int} {n : Nat} (h : perP G n) : ftK G n ≤ n ∧ fsI G (ftK G n) < ftK G n ∧ G (fsI G (ftK G n)) = G (ftK G n) := by
  obtain ⟨k0, hk0, hd0⟩ := h
  obtain ⟨k, h1, h2, h3⟩ := least_of (p := dupP G) hd0
  obtain ⟨i0, hi0, he0⟩ := h2
  obtain ⟨i, g1, g2, g3⟩ := least_of (p := fun i => G i = G k) he0
  obtain ⟨_, e1, e2⟩ := per_at (G := G) (k := k) (i := i) (n := n) h3 (by omega) g2 g3 (by omega)
  rw [e2, e1]
  exact ⟨by omega, by omega, g2⟩
end Go.Proofs.YtnijdhlmimemcaaGreatDoor
/- Choices that are read from bytes. -/
namespace Go.Proofs.YtnijdhlmimemcaaGreatDoor
open HL
variable {n : Int}
set_option maxRecDepth 100000
namespace HL
theorem vMulW (a b : Int) : vInt .mul (.int .u64 a) (.int .u64 b) = some (.int .u64 (IntKind.u64.wrap (a * b))) := by simp only [vInt, if_true]
theorem vAddW (a b : Int) : vInt .add (.int .u64 a) (.int .u64 b) = some (.int .u64 (IntKind.u64.wrap (a + b))) := by simp only [vInt, if_true]
theorem vCIW (k : IntKind) (a : Int) : vCI .u64 (.int k a) = some (.int .u64 (IntKind.u64.wrap a)) := rfl
theorem vShrW (a : Int) {b : Int} (h : 0 ≤ b) : ∃ x, vInt .shr (.int .u64 a) (.int .u64 b) = some (.int .u64 x) := by
  simp only [vInt]; rw [if_pos h]; exact ⟨_, rfl⟩
theorem vAnd255 (a : Int) : ∃ x, vInt .and (.int .u64 a) (.int .u64 255) = some (.int .u64 x) ∧ 0 ≤ x ∧ x ≤ 255 := by
  refine ⟨_, by simp only [vInt, if_true]; rfl, ?_⟩
  show 0 ≤ IntKind.u64.wrap ((BitVec.ofInt 64 a &&& BitVec.ofInt 64 255).toNat : Int) ∧ IntKind.u64.wrap ((BitVec.ofInt 64 a &&& BitVec.ofInt 64 255).toNat : Int) ≤ 255
  have h : (BitVec.ofInt 64 a &&& BitVec.ofInt 64 255).toNat ≤ 255 := by
    rw [BitVec.toNat_and]
    have e : (BitVec.ofInt 64 255).toNat = 255 := by decide
    rw [e]
    exact Nat.and_le_right
  generalize (BitVec.ofInt 64 a &&& BitVec.ofInt 64 255).toNat = n at h
  have e : IntKind.u64.wrap (n : Int) = (n : Int) := by
    unfold IntKind.wrap; simp [IntKind.signed, IntKind.bits]; omega
  rw [e]; omega
end HL
variable {H0 H : Hp} {K : Value → Hp → Prop} {p code : Value} {l : List Int} {a s : Int}
theorem C.c120 (h0 : Sl eU H code l) (hk : ∀ p H', Cel H' p [code, .int .i64 0, .int .u64 0] → Nw H p → Le H H' → K p H') : HT prg 23 [code].toArray H K := by
 refine R.q23 ?_
 unfold F.q23
 refine ob_i (a := .agg #[code, .int .i64 0, .int .u64 0]) (by obtain ⟨_, _, _, rfl⟩ := h0.isSl; rfl) ?_
 exact nw_i (fun p H' op nn le => hk p H' op nn le)

theorem C.c121 (h0 : Sl eU H0 code l) (hb : bytP l) (hl : l.length ≤ 9223372036854775807) (le : Le H0 H) (np : Nw H0 p) (hp : Cel H p [code, .int .i64 a, .int .u64 s]) (a0 : 0 ≤ a) (a1 : a ≤ 4611686018427387904)
    (hk : ∀ x s' H', 0 ≤ x → x ≤ 255 → Cel H' p [code, .int .i64 (a + 1), .int .u64 s'] → Off p H H' → K (.int .i64 x) H') : HT prg 95 [p].toArray H K := by
 have hc := h0.le le
 have ho : oneCell code = true := h0.one
 refine R.q95 ?_
 unfold F.q95
 refine jn_i (fun σ' H' => ∃ x, 0 ≤ x ∧ x ≤ 255 ∧ σ' 0 = p ∧ σ' 3 = .int .i64 x ∧ H' = H) (fun σ1 H1 hP => ?_) (fun J1 hJ1 => ?_)
 obtain ⟨x, x0, x1, g0, g3, rfl⟩ := hP
 rw [g0, g3]
 refine ob_i hp.nilC (ob_i (hp.fa 1) (ob_i (hp.ld 1 rfl) (ob_i (vInt_add (by omega) (by omega)) (ob_i hp.nilC (ob_i (hp.fa 1) ?_)))))
 refine hp.st (by simp) rfl rfl (fun H2 hp2 off2 => ?_)
 refine ob_i hp2.nilC (ob_i (hp2.fa 2) (ob_i (hp2.ld 2 rfl) (ob_i (vMulW _ _) (ob_i (vCIW _ _) (ob_i (vAddW _ _) (ob_i (vAddW _ _) (ob_i hp2.nilC (ob_i (hp2.fa 2) ?_))))))))
 refine hp2.st (by simp) rfl rfl (fun H3 hp3 off3 => ?_)
 refine ob_i hp3.nilC (ob_i (hp3.fa 1) (ob_i (hp3.ld 1 rfl) (ob_i hp3.nilC (ob_i (hp3.fa 0) (ob_i (hp3.ld 0 rfl) (ob_i h0.len (ob_i (vInt_leq _ _ _) ?_)))))))
 have off := off2.trans off3
 refine cnd_d (fun _ => hk x _ H3 x0 x1 hp3 off) (fun _ => ?_)
 refine ob_i hp3.nilC (ob_i (hp3.fa 2) (ob_i (hp3.ld 2 rfl) ?_))
 obtain ⟨y, hy⟩ := vShrW (IntKind.u64.wrap (IntKind.u64.wrap (IntKind.u64.wrap (s * 6364136223846793005) + IntKind.u64.wrap x) + 1442695040888963407)) (b := 40) (by omega)
 obtain ⟨z, hz, z0, z1⟩ := vAnd255 y
 refine ob_i hy (ob_i hz (ob_i (vCI_64 _ (by omega) (by omega)) ?_))
 exact hk z _ H3 z0 z1 hp3 off
 refine ob_i hp.nilC (ob_i (hp.fa 1) (ob_i (hp.ld 1 rfl) (ob_i hp.nilC (ob_i (hp.fa 0) (ob_i (hp.ld 0 rfl) (ob_i h0.len (ob_i (vInt_lss _ _ _) ?_)))))))
 refine cnd_d (fun hlt => ?_) (fun _ => hJ1 _ _ ⟨0, by omega, by omega, rfl, rfl, rfl⟩)
 have hm := hb _ (at_mem 0 l a0 hlt)
 refine ob_i hp.nilC (ob_i (hp.fa 0) (ob_i (hp.ld 0 rfl) (ob_i hp.nilC (ob_i (hp.fa 1) (ob_i (hp.ld 1 rfl) (ob_i (hc.ix a0 hlt) (ob_i (hc.ld 0 a0 hlt) (ob_i (vCI_64 _ (by omega) (by omega)) ?_))))))))
 exact hJ1 _ _ ⟨_, hm.1, hm.2, rfl, rfl, rfl⟩

theorem C.c122 (h0 : Sl eU H0 code l) (hb : bytP l) (hl : l.length ≤ 9223372036854775807) (le : Le H0 H) (np : Nw H0 p) (hp : Cel H p [code, .int .i64 a, .int .u64 s]) (a0 : 0 ≤ a) (a1 : a ≤ 4611686018427387000)
    (hk : ∀ x a' s' H', 0 ≤ x → (1 ≤ n → x < n) → a ≤ a' → a' ≤ a + 2 → Cel H' p [code, .int .i64 a', .int .u64 s'] → Off p H H' → K (.int .i64 x) H') : HT prg 65 [p, .int .i64 n].toArray H K := by
 refine R.q65 ?_
 unfold F.q65
 refine ob_i (vInt_leq _ _ _) (cnd_d (fun h1 => hk 0 a s H (by omega) (by omega) (by omega) (by omega) hp (Off.of_le (Le.refl H))) (fun h1 => ?_))
 refine C.c121 h0 hb hl le np hp a0 (by omega) (fun x s1 H1 x0 x1 hp1 off1 => ?_)
 refine ob_i (vInt_gtr _ _ _) (cnd_d (fun h2 => ?_) (fun h2 => ?_))
 refine ob_i (vInt_mul (by omega) (by omega)) (C.c121 h0 hb hl (off1.le le np) np hp1 (by omega) (by omega) (fun y s2 H2 y0 y1 hp2 off2 => ?_))
 refine ob_i (vInt_add (by omega) (by omega)) (ob_i (vInt_remN (by omega) (by omega)) ?_)
 have r0 := Int.emod_nonneg (x * 256 + y) (b := n) (by omega)
 have r1 := Int.emod_lt_of_pos (x * 256 + y) (b := n) (by omega)
 refine hk _ _ _ H2 r0 (fun _ => r1) (by omega) (by omega) hp2 (off1.trans off2)
 refine ob_i (vInt_remN (by omega) (by omega)) ?_
 have r0 := Int.emod_nonneg x (b := n) (by omega)
 have r1 := Int.emod_lt_of_pos x (b := n) (by omega)
 exact hk _ _ _ H1 r0 (fun _ => r1) (by omega) (by omega) hp1 off1

theorem C.c123 (h0 : Sl eU H0 code l) (hb : bytP l) (hl : l.length ≤ 9223372036854775807) (le : Le H0 H) (np : Nw H0 p) (hp : Cel H p [code, .int .i64 a, .int .u64 s]) (a0 : 0 ≤ a) (a1 : a ≤ 4611686018427387000)
    (hk : ∀ (x : Bool) a' s' H', a ≤ a' → a' ≤ a + 2 → Cel H' p [code, .int .i64 a', .int .u64 s'] → Off p H H' → K (.bool x) H') : HT prg 24 [p, .int .i64 n].toArray H K := by
 refine R.q24 ?_
 unfold F.q24
 refine C.c122 h0 hb hl le np hp a0 a1 (fun x a' s' H' _ _ h3 h4 h5 h6 => ?_)
 exact ob_i (vInt_eql _ _ _) (hk _ a' s' H' h3 h4 h5 h6)

theorem C.c124 {k : Int} (hc : Sl eU H code l) (hb : bytP l) (hl : l.length ≤ 9223372036854775807) (k0 : 0 ≤ k) (k1 : k ≤ 1000) (hk : ∀ x, 0 ≤ x → (1 ≤ n → x < n) → K (.int .i64 x) H) : HT prg 7 [code, .int .i64 k, .int .i64 n].toArray H K := by
 refine R.q7 ?_
 unfold F.q7
 refine ob_i (vInt_leq _ _ _) (cnd_d (fun h1 => hk 0 (by omega) (by omega)) (fun h1 => ?_))
 refine ob_i hc.len (ob_i (vInt_lss _ _ _) (cnd_d (fun h2 => ?_) (fun h2 => ?_)))
 have hm := hb _ (at_mem 0 l k0 h2)
 refine ob_i (hc.ix k0 h2) (ob_i (hc.ld 0 k0 h2) (ob_i (vCI_64 _ (by omega) (by omega)) (ob_i (vInt_remN (by omega) (by omega)) ?_)))
 exact hk _ (Int.emod_nonneg _ (by omega)) (fun _ => Int.emod_lt_of_pos _ (by omega))
 refine ob_i (vInt_mul (by omega) (by omega)) (ob_i (vInt_add (by omega) (by omega)) (ob_i (vInt_remN (by omega) (by omega)) ?_))
 exact hk _ (Int.emod_nonneg _ (by omega)) (fun _ => Int.emod_lt_of_pos _ (by omega))

end Go.Proofs.YtnijdhlmimemcaaGreatDoor
