/- strings.Join, with one byte between the texts. -/
import Derived.Test.YtialllbbbpmkbaaDoorXJ
namespace Go.Proofs.YtialllbbbpmkbaaDoor
open HL
set_option maxRecDepth 100000
theorem joinT_len (x : UInt8) (a : List UInt8) : ∀ r : List (List UInt8), (joinT [x] (a :: r)).length = r.length + (a :: r).flatten.length
  | [] => by simp [joinT]
  | b :: r => by
    have ih := joinT_len x a r
    simp only [joinT, List.flatMap_cons, List.length_append, List.length_cons, List.length_nil, List.flatten_cons] at ih ⊢
    omega
theorem flat_snoc (ls : List (List UInt8)) (x : List UInt8) : (ls ++ [x]).flatten.length = ls.flatten.length + x.length := by simp
theorem flat_take (ls : List (List UInt8)) (t : Nat) : (ls.take t).flatten.length ≤ ls.flatten.length := by
  have := congrArg (fun l => l.flatten.length) (List.take_append_drop t ls)
  simp only [List.flatten_append, List.length_append] at this
  omega
theorem flat_at (ls : List (List UInt8)) {t : Nat} (ht : t < ls.length) : (ls.take t).flatten.length + (at_ [] ls (t : Int)).length ≤ ls.flatten.length := by
  have := flat_take ls (t + 1)
  rw [take_at [] ls ht, flat_snoc] at this
  exact this
theorem C.strings_Join {v : Value} {ls : List (List UInt8)} {x : UInt8} {H : Hp} {K : Value → Hp → Prop} (hv : Sl vS H v ls) (h1 : ls.length ≤ 1000000) (h2 : ls.flatten.length ≤ 1000000000) (hk : ∀ H', Le H H' → K (vS (joinT [x] ls)) H') :
    HT prg I.strings_Join [v, vS [x]].toArray H K := by
  refine R.strings_Join ?_
  unfold F.strings_Join
  refine ob_i hv.len ?_
  refine ob_i (vInt_eql _ _ _) ?_
  refine cnd_d (fun h0 => ?_) (fun h0 => ?_)
  · obtain rfl : ls = [] := List.length_eq_zero_iff.mp (by omega)
    exact hk H (Le.refl H)
  refine ob_i (vInt_eql _ _ _) ?_
  refine cnd_d (fun h3 => ?_) (fun h3 => ?_)
  · refine ob_i (hv.ix (by omega) (by omega)) ?_
    refine ob_i (hv.ld [] (by omega) (by omega)) ?_
    obtain ⟨a, rfl⟩ := List.length_eq_one_iff.mp (show ls.length = 1 by omega)
    have := hk H (Le.refl H)
    simp only [joinT, List.flatMap_nil, List.append_nil] at this
    exact this
  obtain ⟨a, r, rfl⟩ : ∃ a r, ls = a :: r := by cases ls with | nil => simp at h0 | cons a r => exact ⟨a, r, rfl⟩
  have hjl := joinT_len x a r
  have hrl : (a :: r).length = r.length + 1 := rfl
  have h2' := h2
  generalize hLS : a :: r = ls at *
  refine jn_i (fun σ H' => σ 0 = v ∧ σ 1 = vS [x] ∧ σ 5 = .int .i64 (r.length : Int) ∧ H' = H) (fun σ H6 hP => ?_) (fun J6 hJ6 => ?_)
  · obtain ⟨g0, g1, g5, rfl⟩ := hP
    refine jn_i (fun σ' H' => σ' 0 = v ∧ σ' 1 = vS [x] ∧ σ' 5 = .int .i64 ((joinT [x] ls).length : Int) ∧ H' = H6) (fun σ7 H7 hP => ?_) (fun J7 hJ7 => ?_)
    · obtain ⟨g0, g1, g5, rfl⟩ := hP
      simp only [g0, g1, g5]
      intro rb hrb
      have hH : (H7.put rb (.cells #[.pointer none, .slice none 0 0] bdE (0, 0))) rb = some (.cells #[.pointer none, .slice none 0 0] bdE (0, 0)) := Hp.put_same _ _ _
      have hle1 : Le H7 (H7.put rb (.cells #[.pointer none, .slice none 0 0] bdE (0, 0))) := Le.put _ hrb
      refine (?_ : HT prg I.pstrings_Builder_Grow [.pointer (some ⟨rb, 0, none⟩), .int .i64 ((joinT [x] ls).length : Int)].toArray (H7.put rb (.cells #[.pointer none, .slice none 0 0] bdE (0, 0))) _)
      refine C.Builder_Grow hH (by omega) (by omega) (fun b c H11 hc1 hc2 hb hB hoth => ?_)
      have hbH : H7 b = none := by
        have : b ≠ rb := by rintro rfl; rw [hH] at hb; exact absurd hb (by simp)
        rw [Hp.put_ne _ _ this] at hb; exact hb
      have hle2 : Le H7 H11 := fun y o hy => hoth y o (hle1 y o hy) (by rintro rfl; rw [hrb] at hy; exact absurd hy (by simp))
      have keep : ∀ {A B : Hp}, Le H7 A → (∀ y o, A y = some o → y ≠ rb → y ≠ b → B y = some o) → Le H7 B := fun hA hAB y o hy =>
        hAB y o (hA y o hy) (by rintro rfl; rw [hrb] at hy; exact absurd hy (by simp)) (by rintro rfl; rw [hbH] at hy; exact absurd hy (by simp))
      have hv11 := hv.le hle2
      refine ob_i (hv11.ix (by omega) (by omega)) ?_
      refine ob_i (hv11.ld [] (by omega) (by omega)) ?_
      have ha0 : at_ [] ls 0 = a := by rw [← hLS]; rfl
      rw [ha0]
      have hal : a.length ≤ (joinT [x] ls).length := by
        rw [hjl, ← hLS]; simp; omega
      refine C.Builder_WriteString hB (by rw [Int.toNat_natCast] at hc1; simp; omega) (fun H15 hB15 hoth15 => ?_)
      have hle3 := keep hle2 hoth15
      rw [List.nil_append] at hB15
      have e1 : vSl3 1 v (some (.int .i64 1)) none none = some (vSl3 1 v (some (.int .i64 1)) none none).get! := by
        obtain ⟨y, _, hy2, _⟩ := hv.cut (lo := 1) (hi := (ls.length : Int)) (by omega) (by omega) (by omega)
        rw [hy2 rfl]; rfl
      obtain ⟨y, _, hy2, _, _, hy5, _⟩ := hv.cut (lo := 1) (hi := (ls.length : Int)) (by omega) (by omega) (by omega)
      have hy2 := hy2 rfl
      have hyl : ((ls.drop (Int.toNat 1)).take ((ls.length : Int).toNat - Int.toNat 1)) = r := by
        rw [← hLS]; simp
      rw [hyl] at hy5
      refine jn_i (fun σ' H' => σ' 8 = .pointer (some ⟨rb, 0, none⟩) ∧ Bd bdE nzE H' rb b c (joinT [x] ls) ∧ Le H7 H') (fun σ16 H16 hP => ?_) (fun J16 hJ16 => ?_)
      · obtain ⟨g8, hB16, hle16⟩ := hP
        simp only [g8]
        refine C.Builder_String hB16 (by omega) (by omega) (fun H' hoth' => ?_)
        exact hk H' (keep hle16 hoth')
      · refine ob_i hy2 ?_
        refine ob_i hy5.len ?_
        refine ⟨fun n σ' H' => ∃ t : Nat, n = r.length - t ∧ t ≤ r.length ∧ σ' 1 = vS [x] ∧ σ' 8 = .pointer (some ⟨rb, 0, none⟩) ∧ σ' 63 = y ∧ σ' 64 = .int .i64 (r.length : Int) ∧ σ' 65 = .int .i64 (t : Int) ∧ Bd bdE nzE H' rb b c (joinT [x] (ls.take (t + 1))) ∧ Le H7 H',
          ⟨_, 0, rfl, by omega, g1, rfl, rfl, rfl, rfl, by rw [← hLS]; simpa [joinT] using hB15, hle3⟩, ?_⟩
        rintro n σ' H21 ⟨t, rfl, ht, q1, q8, q63, q64, q65, hB21, hle21⟩
        simp only [q1, q8, q63, q64, q65]
        refine ob_i (vInt_lss _ _ _) ?_
        refine cnd_d (fun hlt => ?_) (fun hge => ?_)
        · have hy21 := hy5.le hle21
          refine ob_i (hy21.ix (by omega) (by omega)) ?_
          refine ob_i (hy21.ld [] (by omega) (by omega)) ?_
          have hnx : at_ [] r (t : Int) = at_ [] ls ((t + 1 : Nat) : Int) := by
            rw [at_eq [] r (by omega), at_eq [] ls (by rw [hrl]; omega)]
            subst hLS
            simp
          rw [hnx]
          have hsn := joinT_snoc [x] (at_ [] ls ((t + 1 : Nat) : Int)) (ls.take (t + 1)) (by rw [← hLS]; simp)
          rw [← take_at [] ls (by rw [hrl]; omega)] at hsn
          have hl1 : ((joinT [x] (ls.take (t + 1 + 1))).length) ≤ (joinT [x] ls).length := by
            have e2 : ls.take (t + 1 + 1) = a :: r.take (t + 1) := by rw [← hLS]; simp
            have e3 := joinT_len x a (r.take (t + 1))
            have e4 := flat_take ls (t + 1 + 1)
            rw [e2] at e4
            rw [e2, e3, hjl]
            rw [List.length_take]
            have e5 : ls.flatten.length = (a :: r).flatten.length := by rw [hLS]
            omega
          rw [hsn] at hl1
          simp only [List.length_append, List.length_singleton] at hl1
          rw [Int.toNat_natCast] at hc1
          refine C.Builder_WriteString hB21 (by simp only [List.length_singleton]; omega) (fun H26 hB26 hoth26 => ?_)
          refine C.Builder_WriteString hB26 (by simp only [List.length_append, List.length_singleton]; omega) (fun H28 hB28 hoth28 => ?_)
          refine ob_i (vInt_add (by omega) (by omega)) ?_
          exact nxt (r.length - (t + 1)) (by omega) ⟨t + 1, rfl, by omega, q1, q8, q63, q64, rfl, by rw [hsn]; exact hB28, keep (keep hle21 hoth26) hoth28⟩
        · obtain rfl : t = r.length := by omega
          refine hJ16 _ _ ⟨q8, ?_, hle21⟩
          rw [← hrl, List.take_length] at hB21
          exact hB21
    · simp only [g0, g1, g5]
      refine ob_i hv.len ?_
      refine ⟨fun n σ' H' => ∃ t : Nat, n = ls.length - t ∧ t ≤ ls.length ∧ σ' 0 = v ∧ σ' 1 = vS [x] ∧ σ' 39 = v ∧ σ' 40 = .int .i64 (ls.length : Int) ∧ σ' 41 = .int .i64 (t : Int) ∧ σ' 5 = .int .i64 ((r.length : Int) + ((ls.take t).flatten.length : Int)) ∧ H' = H6,
        ⟨_, 0, rfl, by omega, g0, g1, rfl, rfl, rfl, g5.trans (congrArg (Value.int .i64) (by simp)), rfl⟩, ?_⟩
      rintro n σ' H31 ⟨t, rfl, ht, q0, q1, q39, q40, q41, q5, rfl⟩
      simp only [q39, q40, q41, q5]
      refine ob_i (vInt_lss _ _ _) ?_
      refine cnd_d (fun hlt => ?_) (fun hge => ?_)
      · refine ob_i (hv.ix (by omega) (by omega)) ?_
        refine ob_i (hv.ld [] (by omega) (by omega)) ?_
        refine ob_i (vLenS_t _) ?_
        have hf := flat_at ls (t := t) (by omega)
        refine ob_i (vInt_sub (by omega) (by omega)) ?_
        refine ob_i (vInt_gtr _ _ _) ?_
        rw [decide_eq_false (by omega)]
        refine cnd_f1 ?_
        refine ob_i (vLenS_t _) ?_
        refine ob_i (vInt_add (by omega) (by omega)) ?_
        refine ob_i (vInt_add (by omega) (by omega)) ?_
        exact nxt (ls.length - (t + 1)) (by omega) ⟨t + 1, rfl, by omega, q0, q1, q39, q40, congrArg (Value.int .i64) (by omega), congrArg (Value.int .i64) (by rw [take_at [] ls (by omega), flat_snoc]; omega), rfl⟩
      · obtain rfl : t = ls.length := by omega
        exact hJ7 _ _ ⟨q0, q1, q5.trans (congrArg (Value.int .i64) (by rw [List.take_length, hjl]; omega)), rfl⟩
  · refine ob_i (vLenS_t [x]) ?_
    refine ob_i (vInt_gtr _ _ _) ?_
    rw [decide_eq_true (show (0 : Int) < (([x] : List UInt8).length : Int) by simp)]
    refine cnd_t1 ?_
    refine ob_i (vLenS_t [x]) ?_
    refine ob_i hv.len ?_
    refine ob_i (vInt_sub (by omega) (by omega)) ?_
    refine ob_i (vInt_quoN (by omega) (by omega) (by omega)) ?_
    refine ob_i (vInt_geq _ _ _) ?_
    have hq : (2 : Int) ≤ 9223372036854775807 / ((ls.length : Int) - 1) := (Int.le_ediv_iff_mul_le (by omega)).mpr (by omega)
    rw [decide_eq_false (by simp only [List.length_singleton]; omega)]
    refine cnd_f1 ?_
    refine ob_i (vLenS_t [x]) ?_
    refine ob_i hv.len ?_
    refine ob_i (vInt_sub (by omega) (by omega)) ?_
    refine ob_i (vInt_mul (by simp only [List.length_singleton]; omega) (by simp only [List.length_singleton]; omega)) ?_
    refine ob_i (vInt_add (by simp only [List.length_singleton]; omega) (by simp only [List.length_singleton]; omega)) ?_
    exact hJ6 _ _ ⟨rfl, rfl, congrArg (Value.int .i64) (by simp only [List.length_singleton]; omega), rfl⟩
end Go.Proofs.YtialllbbbpmkbaaDoor
