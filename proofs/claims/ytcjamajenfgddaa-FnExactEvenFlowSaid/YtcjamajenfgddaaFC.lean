/- Lists of single numbers: copies, and what is alike; which are finite. -/
import Derived.Test.YtcjamajenfgddaaFA
namespace Go.Proofs.Ytcjamajenfgddaa
open HL
set_option maxRecDepth 100000
theorem C.laws_toFloat32S {a : Value} {l : List Nat} {H : Hp} {K : Value → Hp → Prop} (ha : Sl eF H a l) (hl : l.length ≤ 17592186044416) (hk : ∀ v H', Own eF H' v l → Nw H v → Le H H' → K v H') :
    HT prg I.laws_toFloat32S [a].toArray H K := by
  refine R.laws_toFloat32S ?_
  unfold F.laws_toFloat32S jn; dsimp only
  rw [ha.len, ob_some]
  refine Own.mk_ (by omega) (by omega) (by omega) (by omega) (fun v H0 ho hn hle => ?_)
  refine ⟨fun n σ H1 => ∃ i : Nat, n = l.length - i ∧ i ≤ l.length ∧ σ 0 = a ∧ σ 3 = v ∧ σ 4 = .int .i64 i ∧ Own eF H1 v (l.take i ++ List.replicate (l.length - i) 0) ∧ Off v H0 H1,
    ⟨_, 0, rfl, by omega, rfl, rfl, rfl, by simpa using ho, fun b o hb _ => hb⟩, ?_⟩
  rintro n σ H1 ⟨i, rfl, hi', h0, h3, h4, ho1, hoff⟩
  have hle1 : Le H H1 := hoff.le hle hn
  have ha1 := ha.le hle1
  simp only [h0, h3, h4, ha.len, vInt_lss, ob_some]
  refine cnd_d (fun hlt => ?_) (fun hge => ?_)
  · have hlt' : i < l.length := by omega
    rw [ha1.ix (by omega) hlt, ob_some, ha1.ld 0 (by omega) hlt, ob_some, ho1.sl.ix (by omega) (by simp; omega), ob_some]
    refine ho1.st (x := at_ 0 l (i : Int)) (by omega) (by simp; omega) rfl rfl (fun H2 ho2 hoff2 => ?_)
    rw [vInt_add (by omega) (by omega), ob_some]
    refine nxt (l.length - (i + 1)) (by omega) ⟨i + 1, rfl, by omega, h0, h3, rfl, ?_, hoff.trans hoff2⟩
    have e : (l.take i ++ List.replicate (l.length - i) 0).set (i : Int).toNat (at_ 0 l (i : Int)) = l.take (i + 1) ++ List.replicate (l.length - (i + 1)) 0 := by
      rw [take_at 0 l hlt', Int.toNat_natCast, List.set_append_right _ _ (by simp; omega), show l.length - i = (l.length - (i + 1)) + 1 by omega, List.replicate_succ]
      simp [Nat.min_eq_left (Nat.le_of_lt hlt')]
    rw [← e]; exact ho2
  · refine retK (K := K) (v' := v) h3 (hk v H1 ?_ hn hle1)
    rw [List.take_of_length_le (by omega), show l.length - i = 0 by omega] at ho1
    simpa using ho1
theorem C.laws_szFloat32S {a : Value} {n : Nat} {k : Int} {H : Hp} {K : Value → Hp → Prop} (ha : vLenSl a = some (.int .i64 n)) (h0 : 0 ≤ k) (hn : (n : Int) ≤ 9223372036854775807)  (h1 : k - n < 0 → K (.int .i64 (-1)) H) (h2 : 0 ≤ k - n → K (.int .i64 (k - n)) H) (hk : k < 9223372036854775808 := by omega) :
    HT prg I.laws_szFloat32S [a, .int .i64 k].toArray H K := by
  refine R.laws_szFloat32S ?_
  unfold F.laws_szFloat32S
  rw [ha, ob_some, vInt_sub (by omega) (by omega), ob_some, vInt_lss, ob_some]
  exact cnd_d (fun h => h1 h) (fun h => h2 (by omega))
theorem C.laws_eqFloat32S {a b : Value} {l : List Nat} {H : Hp} {K : Value → Hp → Prop} (ha : Sl eF H a l) (hb : Sl eF H b l) (hl : l.length ≤ 9223372036854775807) (hk : K (.bool true) H) :
    HT prg I.laws_eqFloat32S [a, b].toArray H K := by
  refine R.laws_eqFloat32S ?_
  unfold F.laws_eqFloat32S jn; dsimp only
  rw [ha.len, hb.len, ob_some, ob_some, vInt_neq, ob_some]
  refine cnd_d (fun hne => absurd rfl hne) (fun _ => ?_)
  refine ⟨fun n σ H1 => ∃ i : Nat, n = l.length - i ∧ i ≤ l.length ∧ H1 = H ∧ σ 0 = a ∧ σ 1 = b ∧ σ 5 = .int .i64 i, ⟨_, 0, rfl, by omega, rfl, rfl, rfl, rfl⟩, ?_⟩
  rintro n σ H1 ⟨i, rfl, hi', rfl, h0, h1, h5⟩
  simp only [h0, h1, h5, ha.len, vInt_lss, ob_some]
  refine cnd_d (fun hlt => ?_) (fun hge => ?_)
  · rw [ha.ix (by omega) hlt, ob_some, ha.ld 0 (by omega) hlt, ob_some, hb.ix (by omega) hlt, ob_some, hb.ld 0 (by omega) hlt, ob_some]
    refine fC_pair (o := some (at_ 0 l (i : Int))) rfl rfl (fun p q hpq => ?_)
    refine C.laws_sameFloat hpq ⟨Le.refl _, ?_⟩
    simp only [EV]
    rw [vInt_add (by omega) (by omega), ob_some]
    exact nxt (l.length - (i + 1)) (by omega) ⟨i + 1, rfl, by omega, rfl, h0, h1, rfl⟩
  · exact retK (K := K) (v' := .bool true) rfl hk
/-- Is a single number finite? -/
def finB (x : Nat) : Bool := match FloatKind.f32.format.sub x x with | some r => FloatKind.f32.format.order r 0 == some .eq | none => false
theorem fin_i {x : Nat} {H : Hp} {K : Value → Hp → Prop} (hk : K (.bool (finB x)) H) : fA .sub (.float .f32 x) (.float .f32 x) H (fun v H2 => ob (vFcmp .eql v (.float .f32 0)) fun v6 => K v6 H2) := by
  refine fA_i (o := FloatKind.f32.format.sub x x) rfl (fun t => nan_bits32 _ _ t) (fun z hz => ?_)
  rw [vFcmp_eql, ob_some]
  unfold finB at hk
  cases ho : FloatKind.f32.format.sub x x with
  | some r => rw [ho] at hz hk; simp only [FR] at hz; subst hz; exact hk
  | none => rw [ho] at hz hk; simp only [FR] at hz; rw [order_nan hz]; exact hk
theorem C.spec_l01Finite {x : Nat} {H : Hp} {K : Value → Hp → Prop} (hk : K (.bool (finB x)) H) : HT prg I.spec_l01Finite [.float .f32 x].toArray H K := R.spec_l01Finite (fin_i hk)
theorem C.impl_IsFinite {x : Nat} {H : Hp} {K : Value → Hp → Prop} (hk : K (.bool (finB x)) H) : HT prg I.impl_IsFinite [.float .f32 x].toArray H K := R.impl_IsFinite (fin_i hk)
theorem C.spec_l02Finite {a : Value} {l : List Nat} {H : Hp} {K : Value → Hp → Prop} (ha : Sl eF H a l) (hl : l.length ≤ 9223372036854775807) (hk : K (.bool (decide (∀ x ∈ l, finB x = true))) H) : HT prg I.spec_l02Finite [a].toArray H K := by
  refine R.spec_l02Finite ?_
  unfold F.spec_l02Finite jn; dsimp only
  refine ⟨fun n σ H1 => ∃ i : Nat, n = l.length - i ∧ i ≤ l.length ∧ H1 = H ∧ σ 0 = a ∧ σ 3 = .int .i64 i ∧ ∀ x ∈ l.take i, finB x = true, ⟨_, 0, rfl, by omega, rfl, rfl, rfl, by simp⟩, ?_⟩
  rintro n σ H1 ⟨i, rfl, hi', rfl, h0, h3, hall⟩
  simp only [h0, h3, ha.len, vInt_lss, ob_some]
  refine cnd_d (fun hlt => ?_) (fun hge => ?_)
  · have hlt' : i < l.length := by omega
    rw [ha.ix (by omega) hlt, ob_some, ha.ld 0 (by omega) hlt, ob_some]
    refine C.spec_l01Finite ?_
    rw [vUn_not, ob_some]
    refine cnd_i (fun hb => ?_) (fun hb => ?_)
    · refine retK (K := K) (v' := .bool false) rfl (kF (K := K) hk (fun hh => ?_))
      have := hh _ (at_mem 0 l (i := i) (by omega) hlt)
      simp [this] at hb
    · rw [vInt_add (by omega) (by omega), ob_some]
      refine nxt (l.length - (i + 1)) (by omega) ⟨i + 1, rfl, by omega, rfl, h0, rfl, ?_⟩
      rw [take_at 0 l hlt']
      intro x hx
      rcases List.mem_append.mp hx with hx | hx
      · exact hall x hx
      · simp only [List.mem_singleton] at hx; subst hx; simpa using hb
  · rw [List.take_of_length_le (by omega)] at hall
    exact retK (K := K) (v' := .bool true) rfl (kT (K := K) hk hall)
theorem C.indexFin {a : Value} {l : List Nat} {H : Hp} {K : Value → Hp → Prop} (ha : Sl eF H a l) (hl : l.length ≤ 9223372036854775807) (h1 : (∀ x ∈ l, finB x = true) → K (.int .i64 (-1)) H) (h2 : ∀ i : Nat, ¬ (∀ x ∈ l, finB x = true) → K (.int .i64 i) H) :
    HT prg I.slices_IndexFunc_float32Zfloat32 [a, .func (.func I.impl_areFinite_1) #[] #[]].toArray H K := by
  refine R.slices_IndexFunc_float32Zfloat32 ?_
  unfold F.slices_IndexFunc_float32Zfloat32 jn; dsimp only
  rw [ha.len, ob_some]
  refine ⟨fun n σ H1 => ∃ i : Nat, n = l.length - i ∧ i ≤ l.length ∧ H1 = H ∧ σ 0 = a ∧ σ 1 = .func (.func I.impl_areFinite_1) #[] #[] ∧ σ 7 = .int .i64 l.length ∧ σ 8 = .int .i64 i ∧ ∀ x ∈ l.take i, finB x = true, ⟨_, 0, rfl, by omega, rfl, rfl, rfl, rfl, rfl, by simp⟩, ?_⟩
  rintro n σ H1 ⟨i, rfl, hi', rfl, g0, g1, g7, g8, hall⟩
  simp only [g0, g1, g7, g8, vInt_lss, ob_some]
  refine cnd_d (fun hlt => ?_) (fun hge => ?_)
  · have hlt' : i < l.length := by omega
    rw [ha.ix (by omega) hlt, ob_some, ha.ld 0 (by omega) hlt, ob_some]
    refine ⟨by kernel_rfl, ?_⟩
    refine R.impl_areFinite_1 ?_
    unfold F.impl_areFinite_1
    refine C.impl_IsFinite ?_
    rw [vUn_not, ob_some]
    refine cnd_i (fun hb => ?_) (fun hb => ?_)
    · refine retK (K := K) (v' := .int .i64 i) rfl (h2 i (fun hh => ?_))
      have := hh _ (at_mem 0 l (i := i) (by omega) hlt)
      simp [this] at hb
    · rw [vInt_add (by omega) (by omega), ob_some]
      refine nxt (l.length - (i + 1)) (by omega) ⟨i + 1, rfl, by omega, rfl, g0, g1, g7, rfl, ?_⟩
      rw [take_at 0 l hlt']
      intro x hx
      rcases List.mem_append.mp hx with hx | hx
      · exact hall x hx
      · simp only [List.mem_singleton] at hx; subst hx; simpa using hb
  · rw [List.take_of_length_le (by omega)] at hall
    exact retK (K := K) (v' := .int .i64 (-1)) rfl (h1 hall)
theorem C.impl_areFinite {a : Value} {l : List Nat} {H : Hp} {K : Value → Hp → Prop} (ha : Sl eF H a l) (hl : l.length ≤ 9223372036854775807) (hk : K (.bool (decide (∀ x ∈ l, finB x = true))) H) : HT prg I.impl_areFinite [a].toArray H K := by
  refine R.impl_areFinite ?_
  unfold F.impl_areFinite
  refine R.slices_ContainsFunc_float32Zfloat32 ?_
  unfold F.slices_ContainsFunc_float32Zfloat32
  refine C.indexFin ha hl (fun hall => ?_) (fun i hn => ?_)
  · rw [vInt_geq, ob_some]
    refine ob_i (vUn_not _) ?_
    exact kT (K := K) hk hall
  · rw [vInt_geq, ob_some, decide_eq_true (by omega)]
    refine ob_i (vUn_not _) ?_
    exact kF (K := K) hk hn
end Go.Proofs.Ytcjamajenfgddaa
