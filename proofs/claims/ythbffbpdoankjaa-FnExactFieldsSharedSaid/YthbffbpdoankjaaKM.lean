/- Slices of fields that are sized and copied. -/
import Derived.Test.YthbffbpdoankjaaKL
namespace Go.Proofs.Ythbffbpdoankjaa
open HL
set_option maxRecDepth 100000
namespace HL
theorem stC_run2 {K : Hp → Prop} {b : Nat} {e : TypeId} : ∀ (m : List Value) (ad : Addr) (i : Nat) (cs : Array Value) (H : Hp), ad.block = b → ad.spot = none → H b = some (.cells cs e (0, 0)) → ad.off + i + m.length ≤ cs.size →
    (∀ x ∈ m, oneCell x = true) →
    (∀ H' cs', H' b = some (.cells cs' e (0, 0)) → cs'.size = cs.size → (∀ j, j < ad.off + i ∨ ad.off + i + m.length ≤ j → cs'[j]? = cs[j]?) → (∀ j (h : j < m.length), cs'[ad.off + i + j]? = some m[j]) → (∀ x, x ≠ b → H' x = H x) → K H') → stC ad K m i H
  | [], ad, i, cs, H, hb, hsp, hH, hs, ho, hk => hk H cs hH rfl (fun _ _ => rfl) (fun j h => absurd h (by simp)) (fun _ _ => rfl)
  | x :: m, ad, i, cs, H, hb, hsp, hH, hs, ho, hk => by
    obtain ⟨abk, aoff, asp⟩ := ad
    simp only at hb hsp hs hk
    subst hb hsp
    simp only [List.length_cons] at hs
    refine ⟨ho x (by simp), ?_, ?_, ?_⟩
    · simp only [Hp.cell?, add_none, hH]
      rw [Array.getElem?_eq_getElem (by omega)]; rfl
    · simp only [Hp.frozen?, add_none, hH]; simp
    · refine stC_run2 (b := abk) (e := e) m _ (i + 1) (cs.setIfInBounds (aoff + i) x) _ rfl rfl ?_ (by simp; omega) (fun y hy => ho y (by simp [hy])) ?_
      · simp only [Hp.setCell, add_none, hH, Hp.put_same]; rfl
      · intro H' cs' h1 h2 h3 h4 h5
        refine hk H' cs' h1 (by simpa using h2) ?_ ?_ ?_
        · intro j hj
          simp only [List.length_cons] at hj
          rw [h3 j (by simp only; omega), Array.getElem?_setIfInBounds_ne (by omega)]
        · intro j hj
          cases j with
          | zero =>
            rw [Nat.add_zero, h3 _ (by simp only; omega), Array.getElem?_setIfInBounds_self_of_lt (by omega)]; rfl
          | succ j =>
            have := h4 j (by simpa using hj)
            simp only at this
            rw [show aoff + i + (j + 1) = aoff + (i + 1) + j by omega, this]; rfl
        · intro x' hx'
          rw [h5 x' hx']
          simp only [Hp.setCell, add_none, hH]
          rw [Hp.put_ne _ _ hx']
/-- A write of a whole element. -/
theorem OwnE.stn {α : Type} {enc : α → List Value} {n : Nat} {H : Hp} {v : Value} {l : List α} (h : OwnE n enc H v l) (hn : ∀ x, (enc x).length = n) (n0 : 0 < n) {i : Nat} {y : α} {K : Hp → Prop} (hi : i < l.length)
    (h1 : ∀ x ∈ enc y, oneCell x = true) (hk : ∀ H', OwnE n enc H' v (l.set i y) → Off v H H' → K H') : st n (ptrE n v (i : Int)) (.agg (enc y).toArray) H K := by
  have fl := flat_len hn l
  have fl2 := flat_len hn (l.set i y)
  rw [List.length_set] at fl2
  have hx := flat_ix (n := n) hi (show n - 1 < n by omega)
  obtain ⟨a, c, rfl, hc, hr⟩ := h
  have hmul : l.length * n ≤ c * n := Nat.mul_le_mul_right n hc
  obtain ⟨b, off, cs, e, rfl, hb, hs, hcs⟩ := hr (by omega)
  simp only [HL.st, ptrE, Int.toNat_natCast, Value.cells, add_none]
  refine ⟨by simp [hn], ?_⟩
  refine stC_run2 (b := b) (e := e) (enc y) _ 0 cs H rfl rfl hb (by simp only [Nat.add_zero, hn]; omega) h1 ?_
  intro H' cs' g1 g2 g3 g4 g5
  simp only [Nat.add_zero] at g3 g4
  -- cells behind the element
  refine hk H' ⟨_, c, by simp, by simpa using hc, fun _ => ⟨b, off, cs', e, rfl, g1, by omega, ?_⟩⟩ (fun x o ho hv => ?_)
  · intro t ht
    rw [fl2] at ht
    have hq : t / n < l.length := Nat.div_lt_of_lt_mul (by rw [Nat.mul_comm]; exact ht)
    have hm : t % n < n := Nat.mod_lt _ n0
    have et : t = t / n * n + t % n := by rw [Nat.mul_comm]; exact (Nat.div_add_mod t n).symm
    have q1 := flat_get hn l (t / n) (t % n) hq hm
    have q2 := flat_get hn (l.set i y) (t / n) (t % n) (by simpa using hq) hm
    rw [← et] at q1 q2
    rw [← List.getElem?_eq_getElem, q2]
    by_cases e1 : i = t / n
    · have e3 : (l.set i y)[t / n]'(by simpa using hq) = y := by simp [e1]
      rw [e3]
      have := g4 (t % n) (by rw [hn]; exact hm)
      rw [show off + t = off + i * n + t % n by rw [e1]; omega, this, List.getElem?_eq_getElem]
    · have e3 : (l.set i y)[t / n]'(by simpa using hq) = l[t / n] := List.getElem_set_ne e1 _
      rw [e3, ← q1, List.getElem?_eq_getElem (by rw [fl]; exact ht), ← hcs t (by rw [fl]; exact ht)]
      rcases Nat.lt_or_ge (t / n) i with h2 | h2
      · have := Nat.mul_le_mul_right n (show t / n + 1 ≤ i by omega)
        rw [Nat.add_mul] at this
        exact g3 _ (.inl (by omega))
      · have := Nat.mul_le_mul_right n (show i + 1 ≤ t / n by omega)
        rw [Nat.add_mul] at this
        exact g3 _ (.inr (by rw [hn]; omega))
  · simp only [bk] at hv
    rw [if_neg (by omega)] at hv
    rw [g5 x (by rintro rfl; exact hv rfl)]; exact ho
section
variable {H H' : Hp} {v : Value} {S : Rg} {fs : List FdL}
/-- A field of the family is replaced by another one. -/
theorem Fam.put (h : Fam H v S fs) {i : Nat} {r c : Int} {l : List Int} {x : Value} {K : Hp → Prop} (hi : i < fs.length) (hx : Own eI H x l) (ax : Apt x S)
    (hk : ∀ H' S', Fam H' v S' (fs.set i ⟨r, c, l⟩) → OffS S H H' → (∀ b, S' b → S b ∨ bk x = some b) → K H') : st 3 (ptrE 3 v (i : Int)) (.agg #[.int .i64 r, .int .i64 c, x]) H K := by
  obtain ⟨L, h1, h2, h3, h4, h5⟩ := h
  have hi' : i < L.length := by rw [h2.len]; exact hi
  have axv : Apart x v := fun b hb hv => ax b hb ((h5 b).mpr (.inl hv))
  refine h1.stn encFv_n (by omega) (y := ⟨r, c, x⟩) hi' (fun t ht => ?_) (fun H' o off => ?_)
  · simp only [encFv, List.mem_cons, List.not_mem_nil, or_false] at ht
    rcases ht with rfl | rfl | rfl
    · rfl
    · rfl
    · exact hx.one
  · have hx' := hx.off off axv
    have hmem : ∀ y ∈ L.set i ⟨r, c, x⟩, y ∈ L ∨ y = ⟨r, c, x⟩ := fun y hy => List.mem_or_eq_of_mem_set hy
    refine hk H' (fun b => bk v = some b ∨ ∃ y ∈ L.set i ⟨r, c, x⟩, bk y.v = some b) ⟨_, o, ?_, ?_, ?_, fun b => Iff.rfl⟩ (fun b o hbo hn => off b o hbo (fun e => hn ((h5 b).mpr (.inl e)))) ?_
    · exact RelF.set (h2.imp (fun y hy _ h => h.off off (h3 y hy).symm)) ⟨rfl, rfl, hx'⟩
    · intro y hy
      rcases hmem y hy with h | rfl
      · exact h3 y h
      · exact axv.symm
    · have key : ∀ (L : List Fv) (i : Nat), i < L.length → L.Pairwise (fun x y => Apart x.v y.v) → (∀ y ∈ L, Apart x y.v) → (L.set i ⟨r, c, x⟩).Pairwise (fun x y => Apart x.v y.v) := by
        intro L
        induction L with
        | nil => intro i hi; simp at hi
        | cons y L ih =>
          intro i hi hp hy
          rw [List.pairwise_cons] at hp
          cases i with
          | zero => exact List.pairwise_cons.mpr ⟨fun z hz => hy z (by simp [hz]), hp.2⟩
          | succ i =>
            refine List.pairwise_cons.mpr ⟨fun z hz => ?_, ih i (by simpa using hi) hp.2 (fun z hz => hy z (by simp [hz]))⟩
            rcases List.mem_or_eq_of_mem_set hz with h | rfl
            · exact hp.1 z h
            · exact (hy y (by simp)).symm
      exact key L i hi' h4 (fun y hy b e1 e2 => ax b e1 ((h5 b).mpr (.inr ⟨y, hy, e2⟩)))
    · intro b hb
      rcases hb with hb | ⟨y, hy, e⟩
      · exact .inl ((h5 b).mpr (.inl hb))
      · rcases hmem y hy with h | rfl
        · exact .inl ((h5 b).mpr (.inr ⟨y, h, e⟩))
        · exact .inr e
theorem RelF.repl (H : Hp) : ∀ n : Nat, RelF (Own eI H) (List.replicate n fv0) (List.replicate n fd0)
  | 0 => trivial
  | n + 1 => ⟨⟨rfl, rfl, Own.nil_of none⟩, RelF.repl H n⟩
theorem flat_repl : ∀ (n t : Nat), t < n * 3 → ((List.replicate n fv0).flatMap encFv)[t]? = some ((encFv fv0)[t % 3]'(Nat.mod_lt _ (by omega)))
  | 0, t, h => by omega
  | n + 1, t, h => by
    rw [List.replicate_succ, List.flatMap_cons]
    by_cases h1 : t < 3
    · rw [List.getElem?_append_left (by simpa [encFv] using h1), List.getElem?_eq_getElem (by simpa [encFv] using h1)]
      simp only [Nat.mod_eq_of_lt h1]
    · rw [List.getElem?_append_right (by simp [encFv]; omega), show t - (encFv fv0).length = t - 3 from rfl, flat_repl n (t - 3) (by omega)]
      have : (t - 3) % 3 = t % 3 := by omega
      simp only [this]
      rfl
/-- A new slice of empty fields. -/
theorem Fam.mk_ {bytes : Nat} {e : TypeId} {n : Nat} {K : Value → Hp → Prop} (h2 : n ≤ 1000000000) (h3 : bytes ≤ 64)
    (hk : ∀ v S H', Fam H' v S (List.replicate n fd0) → Nws H S → Le H H' → K v H') : mkS 3 bytes #[(.int .i64 0), (.int .i64 0), (.slice none 0 0)] e (.int .i64 (n : Int)) (.int .i64 (n : Int)) H K := by
  refine ⟨by omega, by omega, by omega, ?_, fun r hr => ?_⟩
  · have := Nat.mul_le_mul h3 h2
    have e : ((bytes * n : Nat) : Int) = (bytes : Int) * (n : Int) := Int.natCast_mul _ _
    omega
  · have hz : ∀ t, t < n * 3 → (if ((n : Int)).toNat * 3 = 0 then #[] else zrow #[(.int .i64 0), (.int .i64 0), (.slice none 0 0)] (((n : Int)).toNat * 3))[t]? = some ((encFv fv0)[t % 3]'(Nat.mod_lt _ (by omega))) := by
      intro t ht
      rw [Int.toNat_natCast, if_neg (by omega)]
      simp only [zrow, List.size_toArray, List.length_cons, List.length_nil]
      simp [ht]
      rcases (by omega : t % 3 = 0 ∨ t % 3 = 1 ∨ t % 3 = 2) with h | h | h <;> simp [h, encFv, fv0]
    have o : OwnE 3 encFv (H.put r (.cells (if ((n : Int)).toNat * 3 = 0 then #[] else zrow #[(.int .i64 0), (.int .i64 0), (.slice none 0 0)] (((n : Int)).toNat * 3)) e)) (.slice (some ⟨r, 0, none⟩) ((n : Int)).toNat ((n : Int)).toNat) (List.replicate n fv0) := by
      refine ⟨some ⟨r, 0, none⟩, n, by simp, by simp, fun _ => ⟨r, 0, _, e, rfl, Hp.put_same _ _ _, ?_, fun t ht => ?_⟩⟩
      · rw [Int.toNat_natCast]
        split
        · omega
        · rw [zrow_size]; omega
      · have ht2 : t < n * 3 := by rw [flat_len encFv_n, List.length_replicate] at ht; exact ht
        rw [Nat.zero_add, hz t ht2, ← List.getElem?_eq_getElem, flat_repl n t ht2]
    refine hk _ (fun b => bk (.slice (some ⟨r, 0, none⟩) ((n : Int)).toNat ((n : Int)).toNat) = some b) _ ⟨_, o, RelF.repl _ n, ?_, ?_, fun b => ⟨.inl, ?_⟩⟩ (fun b hb => ?_) (Le.put _ hr)
    · intro x hx b _ e2
      rw [(List.mem_replicate.mp hx).2] at e2; simp [fv0, bk] at e2
    · rw [List.pairwise_replicate]
      right
      intro b e1 _
      simp [fv0, bk] at e1
    · rintro (h | ⟨x, hx, e2⟩)
      · exact h
      · rw [(List.mem_replicate.mp hx).2] at e2; simp [fv0, bk] at e2
    · simp only [bk] at hb
      split at hb
      · simp at hb
      · simp only [Option.some.injEq] at hb; subst hb; exact hr
end
/-- How many cells fields have, and no more. -/
def csz : List FdL → Nat
  | [] => 0
  | f :: fs => f.l.length + csz fs
theorem csz_take : ∀ (fs : List FdL) {i : Nat} (_ : i < fs.length), csz (fs.take (i + 1)) = csz (fs.take i) + (at_ fd0 fs (i : Int)).l.length
  | f :: fs, 0, _ => by simp [csz, at_]
  | f :: fs, i + 1, h => by
    have e : at_ fd0 (f :: fs) ((i + 1 : Nat) : Int) = at_ fd0 fs (i : Int) := rfl
    simp only [List.take_succ_cons, csz, e]
    rw [csz_take fs (by simpa using h)]; omega
theorem csz_mem : ∀ {fs : List FdL}, ∀ f ∈ fs, f.l.length ≤ csz fs
  | f :: fs, g, h => by
    rcases List.mem_cons.mp h with rfl | h
    · simp only [csz]; omega
    · have := csz_mem g h; simp only [csz]; omega
theorem fsz_csz : ∀ (fs : List FdL), fsz fs = 2 * fs.length + csz fs
  | [] => rfl
  | f :: fs => by simp only [fsz, csz, List.length_cons, fsz_csz fs]; omega
end HL
theorem C.laws_szFieldS {v : Value} {fs : List FdL} {k : Int} {H : Hp} {K : Value → Hp → Prop} (hv0 : FamS H v fs) (hm : fs.length ≤ 9223372036854775807) (hl : ∀ f ∈ fs, f.l.length ≤ 9223372036854775807) (hk0 : 0 ≤ k) (hk1 : k < 9223372036854775808)
    (h1 : ∀ H', Le H H' → K (.int .i64 (-1)) H') (h2 : ∀ H', Le H H' → 0 ≤ k - fs.length - csz fs → K (.int .i64 (k - fs.length - csz fs)) H') : HT prg I.laws_szFieldS [v, .int .i64 k].toArray H K := by
  refine R.laws_szFieldS ?_
  unfold F.laws_szFieldS
  refine ob_i hv0.len ?_
  refine ob_i (vInt_sub (by omega) (by omega)) ?_
  refine ob_i (vInt_lss _ _ _) ?_
  refine cnd_d (fun hlt => h1 H (Le.refl H)) (fun hge0 => ?_)
  refine jn_i (fun σ' H' => σ' 1 = .int .i64 (k - fs.length - csz fs) ∧ 0 ≤ k - fs.length - csz fs ∧ Le H H') (fun σ1 H1 hP => ?_) (fun J1 hJ => ?_)
  · obtain ⟨e, h0, le⟩ := hP
    rw [e]; exact h2 _ le h0
  refine ⟨fun n σ H1 => ∃ i : Nat, n = fs.length - i ∧ i ≤ fs.length ∧ σ 0 = v ∧ σ 1 = .int .i64 (k - fs.length - csz (fs.take i)) ∧ σ 5 = .int .i64 (i : Nat) ∧ 0 ≤ k - fs.length - csz (fs.take i) ∧ Le H H1,
    ⟨_, 0, rfl, by omega, rfl, by show Value.int .i64 _ = _; simp [csz], rfl, by simp [csz]; omega, Le.refl H⟩, ?_⟩
  rintro n σ H1 ⟨i, rfl, hi, g0, g1, g5, hz, le⟩
  have hv := hv0.le le
  simp only [g0, g1, g5]
  refine ob_i hv.len ?_
  refine ob_i (vInt_lss _ _ _) ?_
  refine cnd_d (fun hlt => ?_) (fun hge => ?_)
  · have hi' : i < fs.length := by omega
    obtain ⟨x, ex, hx, _⟩ := hv.at_ hi'
    have hb := hl _ (HL.at_mem fd0 fs (i := (i : Int)) (by omega) hlt)
    have hs := csz_take fs hi'
    refine ob_i (hv.ix (by omega) hlt) ?_
    refine ob_i ex ?_
    refine C.laws_szField hx (by omega) (by omega) (by omega) (fun H2 le2 => ?_) (fun H2 le2 h3 => ?_)
    · refine ob_i (vInt_lss_t (by omega)) ?_
      refine cnd_t1 ?_
      exact retK (K := K) (v' := .int .i64 (-1)) rfl (h1 _ (le.trans le2))
    · refine ob_i (vInt_lss_f (by omega)) ?_
      refine cnd_f1 ?_
      refine ob_i (vInt_add (by omega) (by omega)) ?_
      refine nxt (fs.length - (i + 1)) (by omega) ⟨i + 1, rfl, by omega, g0, ?_, rfl, by omega, le.trans le2⟩
      show Value.int .i64 _ = _
      congr 1
      omega
  · have e : i = fs.length := by omega
    subst e
    rw [List.take_length] at g1 hz
    exact hJ _ _ ⟨g1, hz, le⟩
theorem C.laws_toFieldS {v : Value} {fs : List FdL} {H : Hp} {K : Value → Hp → Prop} (hv0 : FamS H v fs) (hm : fs.length ≤ 1000000000) (hl : ∀ f ∈ fs, f.l.length ≤ 1000000000)
    (hk : ∀ u S H', Fam H' u S fs → Nws H S → Le H H' → K u H') : HT prg I.laws_toFieldS [v].toArray H K := by
  refine R.laws_toFieldS ?_
  unfold F.laws_toFieldS
  refine ob_i hv0.len ?_
  refine Fam.mk_ hm (by omega) (fun u0 S0 H1 f0 n0 le1 => ?_)
  refine jn_i (fun σ' H' => ∃ S, σ' 3 = u0 ∧ Fam H' u0 S fs ∧ Nws H S ∧ Le H H') (fun σ1 H2 hP => ?_) (fun J1 hJ => ?_)
  · obtain ⟨S, e, hf, hn, le⟩ := hP
    rw [e]; exact hk _ _ _ hf hn le
  refine ⟨fun n σ H1 => ∃ i : Nat, n = fs.length - i ∧ i ≤ fs.length ∧ σ 0 = v ∧ σ 3 = u0 ∧ σ 4 = .int .i64 (i : Nat) ∧ ∃ S, Fam H1 u0 S (fs.take i ++ List.replicate (fs.length - i) fd0) ∧ Nws H S ∧ Le H H1,
    ⟨_, 0, rfl, by omega, rfl, rfl, rfl, S0, by simpa using f0, n0, le1⟩, ?_⟩
  rintro n σ H2 ⟨i, rfl, hi, g0, g3, g4, S, hf, hn, le⟩
  have hv := hv0.le le
  simp only [g0, g3, g4]
  refine ob_i hv.len ?_
  refine ob_i (vInt_lss _ _ _) ?_
  refine cnd_d (fun hlt => ?_) (fun hge => ?_)
  · have hi' : i < fs.length := by omega
    have hlen : (fs.take i ++ List.replicate (fs.length - i) fd0).length = fs.length := by simp; omega
    obtain ⟨x, ex, hx, _⟩ := hv.at_ hi'
    have hb := hl _ (HL.at_mem fd0 fs (i := (i : Int)) (by omega) hlt)
    refine ob_i (hv.ix (by omega) hlt) ?_
    refine ob_i ex ?_
    refine C.laws_toField hx (by omega) (fun y H3 oy ny le3 => ?_)
    refine ob_i ((hf.le le3).sl.ix (by omega) (by omega)) ?_
    refine (hf.le le3).put (by omega) oy ?_ (fun H4 S' hf4 off4 hS => ?_)
    · exact (Apt.of_nw (u := S) hf.known ny).symm
    · refine ob_i (vInt_add (by omega) (by omega)) ?_
      refine nxt (fs.length - (i + 1)) (by omega) ⟨i + 1, rfl, by omega, g0, g3, rfl, S', ?_, fun b hb' => ?_, off4.le (le.trans le3) hn⟩
      · have e : (fs.take i ++ List.replicate (fs.length - i) fd0).set i ⟨(at_ fd0 fs (i : Int)).r, (at_ fd0 fs (i : Int)).c, (at_ fd0 fs (i : Int)).l⟩ = fs.take (i + 1) ++ List.replicate (fs.length - (i + 1)) fd0 := by
          have e2 : (fs.take i).length = i := by simp; omega
          rw [List.set_append_right _ _ (by omega), e2, Nat.sub_self, take_at fd0 fs hi', List.append_assoc, show fs.length - i = (fs.length - (i + 1)) + 1 by omega, List.replicate_succ]
          rfl
        rw [e] at hf4
        exact hf4
      · rcases hS b hb' with h | h
        · exact hn b h
        · exact ny.le le b h
  · have e : i = fs.length := by omega
    subst e
    refine hJ _ _ ⟨S, g3, by simpa using hf, hn, le⟩
end Go.Proofs.Ythbffbpdoankjaa
