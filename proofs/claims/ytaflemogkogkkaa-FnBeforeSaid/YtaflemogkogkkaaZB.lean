/- The law of fields that lead to small ones. -/
import Derived.Test.YtaflemogkogkkaaUC
import Derived.Test.YtaflemogkogkkaaZA
namespace Go.Proofs.Ytaflemogkogkkaa
open HL
set_option maxRecDepth 100000
theorem HL.vInt_shrN {k : IntKind} {a w : Int} (h0 : 0 ≤ w) (h1 : w ≤ 63) : vInt .shr (.int .i64 a) (.int k w) = some (.int .i64 (a / 2 ^ w.toNat)) := by
  simp only [vInt]
  rw [if_pos h0, show min w.toNat IntKind.i64.bits = w.toNat by simp [IntKind.bits]; omega, Int.fdiv_eq_ediv_of_nonneg _ (Int.pow_nonneg (by omega))]
theorem HL.vInt_and1 {a : Int} (h0 : 0 ≤ a) (h1 : a < 9223372036854775808) : vInt .and (.int .i64 a) (.int .i64 1) = some (.int .i64 (a % 2)) := by
  obtain ⟨n, rfl⟩ := Int.eq_ofNat_of_zero_le h0
  have e : (BitVec.ofInt 64 (n : Int) &&& BitVec.ofInt 64 1).toNat = n % 2 := by
    have e1 : BitVec.ofInt 64 (n : Int) = BitVec.ofNat 64 n := BitVec.ofInt_natCast 64 n
    have e2 : BitVec.ofInt 64 1 = BitVec.ofNat 64 1 := rfl
    rw [e1, e2, BitVec.toNat_and, BitVec.toNat_ofNat, BitVec.toNat_ofNat, Nat.mod_eq_of_lt (by omega), Nat.mod_eq_of_lt (by omega), Nat.and_one_is_mod]
  simp only [vInt, if_true]
  show some (Value.int .i64 (IntKind.i64.wrap ((BitVec.ofInt 64 (n : Int) &&& BitVec.ofInt 64 1).toNat : Int))) = _
  rw [e, wrap64 (by omega) (by omega)]; rfl
theorem all_snoc {l : List Int} {x : Int} {p : Int → Prop} (h : ∀ y ∈ l, p y) (hx : p x) : ∀ y ∈ l ++ [x], p y := fun y hy => by
  rcases List.mem_append.mp hy with hy | hy
  · exact h y hy
  · simp only [List.mem_singleton] at hy; subst hy; exact hx
/-- Counts that rise, all less than a number. -/
def lifK (l : List Int) (k : Int) : Prop := cntP l ∧ ∀ x ∈ l, x < k
theorem lifK_nil (k : Int) : lifK [] k := ⟨by decide, by simp⟩
theorem lifK_mono {l : List Int} {k m : Int} (h : lifK l k) (hm : k ≤ m) : lifK l m := ⟨h.1, fun x hx => by have := h.2 x hx; omega⟩
theorem lifK_snoc {l : List Int} {k m : Int} (h : lifK l k) (h0 : 0 ≤ k) (h1 : k ≤ 8) (hm : k < m) : lifK (l ++ [k]) m := by
  obtain ⟨⟨g1, g2⟩, g3⟩ := h
  refine ⟨⟨fun x hx => ?_, fun j hj j0 => ?_⟩, fun x hx => ?_⟩
  · rcases List.mem_append.mp hx with h | h
    · exact g1 x h
    · simp only [List.mem_singleton] at h; omega
  · simp only [List.length_append, List.length_singleton] at hj
    have e : ∀ i : Nat, i < l.length → at_ 0 (l ++ [k]) (i : Int) = at_ 0 l (i : Int) := fun i hi => by
      rw [at_eq 0 _ (by simp; omega), at_eq 0 _ hi, List.getElem_append_left hi]
    have e2 : at_ 0 (l ++ [k]) (l.length : Int) = k := by
      rw [at_eq 0 _ (by simp), List.getElem_append_right (Nat.le_refl _)]; simp
    have e3 := e (j - 1) (by omega)
    rw [show (((j - 1 : Nat) : Nat) : Int) = (j : Int) - 1 by omega] at e3
    rw [e3]
    by_cases g : j = l.length
    · rw [g, e2]
      have := g3 _ (at_mem 0 l (i := (l.length : Int) - 1) (by omega) (by omega))
      exact this
    · rw [e j (by omega)]; exact g2 j (by omega) j0
  · rcases List.mem_append.mp hx with h | h
    · have := g3 x h; omega
    · simp only [List.mem_singleton] at h; omega
theorem dgL_take {b x : Int} {N m : Nat} (h : m < N) : (dgL b x N).take m ++ [x / b ^ (N - 1 - m) % b] = (dgL b x N).take (m + 1) := by
  rw [take_at 0 _ (by rw [dgL_len]; exact h), at_eq 0 _ (by rw [dgL_len]; exact h)]
  simp [dgL]
theorem cnN_none {p : Nat → Prop} [DecidablePred p] : ∀ {n : Nat}, cnN p n = 0 → ∀ x, x < n → ¬ p x
  | 0, _, x, hx => by omega
  | n + 1, h, x, hx => by
    have b := cnN_bnd p n
    by_cases hp : p n
    · rw [cnN_yes hp] at h; omega
    · rw [cnN_no hp] at h
      by_cases e : x = n
      · subst e; exact hp
      · exact cnN_none h x (by omega)
theorem cnN_fst {p : Nat → Prop} [DecidablePred p] {n : Nat} : (0 ≤ fstN p n ↔ 0 < cnN p n) := by
  induction n with
  | zero => simp [fstN, cnN]
  | succ n ih =>
    have b := cnN_bnd p n
    by_cases h : 0 ≤ fstN p n
    · rw [fst_keep h]
      have := ih.mp h
      unfold cnN; split <;> omega
    · by_cases hp : p n
      · rw [fst_hit h hp, cnN_yes hp]; omega
      · rw [fst_skip hp, cnN_no hp]; exact ih
theorem fb_iff {b s l : List Int} {r c : Int} (h : cbfP b s r c l) : fbP b s r c l ↔ 0 < (cnN (befP b s r c l) (pw (r * c))) := by
  rw [← cnN_fst]
  exact ⟨fun g => g.2, fun g => ⟨h, g⟩⟩
theorem first_eq {b s l : List Int} {r c : Int} {t N : Nat} (h : cbfP b s r c l) (hb : befP b s r c l t) (hn : ¬ 0 < cnN (befP b s r c l) t) (ht : t < pw (r * c)) : selL (fbP b s r c l) (dgL 2 (fbF b s r c l) N) = dgL 2 (t : Int) N := by
  have e : fbF b s r c l = (t : Int) := fstN_at (p := befP b s r c l) hb (cnN_none (by have := cnN_bnd (befP b s r c l) t; omega)) ht
  rw [selL_t ⟨h, by rw [e]; omega⟩, e]
theorem ints_eq {l m : List Int} (h : l.length = m.length) (ha : ∀ j : Nat, j < l.length → at_ 0 l (j : Int) = at_ 0 m (j : Int)) : l = m := by
  apply List.ext_getElem h
  intro j h1 h2
  have := ha j h1
  rw [at_eq 0 l h1, at_eq 0 m h2] at this
  exact this
theorem ints_snoc {l m : List Int} {i : Nat} (ha : ∀ j : Nat, j < i → at_ 0 l (j : Int) = at_ 0 m (j : Int)) (h : at_ 0 l (i : Int) = at_ 0 m (i : Int)) : ∀ j : Nat, j < i + 1 → at_ 0 l (j : Int) = at_ 0 m (j : Int) := fun j hj => by
  by_cases e : j = i
  · subst e; exact h
  · exact ha j (by omega)
theorem C.spec_B10Life {vy : Value} {l : List Int}  {H : Hp} {K : Value → Hp → Prop} (hvy0 : Sl eU H vy l) (hb_vy : bytP l) (hl_vy : l.length ≤ 9223372036854775807)
    (hk : ∀ (lb : List Int) (lz : List Int), (True) → (lifP lb lz ∧ lb.length ≤ 8 ∧ lz.length ≤ 8) → ∀ u1 u2 H', Own eI H' u1 lb → Own eI H' u2 lz → Nw H u1 → Nw H u2 → Apart u1 u2 → Le H H' → K (.agg #[u1, u2]) H') : HT prg I.spec_B10Life [vy].toArray H K := by
  have lE := Le.refl H
  have hvy := hvy0
  refine R.spec_B10Life ?_
  unfold F.spec_B10Life
  refine nw_i (fun p1 H2 op1 nn3 le4 => ?_)
  have np1 : Nw H p1 := nn3.le lE
  replace hvy := hvy.le le4
  replace lE := lE.trans le4
  replace op1 : Cel H2 p1 [(.slice none 0 0), (.slice none 0 0)] := op1
  refine C.spec_l00From hvy (fun z H5 oz nn6 le7 => ?_)
  have ap1Xz : Apart p1 z := op1.apart nn6
  have nz : Nw H z := nn6.le lE
  replace op1 := op1.le le7
  replace hvy := hvy.le le7
  replace lE := lE.trans le7
  replace oz : Cel H5 z [vy, (.int .i64 (0)), (.int .u64 (0))] := oz
  refine C.pspec_l00Src_one (n := 2) hvy0 hb_vy hl_vy lE nz oz (by omega) (by omega) (fun x8 at9 sd10 H11 ap13 aq14 oz off12 => ?_)
  replace op1 := op1.off off12 ap1Xz
  replace hvy := hvy0.le (off12.le lE nz)
  replace lE := off12.le lE nz
  replace oz : Cel H11 z [vy, (.int .i64 (at9)), (.int .u64 (sd10))] := oz
  refine cnd_i (fun hg15 => ?_) (fun hg15 => ?_)
  · skip
    refine bS_i (enc := eI) (l := [3]) (by omega) rfl (by kernel_rfl) (fun u16 H17 ou16 nn18 le20 => ?_)
    have ap1Xu16 : Apart p1 u16 := op1.apart nn18
    have azXu16 : Apart z u16 := oz.apart nn18
    have nu16 : Nw H u16 := nn18.le lE
    replace op1 := op1.le le20
    replace oz := oz.le le20
    replace hvy := hvy.le le20
    replace lE := lE.trans le20
    refine bS_i (enc := eI) (l := [2, 3]) (by omega) rfl (by kernel_rfl) (fun u21 H22 ou21 nn23 le25 => ?_)
    have ap1Xu21 : Apart p1 u21 := op1.apart nn23
    have azXu21 : Apart z u21 := oz.apart nn23
    have au16Xu21 : Apart u16 u21 := ou16.apart nn23
    have nu21 : Nw H u21 := nn23.le lE
    replace op1 := op1.le le25
    replace oz := oz.le le25
    replace ou16 := ou16.le le25
    replace hvy := hvy.le le25
    replace lE := lE.trans le25
    refine ob_i (a := (.agg #[u16, u21])) (by obtain ⟨_, _, _, rfl⟩ := ou16.isSl; obtain ⟨_, _, _, rfl⟩ := ou21.isSl; rfl) ?_
    refine op1.stn (ws := [u16, u21]) rfl rfl (oc1 ou16.one (oc1 ou21.one oc0)) (fun H26 op1 off27 => ?_)
    replace oz := oz.off off27 ap1Xz.symm
    replace ou16 := ou16.off off27 ap1Xu16.symm
    replace ou21 := ou21.off off27 ap1Xu21.symm
    replace hvy := hvy0.le (off27.le lE np1)
    replace lE := off27.le lE np1
    replace op1 : Cel H26 p1 [u16, u21] := op1
    refine ob_i (op1.ldn rfl) ?_
    skip
    exact hk  ([3]) ([2, 3]) (by first | trivial | exact ⟨hlu, hll, hlm⟩ | decide) (by first | trivial | exact ⟨hlu, hll, hlm⟩ | decide) u16 u21 _ ou16 ou21 nu16 nu21 au16Xu21 lE
  · skip
    refine R.spec_l04DrawLifeOk ?_
    unfold F.spec_l04DrawLifeOk
    refine nw_i (fun q0 H28 oq0 nn29 le30 => ?_)
    have ap1Xq0 : Apart p1 q0 := op1.apart nn29
    have azXq0 : Apart z q0 := oz.apart nn29
    have nq0 : Nw H q0 := nn29.le lE
    replace op1 := op1.le le30
    replace oz := oz.le le30
    replace hvy := hvy.le le30
    replace lE := lE.trans le30
    replace oq0 : Cel H28 q0 [(.slice none 0 0), (.slice none 0 0)] := oq0
    refine bS_i (enc := eI) (l := [3]) (by omega) rfl (by kernel_rfl) (fun u31 H32 ou31 nn33 le35 => ?_)
    have ap1Xu31 : Apart p1 u31 := op1.apart nn33
    have azXu31 : Apart z u31 := oz.apart nn33
    have aq0Xu31 : Apart q0 u31 := oq0.apart nn33
    have nu31 : Nw H u31 := nn33.le lE
    replace op1 := op1.le le35
    replace oz := oz.le le35
    replace oq0 := oq0.le le35
    replace hvy := hvy.le le35
    replace lE := lE.trans le35
    refine bS_i (enc := eI) (l := [2, 3]) (by omega) rfl (by kernel_rfl) (fun u36 H37 ou36 nn38 le40 => ?_)
    have ap1Xu36 : Apart p1 u36 := op1.apart nn38
    have azXu36 : Apart z u36 := oz.apart nn38
    have aq0Xu36 : Apart q0 u36 := oq0.apart nn38
    have au31Xu36 : Apart u31 u36 := ou31.apart nn38
    have nu36 : Nw H u36 := nn38.le lE
    replace op1 := op1.le le40
    replace oz := oz.le le40
    replace oq0 := oq0.le le40
    replace ou31 := ou31.le le40
    replace hvy := hvy.le le40
    replace lE := lE.trans le40
    refine ob_i (a := (.agg #[u31, u36])) (by obtain ⟨_, _, _, rfl⟩ := ou31.isSl; obtain ⟨_, _, _, rfl⟩ := ou36.isSl; rfl) ?_
    refine nw_i (fun q H41 oq nn42 le43 => ?_)
    have ap1Xq : Apart p1 q := op1.apart nn42
    have azXq : Apart z q := oz.apart nn42
    have aq0Xq : Apart q0 q := oq0.apart nn42
    have au31Xq : Apart u31 q := ou31.apart nn42
    have au36Xq : Apart u36 q := ou36.apart nn42
    have nq : Nw H q := nn42.le lE
    replace op1 := op1.le le43
    replace oz := oz.le le43
    replace oq0 := oq0.le le43
    replace ou31 := ou31.le le43
    replace ou36 := ou36.le le43
    replace hvy := hvy.le le43
    replace lE := lE.trans le43
    replace oq : Cel H41 q [(.slice none 0 0), (.slice none 0 0)] := oq
    refine oq.stn (ws := [u31, u36]) rfl rfl (oc1 ou31.one (oc1 ou36.one oc0)) (fun H44 oq off45 => ?_)
    replace op1 := op1.off off45 ap1Xq
    replace oz := oz.off off45 azXq
    replace oq0 := oq0.off off45 aq0Xq
    replace ou31 := ou31.off off45 au31Xq
    replace ou36 := ou36.off off45 au36Xq
    replace hvy := hvy0.le (off45.le lE nq)
    replace lE := off45.le lE nq
    replace oq : Cel H44 q [u31, u36] := oq
    refine jn_i (fun σ' H' => ∃ u, ∃ v, ∃ lu, ∃ lv, σ' 2 = q0 ∧ σ' 3 = q ∧ Cel H' p1 [(.slice none 0 0), (.slice none 0 0)] ∧ Cel H' q0 [(.slice none 0 0), (.slice none 0 0)] ∧ Cel H' q [u, v] ∧ Own eI H' u (lu) ∧ Own eI H' v (lv) ∧ Nw H u ∧ Apart p1 u ∧ Apart q0 u ∧ Apart q u ∧ Nw H v ∧ Apart p1 v ∧ Apart q0 v ∧ Apart q v ∧ Apart u v ∧ Le H H' ∧ lifP lu lv ∧ lu.length ≤ 8 ∧ lv.length ≤ 8) (fun σ46 H46 hP => ?_) (fun J46 hJ46 => ?_)
    · skip
      obtain ⟨u, v, lu, lv, g2L46, g3L46, op1, oq0, oq, ou, ov, nu, ap1Xu, aq0Xu, aqXu, nv, ap1Xv, aq0Xv, aqXv, auXv, lE, hlu, hll, hlm⟩ := hP
      have hvy := hvy0.le lE
      try simp only [g2L46, g3L46]
      refine ob_i (oq.ldn rfl) ?_
      refine oq0.stn (ws := [u, v]) rfl rfl (oc1 ou.one (oc1 ov.one oc0)) (fun H47 oq0 off48 => ?_)
      replace op1 := op1.off off48 ap1Xq0
      replace oq := oq.off off48 aq0Xq.symm
      replace ou := ou.off off48 aq0Xu.symm
      replace ov := ov.off off48 aq0Xv.symm
      replace hvy := hvy0.le (off48.le lE nq0)
      replace lE := off48.le lE nq0
      replace oq0 : Cel H47 q0 [u, v] := oq0
      refine ob_i (oq0.ldn rfl) ?_
      refine op1.stn (ws := [u, v]) rfl rfl (oc1 ou.one (oc1 ov.one oc0)) (fun H49 op1 off50 => ?_)
      replace oq0 := oq0.off off50 ap1Xq0.symm
      replace oq := oq.off off50 ap1Xq.symm
      replace ou := ou.off off50 ap1Xu.symm
      replace ov := ov.off off50 ap1Xv.symm
      replace hvy := hvy0.le (off50.le lE np1)
      replace lE := off50.le lE np1
      replace op1 : Cel H49 p1 [u, v] := op1
      refine ob_i (op1.ldn rfl) ?_
      skip
      exact hk  lu lv (by first | trivial | exact ⟨hlu, hll, hlm⟩ | decide) (by first | trivial | exact ⟨hlu, hll, hlm⟩ | decide) u v _ ou ov nu nv auXv lE
    refine C.pspec_l00Src_one (n := 2) hvy0 hb_vy hl_vy lE nz oz (by omega) (by omega) (fun x51 at52 sd53 H54 ap56 aq57 oz off55 => ?_)
    replace op1 := op1.off off55 ap1Xz
    replace oq0 := oq0.off off55 azXq0.symm
    replace ou31 := ou31.off off55 azXu31.symm
    replace ou36 := ou36.off off55 azXu36.symm
    replace oq := oq.off off55 azXq.symm
    replace hvy := hvy0.le (off55.le lE nz)
    replace lE := off55.le lE nz
    replace oz : Cel H54 z [vy, (.int .i64 (at52)), (.int .u64 (sd53))] := oz
    refine cnd_i (fun hg58 => ?_) (fun hg58 => ?_)
    · skip
      refine bS_nil (enc := eI) (fun u59 H60 ou59 nn61 kk62 le63 => ?_)
      have ap1Xu59 : Apart p1 u59 := op1.apart nn61
      have azXu59 : Apart z u59 := oz.apart nn61
      have aq0Xu59 : Apart q0 u59 := oq0.apart nn61
      have au31Xu59 : Apart u31 u59 := ou31.apart nn61
      have au36Xu59 : Apart u36 u59 := ou36.apart nn61
      have aqXu59 : Apart q u59 := oq.apart nn61
      have nu59 : Nw H u59 := nn61.le lE
      replace op1 := op1.le le63
      replace oz := oz.le le63
      replace oq0 := oq0.le le63
      replace ou31 := ou31.le le63
      replace ou36 := ou36.le le63
      replace oq := oq.le le63
      replace hvy := hvy.le le63
      replace lE := lE.trans le63
      refine bS_nil (enc := eI) (fun u64 H65 ou64 nn66 kk67 le68 => ?_)
      have ap1Xu64 : Apart p1 u64 := op1.apart nn66
      have azXu64 : Apart z u64 := oz.apart nn66
      have aq0Xu64 : Apart q0 u64 := oq0.apart nn66
      have au31Xu64 : Apart u31 u64 := ou31.apart nn66
      have au36Xu64 : Apart u36 u64 := ou36.apart nn66
      have aqXu64 : Apart q u64 := oq.apart nn66
      have au59Xu64 : Apart u59 u64 := ou59.apart nn66
      have nu64 : Nw H u64 := nn66.le lE
      replace op1 := op1.le le68
      replace oz := oz.le le68
      replace oq0 := oq0.le le68
      replace ou31 := ou31.le le68
      replace ou36 := ou36.le le68
      replace oq := oq.le le68
      replace ou59 := ou59.le le68
      replace hvy := hvy.le le68
      replace lE := lE.trans le68
      refine ob_i (a := (.agg #[u59, u64])) (by obtain ⟨_, _, _, rfl⟩ := ou59.isSl; obtain ⟨_, _, _, rfl⟩ := ou64.isSl; rfl) ?_
      refine oq.stn (ws := [u59, u64]) rfl rfl (oc1 ou59.one (oc1 ou64.one oc0)) (fun H69 oq off70 => ?_)
      replace op1 := op1.off off70 ap1Xq
      replace oz := oz.off off70 azXq
      replace oq0 := oq0.off off70 aq0Xq
      replace ou31 := ou31.off off70 au31Xq
      replace ou36 := ou36.off off70 au36Xq
      replace ou59 := ou59.off off70 aqXu59.symm
      replace ou64 := ou64.off off70 aqXu64.symm
      replace hvy := hvy0.le (off70.le lE nq)
      replace lE := off70.le lE nq
      replace oq : Cel H69 q [u59, u64] := oq
      refine ⟨fun n' σ' H' => ∃ i : Nat, n' = 8 - i ∧ i ≤ 8 ∧ ∃ u, ∃ v, ∃ lu, ∃ lv, ∃ ats, ∃ sd, σ' 0 = z ∧ σ' 2 = q0 ∧ σ' 3 = q ∧ σ' 4 = (.int .i64 ((i : Int) + 1)) ∧ Cel H' p1 [(.slice none 0 0), (.slice none 0 0)] ∧ Cel H' z [vy, (.int .i64 (ats)), (.int .u64 (sd))] ∧ Cel H' q0 [(.slice none 0 0), (.slice none 0 0)] ∧ Own eI H' u31 ([3]) ∧ Own eI H' u36 ([2, 3]) ∧ Cel H' q [u, v] ∧ Own eI H' u (lu) ∧ Own eI H' v (lv) ∧ Nw H u ∧ Apart p1 u ∧ Apart z u ∧ Apart q0 u ∧ Apart u31 u ∧ Apart u36 u ∧ Apart q u ∧ Nw H v ∧ Apart p1 v ∧ Apart z v ∧ Apart q0 v ∧ Apart u31 v ∧ Apart u36 v ∧ Apart q v ∧ Apart u v ∧ Le H H' ∧ lifK lu ((i : Int) + 1) ∧ lifK lv ((i : Int) + 1) ∧ lu.length ≤ i ∧ lv.length ≤ i ∧ 0 ≤ ats ∧ ats ≤ 8 + 4 * (i : Int),
        ⟨_, 0, rfl, by omega, u59, u64, [], [], _, _, rfl, rfl, rfl, (congrArg (Value.int .i64) (by first | omega | rfl | (simp; done))), op1, oz, oq0, ou31, ou36, oq, (Own.cast (by first | rfl | (simp; done)) ou59), (Own.cast (by first | rfl | (simp; done)) ou64), nu59, ap1Xu59, azXu59, aq0Xu59, au31Xu59, au36Xu59, aqXu59, nu64, ap1Xu64, azXu64, aq0Xu64, au31Xu64, au36Xu64, aqXu64, au59Xu64, lE, lifK_nil _, lifK_nil _, (by simp), (by simp), ⟨by omega, by omega⟩⟩, ?_⟩
      rintro n71 σ71 H71 ⟨i, rfl, hiN, u, v, lu, lv, ats, sd, g0L71, g2L71, g3L71, g4L71, op1, oz, oq0, ou31, ou36, oq, ou, ov, nu, ap1Xu, azXu, aq0Xu, au31Xu, au36Xu, aqXu, nv, ap1Xv, azXv, aq0Xv, au31Xv, au36Xv, aqXv, auXv, lE, hlu, hlv, hll, hlm, hat⟩
      have hvy := hvy0.le lE
      try simp only [g0L71, g2L71, g3L71, g4L71]
      refine ob_i (vInt_lss _ _ _) ?_
      refine cnd_d (fun hg72 => ?_) (fun hg72 => ?_)
      · skip
        have ti := hg72
        refine C.pspec_l00Src_one (n := 3) hvy0 hb_vy hl_vy lE nz oz (by omega) (by omega) (fun x73 at74 sd75 H76 ap78 aq79 oz off77 => ?_)
        replace op1 := op1.off off77 ap1Xz
        replace oq0 := oq0.off off77 azXq0.symm
        replace ou31 := ou31.off off77 azXu31.symm
        replace ou36 := ou36.off off77 azXu36.symm
        replace oq := oq.off off77 azXq.symm
        replace ou := ou.off off77 azXu.symm
        replace ov := ov.off off77 azXv.symm
        replace hvy := hvy0.le (off77.le lE nz)
        replace lE := off77.le lE nz
        replace oz : Cel H76 z [vy, (.int .i64 (at74)), (.int .u64 (sd75))] := oz
        refine cnd_i (fun hg80 => ?_) (fun hg80 => ?_)
        · skip
          refine ob_i (oq.fa 0) ?_
          refine ob_i (oq.ld 0 rfl) ?_
          refine bS_i (enc := eI) (l := [(i : Int) + 1]) (by omega) rfl (by kernel_rfl) (fun u81 H82 ou81 nn83 le85 => ?_)
          have ap1Xu81 : Apart p1 u81 := op1.apart nn83
          have azXu81 : Apart z u81 := oz.apart nn83
          have aq0Xu81 : Apart q0 u81 := oq0.apart nn83
          have au31Xu81 : Apart u31 u81 := ou31.apart nn83
          have au36Xu81 : Apart u36 u81 := ou36.apart nn83
          have aqXu81 : Apart q u81 := oq.apart nn83
          have auXu81 : Apart u u81 := ou.apart nn83
          have avXu81 : Apart v u81 := ov.apart nn83
          have nu81 : Nw H u81 := nn83.le lE
          replace op1 := op1.le le85
          replace oz := oz.le le85
          replace oq0 := oq0.le le85
          replace ou31 := ou31.le le85
          replace ou36 := ou36.le le85
          replace oq := oq.le le85
          replace ou := ou.le le85
          replace ov := ov.le le85
          replace hvy := hvy.le le85
          replace lE := lE.trans le85
          refine apd_any ou ou81.sl (fun _ => rfl) (by omega) (by first | omega | (simp only [List.length_cons, List.length_nil, List.length_append, List.length_replicate, List.length_map, List.length_range]; omega)) (fun u89 H86 ou89 off87 hb88 => ?_)
          have ap1Xu89 : Apart p1 u89 := Apart.ap2 op1.known ap1Xu hb88
          have azXu89 : Apart z u89 := Apart.ap2 oz.known azXu hb88
          have aq0Xu89 : Apart q0 u89 := Apart.ap2 oq0.known aq0Xu hb88
          have au31Xu89 : Apart u31 u89 := Apart.ap2 ou31.known au31Xu hb88
          have au36Xu89 : Apart u36 u89 := Apart.ap2 ou36.known au36Xu hb88
          have aqXu89 : Apart q u89 := Apart.ap2 oq.known aqXu hb88
          have avXu89 : Apart v u89 := Apart.ap2 ov.known auXv.symm hb88
          have au81Xu89 : Apart u81 u89 := Apart.ap2 ou81.known auXu81.symm hb88
          have nu89 : Nw H u89 := Nw.ap2 nu lE hb88
          replace op1 := op1.off off87 ap1Xu
          replace oz := oz.off off87 azXu
          replace oq0 := oq0.off off87 aq0Xu
          replace ou31 := ou31.off off87 au31Xu
          replace ou36 := ou36.off off87 au36Xu
          replace oq := oq.off off87 aqXu
          replace ov := ov.off off87 auXv.symm
          replace ou81 := ou81.off off87 auXu81.symm
          replace hvy := hvy0.le (off87.le lE nu)
          replace lE := off87.le lE nu
          refine ob_i (oq.fa 0) ?_
          refine oq.st (by simp) ou89.one ou89.cells (fun H90 oq off91 => ?_)
          replace op1 := op1.off off91 ap1Xq
          replace oz := oz.off off91 azXq
          replace oq0 := oq0.off off91 aq0Xq
          replace ou31 := ou31.off off91 au31Xq
          replace ou36 := ou36.off off91 au36Xq
          replace ov := ov.off off91 aqXv.symm
          replace ou81 := ou81.off off91 aqXu81.symm
          replace ou89 := ou89.off off91 aqXu89.symm
          replace hvy := hvy0.le (off91.le lE nq)
          replace lE := off91.le lE nq
          replace oq : Cel H90 q [u89, v] := oq
          refine C.pspec_l00Src_one (n := 3) hvy0 hb_vy hl_vy lE nz oz (by omega) (by omega) (fun x92 at93 sd94 H95 ap97 aq98 oz off96 => ?_)
          replace op1 := op1.off off96 ap1Xz
          replace oq0 := oq0.off off96 azXq0.symm
          replace ou31 := ou31.off off96 azXu31.symm
          replace ou36 := ou36.off off96 azXu36.symm
          replace oq := oq.off off96 azXq.symm
          replace ov := ov.off off96 azXv.symm
          replace ou81 := ou81.off off96 azXu81.symm
          replace ou89 := ou89.off off96 azXu89.symm
          replace hvy := hvy0.le (off96.le lE nz)
          replace lE := off96.le lE nz
          replace oz : Cel H95 z [vy, (.int .i64 (at93)), (.int .u64 (sd94))] := oz
          refine cnd_i (fun hg99 => ?_) (fun hg99 => ?_)
          · skip
            refine ob_i (oq.fa 1) ?_
            refine ob_i (oq.ld 1 rfl) ?_
            refine bS_i (enc := eI) (l := [(i : Int) + 1]) (by omega) rfl (by kernel_rfl) (fun u100 H101 ou100 nn102 le104 => ?_)
            have ap1Xu100 : Apart p1 u100 := op1.apart nn102
            have azXu100 : Apart z u100 := oz.apart nn102
            have aq0Xu100 : Apart q0 u100 := oq0.apart nn102
            have au31Xu100 : Apart u31 u100 := ou31.apart nn102
            have au36Xu100 : Apart u36 u100 := ou36.apart nn102
            have aqXu100 : Apart q u100 := oq.apart nn102
            have avXu100 : Apart v u100 := ov.apart nn102
            have au81Xu100 : Apart u81 u100 := ou81.apart nn102
            have au89Xu100 : Apart u89 u100 := ou89.apart nn102
            have nu100 : Nw H u100 := nn102.le lE
            replace op1 := op1.le le104
            replace oz := oz.le le104
            replace oq0 := oq0.le le104
            replace ou31 := ou31.le le104
            replace ou36 := ou36.le le104
            replace oq := oq.le le104
            replace ov := ov.le le104
            replace ou81 := ou81.le le104
            replace ou89 := ou89.le le104
            replace hvy := hvy.le le104
            replace lE := lE.trans le104
            refine apd_any ov ou100.sl (fun _ => rfl) (by omega) (by first | omega | (simp only [List.length_cons, List.length_nil, List.length_append, List.length_replicate, List.length_map, List.length_range]; omega)) (fun u108 H105 ou108 off106 hb107 => ?_)
            have ap1Xu108 : Apart p1 u108 := Apart.ap2 op1.known ap1Xv hb107
            have azXu108 : Apart z u108 := Apart.ap2 oz.known azXv hb107
            have aq0Xu108 : Apart q0 u108 := Apart.ap2 oq0.known aq0Xv hb107
            have au31Xu108 : Apart u31 u108 := Apart.ap2 ou31.known au31Xv hb107
            have au36Xu108 : Apart u36 u108 := Apart.ap2 ou36.known au36Xv hb107
            have aqXu108 : Apart q u108 := Apart.ap2 oq.known aqXv hb107
            have au81Xu108 : Apart u81 u108 := Apart.ap2 ou81.known avXu81.symm hb107
            have au89Xu108 : Apart u89 u108 := Apart.ap2 ou89.known avXu89.symm hb107
            have au100Xu108 : Apart u100 u108 := Apart.ap2 ou100.known avXu100.symm hb107
            have nu108 : Nw H u108 := Nw.ap2 nv lE hb107
            replace op1 := op1.off off106 ap1Xv
            replace oz := oz.off off106 azXv
            replace oq0 := oq0.off off106 aq0Xv
            replace ou31 := ou31.off off106 au31Xv
            replace ou36 := ou36.off off106 au36Xv
            replace oq := oq.off off106 aqXv
            replace ou81 := ou81.off off106 avXu81.symm
            replace ou89 := ou89.off off106 avXu89.symm
            replace ou100 := ou100.off off106 avXu100.symm
            replace hvy := hvy0.le (off106.le lE nv)
            replace lE := off106.le lE nv
            refine ob_i (oq.fa 1) ?_
            refine oq.st (by simp) ou108.one ou108.cells (fun H109 oq off110 => ?_)
            replace op1 := op1.off off110 ap1Xq
            replace oz := oz.off off110 azXq
            replace oq0 := oq0.off off110 aq0Xq
            replace ou31 := ou31.off off110 au31Xq
            replace ou36 := ou36.off off110 au36Xq
            replace ou81 := ou81.off off110 aqXu81.symm
            replace ou89 := ou89.off off110 aqXu89.symm
            replace ou100 := ou100.off off110 aqXu100.symm
            replace ou108 := ou108.off off110 aqXu108.symm
            replace hvy := hvy0.le (off110.le lE nq)
            replace lE := off110.le lE nq
            replace oq : Cel H109 q [u89, u108] := oq
            refine ob_i (vInt_add (by omega) (by omega)) ?_
            exact nxt (8 - (i + 1)) (by omega) ⟨i + 1, rfl, by omega, u89, u108, (lu ++ ([(i : Int) + 1])), (lv ++ ([(i : Int) + 1])), (at93), (sd94), g0L71, g2L71, g3L71, (congrArg (Value.int .i64) (by first | omega | rfl | (simp; done))), op1, oz, oq0, ou31, ou36, oq, ou89, ou108, nu89, ap1Xu89, azXu89, aq0Xu89, au31Xu89, au36Xu89, aqXu89, nu108, ap1Xu108, azXu108, aq0Xu108, au31Xu108, au36Xu108, aqXu108, au89Xu108, lE, (by first | exact lifK_mono hlu (by omega) | exact lifK_snoc hlu (by omega) (by omega) (by omega)), (by first | exact lifK_mono hlv (by omega) | exact lifK_snoc hlv (by omega) (by omega) (by omega)), (by first | (simp only [List.length_append, List.length_singleton]; omega) | omega), (by first | (simp only [List.length_append, List.length_singleton]; omega) | omega), ⟨by omega, by omega⟩⟩
          · skip
            refine ob_i (vInt_add (by omega) (by omega)) ?_
            exact nxt (8 - (i + 1)) (by omega) ⟨i + 1, rfl, by omega, u89, v, (lu ++ ([(i : Int) + 1])), (lv), (at93), (sd94), g0L71, g2L71, g3L71, (congrArg (Value.int .i64) (by first | omega | rfl | (simp; done))), op1, oz, oq0, ou31, ou36, oq, ou89, ov, nu89, ap1Xu89, azXu89, aq0Xu89, au31Xu89, au36Xu89, aqXu89, nv, ap1Xv, azXv, aq0Xv, au31Xv, au36Xv, aqXv, avXu89.symm, lE, (by first | exact lifK_mono hlu (by omega) | exact lifK_snoc hlu (by omega) (by omega) (by omega)), (by first | exact lifK_mono hlv (by omega) | exact lifK_snoc hlv (by omega) (by omega) (by omega)), (by first | (simp only [List.length_append, List.length_singleton]; omega) | omega), (by first | (simp only [List.length_append, List.length_singleton]; omega) | omega), ⟨by omega, by omega⟩⟩
        · skip
          refine C.pspec_l00Src_one (n := 3) hvy0 hb_vy hl_vy lE nz oz (by omega) (by omega) (fun x111 at112 sd113 H114 ap116 aq117 oz off115 => ?_)
          replace op1 := op1.off off115 ap1Xz
          replace oq0 := oq0.off off115 azXq0.symm
          replace ou31 := ou31.off off115 azXu31.symm
          replace ou36 := ou36.off off115 azXu36.symm
          replace oq := oq.off off115 azXq.symm
          replace ou := ou.off off115 azXu.symm
          replace ov := ov.off off115 azXv.symm
          replace hvy := hvy0.le (off115.le lE nz)
          replace lE := off115.le lE nz
          replace oz : Cel H114 z [vy, (.int .i64 (at112)), (.int .u64 (sd113))] := oz
          refine cnd_i (fun hg118 => ?_) (fun hg118 => ?_)
          · skip
            refine ob_i (oq.fa 1) ?_
            refine ob_i (oq.ld 1 rfl) ?_
            refine bS_i (enc := eI) (l := [(i : Int) + 1]) (by omega) rfl (by kernel_rfl) (fun u119 H120 ou119 nn121 le123 => ?_)
            have ap1Xu119 : Apart p1 u119 := op1.apart nn121
            have azXu119 : Apart z u119 := oz.apart nn121
            have aq0Xu119 : Apart q0 u119 := oq0.apart nn121
            have au31Xu119 : Apart u31 u119 := ou31.apart nn121
            have au36Xu119 : Apart u36 u119 := ou36.apart nn121
            have aqXu119 : Apart q u119 := oq.apart nn121
            have auXu119 : Apart u u119 := ou.apart nn121
            have avXu119 : Apart v u119 := ov.apart nn121
            have nu119 : Nw H u119 := nn121.le lE
            replace op1 := op1.le le123
            replace oz := oz.le le123
            replace oq0 := oq0.le le123
            replace ou31 := ou31.le le123
            replace ou36 := ou36.le le123
            replace oq := oq.le le123
            replace ou := ou.le le123
            replace ov := ov.le le123
            replace hvy := hvy.le le123
            replace lE := lE.trans le123
            refine apd_any ov ou119.sl (fun _ => rfl) (by omega) (by first | omega | (simp only [List.length_cons, List.length_nil, List.length_append, List.length_replicate, List.length_map, List.length_range]; omega)) (fun u127 H124 ou127 off125 hb126 => ?_)
            have ap1Xu127 : Apart p1 u127 := Apart.ap2 op1.known ap1Xv hb126
            have azXu127 : Apart z u127 := Apart.ap2 oz.known azXv hb126
            have aq0Xu127 : Apart q0 u127 := Apart.ap2 oq0.known aq0Xv hb126
            have au31Xu127 : Apart u31 u127 := Apart.ap2 ou31.known au31Xv hb126
            have au36Xu127 : Apart u36 u127 := Apart.ap2 ou36.known au36Xv hb126
            have aqXu127 : Apart q u127 := Apart.ap2 oq.known aqXv hb126
            have auXu127 : Apart u u127 := Apart.ap2 ou.known auXv hb126
            have au119Xu127 : Apart u119 u127 := Apart.ap2 ou119.known avXu119.symm hb126
            have nu127 : Nw H u127 := Nw.ap2 nv lE hb126
            replace op1 := op1.off off125 ap1Xv
            replace oz := oz.off off125 azXv
            replace oq0 := oq0.off off125 aq0Xv
            replace ou31 := ou31.off off125 au31Xv
            replace ou36 := ou36.off off125 au36Xv
            replace oq := oq.off off125 aqXv
            replace ou := ou.off off125 auXv
            replace ou119 := ou119.off off125 avXu119.symm
            replace hvy := hvy0.le (off125.le lE nv)
            replace lE := off125.le lE nv
            refine ob_i (oq.fa 1) ?_
            refine oq.st (by simp) ou127.one ou127.cells (fun H128 oq off129 => ?_)
            replace op1 := op1.off off129 ap1Xq
            replace oz := oz.off off129 azXq
            replace oq0 := oq0.off off129 aq0Xq
            replace ou31 := ou31.off off129 au31Xq
            replace ou36 := ou36.off off129 au36Xq
            replace ou := ou.off off129 aqXu.symm
            replace ou119 := ou119.off off129 aqXu119.symm
            replace ou127 := ou127.off off129 aqXu127.symm
            replace hvy := hvy0.le (off129.le lE nq)
            replace lE := off129.le lE nq
            replace oq : Cel H128 q [u, u127] := oq
            refine ob_i (vInt_add (by omega) (by omega)) ?_
            exact nxt (8 - (i + 1)) (by omega) ⟨i + 1, rfl, by omega, u, u127, (lu), (lv ++ ([(i : Int) + 1])), (at112), (sd113), g0L71, g2L71, g3L71, (congrArg (Value.int .i64) (by first | omega | rfl | (simp; done))), op1, oz, oq0, ou31, ou36, oq, ou, ou127, nu, ap1Xu, azXu, aq0Xu, au31Xu, au36Xu, aqXu, nu127, ap1Xu127, azXu127, aq0Xu127, au31Xu127, au36Xu127, aqXu127, auXu127, lE, (by first | exact lifK_mono hlu (by omega) | exact lifK_snoc hlu (by omega) (by omega) (by omega)), (by first | exact lifK_mono hlv (by omega) | exact lifK_snoc hlv (by omega) (by omega) (by omega)), (by first | (simp only [List.length_append, List.length_singleton]; omega) | omega), (by first | (simp only [List.length_append, List.length_singleton]; omega) | omega), ⟨by omega, by omega⟩⟩
          · skip
            refine ob_i (vInt_add (by omega) (by omega)) ?_
            exact nxt (8 - (i + 1)) (by omega) ⟨i + 1, rfl, by omega, u, v, (lu), (lv), (at112), (sd113), g0L71, g2L71, g3L71, (congrArg (Value.int .i64) (by first | omega | rfl | (simp; done))), op1, oz, oq0, ou31, ou36, oq, ou, ov, nu, ap1Xu, azXu, aq0Xu, au31Xu, au36Xu, aqXu, nv, ap1Xv, azXv, aq0Xv, au31Xv, au36Xv, aqXv, auXv, lE, (by first | exact lifK_mono hlu (by omega) | exact lifK_snoc hlu (by omega) (by omega) (by omega)), (by first | exact lifK_mono hlv (by omega) | exact lifK_snoc hlv (by omega) (by omega) (by omega)), (by first | (simp only [List.length_append, List.length_singleton]; omega) | omega), (by first | (simp only [List.length_append, List.length_singleton]; omega) | omega), ⟨by omega, by omega⟩⟩
      · skip
        have ti := hg72
        exact hJ46 _ _ ⟨u, v, _, _, g2L71, g3L71, op1, oq0, oq, ou, ov, nu, ap1Xu, aq0Xu, aqXu, nv, ap1Xv, aq0Xv, aqXv, auXv, lE, (by first | exact ⟨hlu.1, hlv.1⟩ | decide), (by first | decide | omega), (by first | decide | omega)⟩
    · skip
      exact hJ46 _ _ ⟨u31, u36, _, _, rfl, rfl, op1, oq0, oq, ou31, ou36, nu31, ap1Xu31, aq0Xu31, au31Xq.symm, nu36, ap1Xu36, aq0Xu36, au36Xq.symm, au31Xu36, lE, (by first | exact ⟨hlu.1, hlv.1⟩ | decide), (by first | decide | omega), (by first | decide | omega)⟩
theorem C.spec_B10Plain {vy : Value} {r c : Int} {l : List Int}  {H : Hp} {K : Value → Hp → Prop} (hvy0 : Sl eU H vy l) (hb_vy : bytP l) (hl_vy : l.length ≤ 9223372036854775807) (hs : sidesF r c)
    (hk : ∀ (lf : List Int), (fieldN 1 r c lf) → ∀ u1 H', Own eI H' u1 lf → Nw H u1 → Le H H' → K (.agg #[(.int .i64 (r)), (.int .i64 (c)), u1]) H') : HT prg I.spec_B10Plain [vy, (.int .i64 (r)), (.int .i64 (c))].toArray H K := by
  have lE := Le.refl H
  have hvy := hvy0
  refine R.spec_B10Plain ?_
  unfold F.spec_B10Plain
  have qm := sidesF_mul hs
  have q1 := hs.1
  have q2 := hs.2
  refine nw_i (fun p1 H2 op1 nn3 le4 => ?_)
  have np1 : Nw H p1 := nn3.le lE
  replace hvy := hvy.le le4
  replace lE := lE.trans le4
  replace op1 : Cel H2 p1 [(.int .i64 (0)), (.int .i64 (0)), (.slice none 0 0)] := op1
  refine C.spec_l00From hvy (fun z H5 oz nn6 le7 => ?_)
  have ap1Xz : Apart p1 z := op1.apart nn6
  have nz : Nw H z := nn6.le lE
  replace op1 := op1.le le7
  replace hvy := hvy.le le7
  replace lE := lE.trans le7
  replace oz : Cel H5 z [vy, (.int .i64 (0)), (.int .u64 (0))] := oz
  refine R.spec_l04DrawOk ?_
  unfold F.spec_l04DrawOk
  refine nw_i (fun p8 H9 op8 nn10 le11 => ?_)
  have ap1Xp8 : Apart p1 p8 := op1.apart nn10
  have azXp8 : Apart z p8 := oz.apart nn10
  have np8 : Nw H p8 := nn10.le lE
  replace op1 := op1.le le11
  replace oz := oz.le le11
  replace hvy := hvy.le le11
  replace lE := lE.trans le11
  replace op8 : Cel H9 p8 [(.int .i64 (0)), (.int .i64 (0)), (.slice none 0 0)] := op8
  refine R.spec_l04DrawStatesX ?_
  unfold F.spec_l04DrawStatesX
  refine nw_i (fun q0 H12 oq0 nn13 le14 => ?_)
  have ap1Xq0 : Apart p1 q0 := op1.apart nn13
  have azXq0 : Apart z q0 := oz.apart nn13
  have ap8Xq0 : Apart p8 q0 := op8.apart nn13
  have nq0 : Nw H q0 := nn13.le lE
  replace op1 := op1.le le14
  replace oz := oz.le le14
  replace op8 := op8.le le14
  replace hvy := hvy.le le14
  replace lE := lE.trans le14
  replace oq0 : Cel H12 q0 [(.int .i64 (0)), (.int .i64 (0)), (.slice none 0 0)] := oq0
  refine ob_i (a := (.agg #[(.int .i64 (r)), (.int .i64 (c)), (.slice none 0 0)])) (by rfl) ?_
  refine nw_i (fun q H15 oq nn16 le17 => ?_)
  have ap1Xq : Apart p1 q := op1.apart nn16
  have azXq : Apart z q := oz.apart nn16
  have ap8Xq : Apart p8 q := op8.apart nn16
  have aq0Xq : Apart q0 q := oq0.apart nn16
  have nq : Nw H q := nn16.le lE
  replace op1 := op1.le le17
  replace oz := oz.le le17
  replace op8 := op8.le le17
  replace oq0 := oq0.le le17
  replace hvy := hvy.le le17
  replace lE := lE.trans le17
  replace oq : Cel H15 q [(.int .i64 (0)), (.int .i64 (0)), (.slice none 0 0)] := oq
  refine oq.stn (ws := [(.int .i64 (r)), (.int .i64 (c)), (.slice none 0 0)]) rfl rfl (oc1 rfl (oc1 rfl (oc1 rfl oc0))) (fun H18 oq off19 => ?_)
  replace op1 := op1.off off19 ap1Xq
  replace oz := oz.off off19 azXq
  replace op8 := op8.off off19 ap8Xq
  replace oq0 := oq0.off off19 aq0Xq
  replace hvy := hvy0.le (off19.le lE nq)
  replace lE := off19.le lE nq
  replace oq : Cel H18 q [(.int .i64 (r)), (.int .i64 (c)), (.slice none 0 0)] := oq
  refine jn_i (fun σ' H' => ∃ u, ∃ lu, σ' 8 = q0 ∧ σ' 9 = q ∧ Cel H' p1 [(.int .i64 (0)), (.int .i64 (0)), (.slice none 0 0)] ∧ Cel H' p8 [(.int .i64 (0)), (.int .i64 (0)), (.slice none 0 0)] ∧ Cel H' q0 [(.int .i64 (0)), (.int .i64 (0)), (.slice none 0 0)] ∧ Cel H' q [(.int .i64 (r)), (.int .i64 (c)), u] ∧ Own eI H' u (lu) ∧ Nw H u ∧ Apart p1 u ∧ Apart p8 u ∧ Apart q0 u ∧ Apart q u ∧ Le H H' ∧ (lu.length : Int) = r * c ∧ (∀ x ∈ lu, 0 ≤ x ∧ x ≤ 1)) (fun σ20 H20 hP => ?_) (fun J20 hJ20 => ?_)
  · skip
    obtain ⟨u, lu, g8L20, g9L20, op1, op8, oq0, oq, ou, nu, ap1Xu, ap8Xu, aq0Xu, aqXu, lE, hln, hLa⟩ := hP
    have hvy := hvy0.le lE
    try simp only [g8L20, g9L20]
    refine ob_i (oq.ldn rfl) ?_
    refine oq0.stn (ws := [(.int .i64 (r)), (.int .i64 (c)), u]) rfl rfl (oc1 rfl (oc1 rfl (oc1 ou.one oc0))) (fun H21 oq0 off22 => ?_)
    replace op1 := op1.off off22 ap1Xq0
    replace op8 := op8.off off22 ap8Xq0
    replace oq := oq.off off22 aq0Xq.symm
    replace ou := ou.off off22 aq0Xu.symm
    replace hvy := hvy0.le (off22.le lE nq0)
    replace lE := off22.le lE nq0
    replace oq0 : Cel H21 q0 [(.int .i64 (r)), (.int .i64 (c)), u] := oq0
    refine ob_i (oq0.ldn rfl) ?_
    refine op8.stn (ws := [(.int .i64 (r)), (.int .i64 (c)), u]) rfl rfl (oc1 rfl (oc1 rfl (oc1 ou.one oc0))) (fun H23 op8 off24 => ?_)
    replace op1 := op1.off off24 ap1Xp8
    replace oq0 := oq0.off off24 ap8Xq0.symm
    replace oq := oq.off off24 ap8Xq.symm
    replace ou := ou.off off24 ap8Xu.symm
    replace hvy := hvy0.le (off24.le lE np8)
    replace lE := off24.le lE np8
    replace op8 : Cel H23 p8 [(.int .i64 (r)), (.int .i64 (c)), u] := op8
    refine ob_i (op8.ldn rfl) ?_
    refine op1.stn (ws := [(.int .i64 (r)), (.int .i64 (c)), u]) rfl rfl (oc1 rfl (oc1 rfl (oc1 ou.one oc0))) (fun H25 op1 off26 => ?_)
    replace op8 := op8.off off26 ap1Xp8.symm
    replace oq0 := oq0.off off26 ap1Xq0.symm
    replace oq := oq.off off26 ap1Xq.symm
    replace ou := ou.off off26 ap1Xu.symm
    replace hvy := hvy0.le (off26.le lE np1)
    replace lE := off26.le lE np1
    replace op1 : Cel H25 p1 [(.int .i64 (r)), (.int .i64 (c)), u] := op1
    refine ob_i (op1.ldn rfl) ?_
    skip
    exact hk  lu (by exact ⟨hs, hln, hLa⟩) u _ ou nu  lE
  refine ob_i (vInt_mul (by omega) (by omega)) ?_
  refine ⟨fun n' σ' H' => ∃ i : Nat, n' = (r * c).toNat - i ∧ i ≤ (r * c).toNat ∧ ∃ u, ∃ lu, ∃ ats, ∃ sd, σ' 0 = z ∧ σ' 3 = (.int .i64 (2)) ∧ σ' 8 = q0 ∧ σ' 9 = q ∧ σ' 10 = (.int .i64 (r * c - (i : Int))) ∧ Cel H' p1 [(.int .i64 (0)), (.int .i64 (0)), (.slice none 0 0)] ∧ Cel H' z [vy, (.int .i64 (ats)), (.int .u64 (sd))] ∧ Cel H' p8 [(.int .i64 (0)), (.int .i64 (0)), (.slice none 0 0)] ∧ Cel H' q0 [(.int .i64 (0)), (.int .i64 (0)), (.slice none 0 0)] ∧ Cel H' q [(.int .i64 (r)), (.int .i64 (c)), u] ∧ Own eI H' u (lu) ∧ Nw H u ∧ Apart p1 u ∧ Apart z u ∧ Apart p8 u ∧ Apart q0 u ∧ Apart q u ∧ Le H H' ∧ lu.length = i ∧ (∀ x ∈ lu, 0 ≤ x ∧ x ≤ 1) ∧ 0 ≤ ats ∧ ats ≤ 2 * (i : Int),
    ⟨_, 0, rfl, by omega, _, [], 0, 0, rfl, rfl, rfl, rfl, (congrArg (Value.int .i64) (by first | omega | rfl | (simp; done))), op1, oz, op8, oq0, oq, (Own.cast (by first | rfl | (simp; done)) (Own.nil_of none)), (fun b hb => by simp [bk] at hb), (fun b _ hb => by simp [bk] at hb), (fun b _ hb => by simp [bk] at hb), (fun b _ hb => by simp [bk] at hb), (fun b _ hb => by simp [bk] at hb), (fun b _ hb => by simp [bk] at hb), lE, rfl, (by simp), ⟨by omega, by omega⟩⟩, ?_⟩
  rintro n27 σ27 H27 ⟨i, rfl, hiN, u, lu, ats, sd, g0L27, g3L27, g8L27, g9L27, g10L27, op1, oz, op8, oq0, oq, ou, nu, ap1Xu, azXu, ap8Xu, aq0Xu, aqXu, lE, hln, hLa, hat⟩
  have hvy := hvy0.le lE
  try simp only [g0L27, g3L27, g8L27, g9L27, g10L27]
  refine ob_i (vInt_gtr _ _ _) ?_
  refine cnd_d (fun hg28 => ?_) (fun hg28 => ?_)
  · skip
    have ti := hg28
    refine ⟨?_, ?_⟩
    · skip
      refine ob_i (oq.fa 2) ?_
      refine ob_i (oq.ld 2 rfl) ?_
      refine C.pspec_l00Src_pick hvy0 hb_vy hl_vy lE nz oz (by omega) (by omega) (fun x29 at30 sd31 H32 xp34 xq35 ap36 aq37 oz off33 => ?_)
      replace xq35 := xq35 (by omega)
      replace op1 := op1.off off33 ap1Xz
      replace op8 := op8.off off33 azXp8.symm
      replace oq0 := oq0.off off33 azXq0.symm
      replace oq := oq.off off33 azXq.symm
      replace ou := ou.off off33 azXu.symm
      replace hvy := hvy0.le (off33.le lE nz)
      replace lE := off33.le lE nz
      replace oz : Cel H32 z [vy, (.int .i64 (at30)), (.int .u64 (sd31))] := oz
      refine bS_i (enc := eI) (l := [x29]) (by omega) rfl (by kernel_rfl) (fun u38 H39 ou38 nn40 le42 => ?_)
      have ap1Xu38 : Apart p1 u38 := op1.apart nn40
      have azXu38 : Apart z u38 := oz.apart nn40
      have ap8Xu38 : Apart p8 u38 := op8.apart nn40
      have aq0Xu38 : Apart q0 u38 := oq0.apart nn40
      have aqXu38 : Apart q u38 := oq.apart nn40
      have auXu38 : Apart u u38 := ou.apart nn40
      have nu38 : Nw H u38 := nn40.le lE
      replace op1 := op1.le le42
      replace oz := oz.le le42
      replace op8 := op8.le le42
      replace oq0 := oq0.le le42
      replace oq := oq.le le42
      replace ou := ou.le le42
      replace hvy := hvy.le le42
      replace lE := lE.trans le42
      refine apd_any ou ou38.sl (fun _ => rfl) (by omega) (by first | omega | (simp only [List.length_cons, List.length_nil, List.length_append, List.length_replicate, List.length_map, List.length_range]; omega)) (fun u46 H43 ou46 off44 hb45 => ?_)
      have ap1Xu46 : Apart p1 u46 := Apart.ap2 op1.known ap1Xu hb45
      have azXu46 : Apart z u46 := Apart.ap2 oz.known azXu hb45
      have ap8Xu46 : Apart p8 u46 := Apart.ap2 op8.known ap8Xu hb45
      have aq0Xu46 : Apart q0 u46 := Apart.ap2 oq0.known aq0Xu hb45
      have aqXu46 : Apart q u46 := Apart.ap2 oq.known aqXu hb45
      have au38Xu46 : Apart u38 u46 := Apart.ap2 ou38.known auXu38.symm hb45
      have nu46 : Nw H u46 := Nw.ap2 nu lE hb45
      replace op1 := op1.off off44 ap1Xu
      replace oz := oz.off off44 azXu
      replace op8 := op8.off off44 ap8Xu
      replace oq0 := oq0.off off44 aq0Xu
      replace oq := oq.off off44 aqXu
      replace ou38 := ou38.off off44 auXu38.symm
      replace hvy := hvy0.le (off44.le lE nu)
      replace lE := off44.le lE nu
      refine ob_i (oq.fa 2) ?_
      refine oq.st (by simp) ou46.one ou46.cells (fun H47 oq off48 => ?_)
      replace op1 := op1.off off48 ap1Xq
      replace oz := oz.off off48 azXq
      replace op8 := op8.off off48 ap8Xq
      replace oq0 := oq0.off off48 aq0Xq
      replace ou38 := ou38.off off48 aqXu38.symm
      replace ou46 := ou46.off off48 aqXu46.symm
      replace hvy := hvy0.le (off48.le lE nq)
      replace lE := off48.le lE nq
      replace oq : Cel H47 q [(.int .i64 (r)), (.int .i64 (c)), u46] := oq
      refine ob_i (vInt_sub (by omega) (by omega)) ?_
      exact nxt ((r * c).toNat - (i + 1)) (by omega) ⟨i + 1, rfl, by omega, u46, (lu ++ ([x29])), (at30), (sd31), g0L27, g3L27, g8L27, g9L27, (congrArg (Value.int .i64) (by first | omega | rfl | (simp; done))), op1, oz, op8, oq0, oq, ou46, nu46, ap1Xu46, azXu46, ap8Xu46, aq0Xu46, aqXu46, lE, (by rw [List.length_append, hln]; rfl), (all_snoc hLa (by omega)), ⟨by omega, by omega⟩⟩
    · skip
      refine ob_i (oq.fa 2) ?_
      refine C.pspec_l00Src_pick hvy0 hb_vy hl_vy lE nz oz (by omega) (by omega) (fun x49 at50 sd51 H52 xp54 xq55 ap56 aq57 oz off53 => ?_)
      replace xq55 := xq55 (by omega)
      replace op1 := op1.off off53 ap1Xz
      replace op8 := op8.off off53 azXp8.symm
      replace oq0 := oq0.off off53 azXq0.symm
      replace oq := oq.off off53 azXq.symm
      replace ou := ou.off off53 azXu.symm
      replace hvy := hvy0.le (off53.le lE nz)
      replace lE := off53.le lE nz
      replace oz : Cel H52 z [vy, (.int .i64 (at50)), (.int .u64 (sd51))] := oz
      refine ob_i (oq.ld 2 rfl) ?_
      refine bS_i (enc := eI) (l := [x49]) (by omega) rfl (by kernel_rfl) (fun u58 H59 ou58 nn60 le62 => ?_)
      have ap1Xu58 : Apart p1 u58 := op1.apart nn60
      have azXu58 : Apart z u58 := oz.apart nn60
      have ap8Xu58 : Apart p8 u58 := op8.apart nn60
      have aq0Xu58 : Apart q0 u58 := oq0.apart nn60
      have aqXu58 : Apart q u58 := oq.apart nn60
      have auXu58 : Apart u u58 := ou.apart nn60
      have nu58 : Nw H u58 := nn60.le lE
      replace op1 := op1.le le62
      replace oz := oz.le le62
      replace op8 := op8.le le62
      replace oq0 := oq0.le le62
      replace oq := oq.le le62
      replace ou := ou.le le62
      replace hvy := hvy.le le62
      replace lE := lE.trans le62
      refine apd_any ou ou58.sl (fun _ => rfl) (by omega) (by first | omega | (simp only [List.length_cons, List.length_nil, List.length_append, List.length_replicate, List.length_map, List.length_range]; omega)) (fun u66 H63 ou66 off64 hb65 => ?_)
      have ap1Xu66 : Apart p1 u66 := Apart.ap2 op1.known ap1Xu hb65
      have azXu66 : Apart z u66 := Apart.ap2 oz.known azXu hb65
      have ap8Xu66 : Apart p8 u66 := Apart.ap2 op8.known ap8Xu hb65
      have aq0Xu66 : Apart q0 u66 := Apart.ap2 oq0.known aq0Xu hb65
      have aqXu66 : Apart q u66 := Apart.ap2 oq.known aqXu hb65
      have au58Xu66 : Apart u58 u66 := Apart.ap2 ou58.known auXu58.symm hb65
      have nu66 : Nw H u66 := Nw.ap2 nu lE hb65
      replace op1 := op1.off off64 ap1Xu
      replace oz := oz.off off64 azXu
      replace op8 := op8.off off64 ap8Xu
      replace oq0 := oq0.off off64 aq0Xu
      replace oq := oq.off off64 aqXu
      replace ou58 := ou58.off off64 auXu58.symm
      replace hvy := hvy0.le (off64.le lE nu)
      replace lE := off64.le lE nu
      refine ob_i (oq.fa 2) ?_
      refine oq.st (by simp) ou66.one ou66.cells (fun H67 oq off68 => ?_)
      replace op1 := op1.off off68 ap1Xq
      replace oz := oz.off off68 azXq
      replace op8 := op8.off off68 ap8Xq
      replace oq0 := oq0.off off68 aq0Xq
      replace ou58 := ou58.off off68 aqXu58.symm
      replace ou66 := ou66.off off68 aqXu66.symm
      replace hvy := hvy0.le (off68.le lE nq)
      replace lE := off68.le lE nq
      replace oq : Cel H67 q [(.int .i64 (r)), (.int .i64 (c)), u66] := oq
      refine ob_i (vInt_sub (by omega) (by omega)) ?_
      exact nxt ((r * c).toNat - (i + 1)) (by omega) ⟨i + 1, rfl, by omega, u66, (lu ++ ([x49])), (at50), (sd51), g0L27, g3L27, g8L27, g9L27, (congrArg (Value.int .i64) (by first | omega | rfl | (simp; done))), op1, oz, op8, oq0, oq, ou66, nu66, ap1Xu66, azXu66, ap8Xu66, aq0Xu66, aqXu66, lE, (by rw [List.length_append, hln]; rfl), (all_snoc hLa (by omega)), ⟨by omega, by omega⟩⟩
  · skip
    have ti := hg28
    exact hJ20 _ _ ⟨u, _, g8L27, g9L27, op1, op8, oq0, oq, ou, nu, ap1Xu, ap8Xu, aq0Xu, aqXu, lE, (by omega), hLa⟩
theorem C.laws_b10Ints {va vb : Value} {l : List Int} {m : List Int}  {H : Hp} {K : Value → Hp → Prop} (hva0 : Sl eI H va l) (hvb0 : Sl eI H vb m) (k1 : l.length ≤ 9223372036854775807)
    (hk : ∀ H', Le H H' → K (.bool (decide (l = m))) H') : HT prg I.laws_b10Ints [va, vb].toArray H K := by
  have lE := Le.refl H
  have hva := hva0
  have hvb := hvb0
  refine R.laws_b10Ints ?_
  unfold F.laws_b10Ints
  refine ob_i (hva.len) ?_
  refine ob_i (hvb.len) ?_
  refine ob_i (vInt_neq _ _ _) ?_
  refine cnd_d (fun hg1 => ?_) (fun hg1 => ?_)
  · skip
    skip
    exact keq (K := K) (by rw [decide_eq_false (show ¬ (l = m) from by intro h; subst h; omega)]) (hk   _    lE)
  · skip
    refine jn_i (fun σ' H' => Le H H' ∧ (∀ j : Nat, j < l.length → at_ 0 l (j : Int) = at_ 0 m (j : Int))) (fun σ2 H2 hP => ?_) (fun J2 hJ2 => ?_)
    · skip
      obtain ⟨lE, ho0⟩ := hP
      have hva := hva0.le lE
      have hvb := hvb0.le lE
      skip
      exact keq (K := K) (by rw [decide_eq_true (show (l = m) from by exact ints_eq (by omega) ho0)]) (hk   _    lE)
    refine ob_i (hva.len) ?_
    refine ⟨fun n' σ' H' => ∃ i : Nat, n' = l.length - i ∧ i ≤ l.length ∧ σ' 0 = va ∧ σ' 1 = vb ∧ σ' 12 = (.int .i64 (((l).length : Int))) ∧ σ' 13 = (.int .i64 ((i : Int))) ∧ Le H H' ∧ (∀ j : Nat, j < i → at_ 0 l (j : Int) = at_ 0 m (j : Int)),
      ⟨_, 0, rfl, by omega, rfl, rfl, rfl, (congrArg (Value.int .i64) (by first | omega | rfl | (simp; done))), lE, (fun j hj => by omega)⟩, ?_⟩
    rintro n3 σ3 H3 ⟨i, rfl, hiN, g0L3, g1L3, g12L3, g13L3, lE, hm0⟩
    have hva := hva0.le lE
    have hvb := hvb0.le lE
    try simp only [g0L3, g1L3, g12L3, g13L3]
    refine ob_i (vInt_lss _ _ _) ?_
    refine cnd_d (fun hg4 => ?_) (fun hg4 => ?_)
    · skip
      have ti := hg4
      refine ob_i (hva.ix (by omega) (by omega)) ?_
      refine ob_i (hva.ld 0 (by omega) (by omega)) ?_
      refine ob_i (hvb.ix (by omega) (by omega)) ?_
      refine ob_i (hvb.ld 0 (by omega) (by omega)) ?_
      refine ob_i (vInt_neq _ _ _) ?_
      refine cnd_d (fun hg5 => ?_) (fun hg5 => ?_)
      · skip
        refine retK (K := K) (v' := (.bool false)) rfl ?_
        skip
        exact keq (K := K) (by rw [decide_eq_false (show ¬ (l = m) from by intro h; subst h; omega)]) (hk   _    lE)
      · skip
        refine ob_i (vInt_add (by omega) (by omega)) ?_
        exact nxt (l.length - (i + 1)) (by omega) ⟨i + 1, rfl, by omega, g0L3, g1L3, g12L3, (congrArg (Value.int .i64) (by first | omega | rfl | (simp; done))), lE, (ints_snoc hm0 (Decidable.not_not.mp hg5))⟩
    · skip
      have ti := hg4
      exact hJ2 _ _ ⟨lE, (by rw [show l.length = i by omega]; exact hm0)⟩
theorem C.laws_b10Long {vy vm : Value} {l : List Int} {m : List Int}  {H : Hp} {K : Value → Hp → Prop} (hvy0 : Sl eU H vy l) (hvm0 : Sl eU H vm m)
    (hk : ∀ H', Le H H' → K (.bool (decide (1048576 < l.length ∨ 1048576 < m.length))) H') : HT prg I.laws_b10Long [vy, vm].toArray H K := by
  have lE := Le.refl H
  have hvy := hvy0
  have hvm := hvm0
  refine R.laws_b10Long ?_
  unfold F.laws_b10Long
  refine ob_i (hvy.len) ?_
  refine ob_i (vInt_gtr _ _ _) ?_
  by_cases hc1 : 1048576 < (((l).length : Int))
  · skip
    refine gop_e (decide_eq_true hc1) ?_
    refine gop_st ?_
    refine gop_e (decide_eq_true hc1) ?_
    refine gop_st ?_
    refine gop_e (decide_eq_true hc1) ?_
    refine gop_st ?_
    refine ob_i (vPick_et (decide_eq_true hc1) _ _) ?_
    skip
    exact keq (K := K) (by rw [decide_eq_true (show (1048576 < l.length ∨ 1048576 < m.length) from by omega)]) (hk   _    lE)
  · skip
    refine gop_e (decide_eq_false hc1) ?_
    refine gop_rf ?_
    refine gop_e (decide_eq_false hc1) ?_
    refine gop_rf ?_
    refine ob_i (hvm.len) ?_
    refine gop_e (decide_eq_false hc1) ?_
    refine gop_rf ?_
    refine ob_i (vInt_gtr _ _ _) ?_
    refine ob_i (vPick_ef (decide_eq_false hc1) _ _) ?_
    skip
    exact keq (K := K) (by rw [show decide (1048576 < (((m).length : Int))) = decide (1048576 < l.length ∨ 1048576 < m.length) from decide_eq_decide.mpr (by omega)]) (hk   _    lE)
theorem C.cb_ok {vb vs vc : Value} {b s l : List Int} {r c : Int} {H : Hp} {K : Value → Hp → Prop} (hvb0 : Sl eI H vb b) (hvs0 : Sl eI H vs s) (hvc0 : Sl eI H vc l) (kb : b.length ≤ 9223372036854775807) (ks : s.length ≤ 9223372036854775807) (k1 : l.length ≤ 9223372036854775807) (hP : cbfP b s r c l)
    (hk : ∀ H', Le H H' → K (.tuple #[.int .i64 (cnN (befP b s r c l) (pw (r * c))), .bool true]) H') : HT prg I.impl_CountBefore [.agg #[vb, vs], .agg #[.int .i64 r, .int .i64 c, vc]].toArray H K :=
  C.impl_CountBefore hvb0 hvs0 hvc0 kb ks k1 (fun H' le => by rw [selI_t hP, decide_eq_true hP]; exact hk H' le)
theorem C.cs_ok {vb vs : Value} {b s : List Int} {r c : Int} {H : Hp} {K : Value → Hp → Prop} (hvb0 : Sl eI H vb b) (hvs0 : Sl eI H vs s) (kb : b.length ≤ 9223372036854775807) (ks : s.length ≤ 9223372036854775807) (hP : stlP b s r c)
    (hk : ∀ H', Le H H' → K (.tuple #[.int .i64 (cnN (stillP b s r c) (pw (r * c))), .bool true]) H') : HT prg I.impl_CountStill [.agg #[vb, vs], .int .i64 r, .int .i64 c].toArray H K :=
  C.impl_CountStill hvb0 hvs0 kb ks (fun H' le => by rw [selI_t hP, decide_eq_true hP]; exact hk H' le)
theorem C.step_ok {vb vs vc : Value} {r c : Int} {rnd : Bool} {b : List Int} {s : List Int} {l : List Int}  {H : Hp} {K : Value → Hp → Prop} (hvb0 : Sl eI H vb b) (hvs0 : Sl eI H vs s) (hvc0 : Sl eI H vc l) (kb : b.length ≤ 9223372036854775807) (ks : s.length ≤ 9223372036854775807) (k1 : l.length ≤ 9223372036854775807) (hP : canP b s r c l)
    (hk : ∀ u1 H', Own eI H' u1 (nxL rnd b s r c l) → Nw H u1 → Le H H' → K (.tuple #[(.agg #[(.int .i64 (r)), (.int .i64 (c)), u1]), (.bool true)]) H') : HT prg I.spec_StepLife [(.agg #[vb, vs]), (.agg #[(.int .i64 (r)), (.int .i64 (c)), vc]), (.bool (rnd))].toArray H K := by
  have lE := Le.refl H
  have hvb := hvb0
  have hvs := hvs0
  have hvc := hvc0
  refine R.spec_StepLife ?_
  unfold F.spec_StepLife
  refine nw_i (fun p1 H2 op1 nn3 le4 => ?_)
  have np1 : Nw H p1 := nn3.le lE
  replace hvb := hvb.le le4
  replace hvs := hvs.le le4
  replace hvc := hvc.le le4
  replace lE := lE.trans le4
  replace op1 : Cel H2 p1 [vb, vs] := op1
  refine nw_i (fun p5 H6 op5 nn7 le8 => ?_)
  have ap1Xp5 : Apart p1 p5 := op1.apart nn7
  have np5 : Nw H p5 := nn7.le lE
  replace op1 := op1.le le8
  replace hvb := hvb.le le8
  replace hvs := hvs.le le8
  replace hvc := hvc.le le8
  replace lE := lE.trans le8
  replace op5 : Cel H6 p5 [(.int .i64 (r)), (.int .i64 (c)), vc] := op5
  refine nw_i (fun p9 H10 op9 nn11 le12 => ?_)
  have ap1Xp9 : Apart p1 p9 := op1.apart nn11
  have ap5Xp9 : Apart p5 p9 := op5.apart nn11
  have np9 : Nw H p9 := nn11.le lE
  replace op1 := op1.le le12
  replace op5 := op5.le le12
  replace hvb := hvb.le le12
  replace hvs := hvs.le le12
  replace hvc := hvc.le le12
  replace lE := lE.trans le12
  replace op9 : Cel H10 p9 [(.int .i64 (0)), (.int .i64 (0)), (.slice none 0 0)] := op9
  refine C.spec_l04Can op1 op5 hvb hvs hvc (by first | omega | assumption) (by first | omega | assumption) (by first | omega | assumption) (fun   H13    le14 => ?_)
  replace op1 := op1.le le14
  replace op5 := op5.le le14
  replace op9 := op9.le le14
  replace hvb := hvb.le le14
  replace hvs := hvs.le le14
  replace hvc := hvc.le le14
  replace lE := lE.trans le14
  refine ob_nd (fun hc15 => ?_) (fun hc15 => ?_)
  · skip
    have hf := hc15.2
    have l1 := fieldN_len hf
    refine cnd_f1 ?_
    refine C.spec_l04Next op1 op5 hvb hvs hvc (by first | omega | assumption) (by first | omega | assumption) (by first | omega | assumption) (fun  u18 H16 ou18 nn19  le17 => ?_)
    have ap1Xu18 : Apart p1 u18 := op1.apart nn19
    have ap5Xu18 : Apart p5 u18 := op5.apart nn19
    have ap9Xu18 : Apart p9 u18 := op9.apart nn19
    have nu18 : Nw H u18 := nn19.le lE
    replace op1 := op1.le le17
    replace op5 := op5.le le17
    replace op9 := op9.le le17
    replace hvb := hvb.le le17
    replace hvs := hvs.le le17
    replace hvc := hvc.le le17
    replace lE := lE.trans le17
    refine op9.stn (ws := [(.int .i64 (r)), (.int .i64 (c)), u18]) rfl rfl (oc1 rfl (oc1 rfl (oc1 ou18.one oc0))) (fun H20 op9 off21 => ?_)
    replace op1 := op1.off off21 ap1Xp9
    replace op5 := op5.off off21 ap5Xp9
    replace ou18 := ou18.off off21 ap9Xu18.symm
    replace hvb := hvb0.le (off21.le lE np9)
    replace hvs := hvs0.le (off21.le lE np9)
    replace hvc := hvc0.le (off21.le lE np9)
    replace lE := off21.le lE np9
    replace op9 : Cel H20 p9 [(.int .i64 (r)), (.int .i64 (c)), u18] := op9
    refine ob_i (op9.ldn rfl) ?_
    skip
    exact hk  u18 _ ou18 nu18  lE
  · skip
    exact absurd hc15 (fun h => h hP)
set_option maxHeartbeats 4000000 in
theorem C.laws_FnBefore {vy vm : Value} {l : List Int} {mm : List Int}  {H : Hp} {K : Value → Hp → Prop} (hvy0 : Sl eU H vy l) (hvm0 : Sl eU H vm mm) (hb_vy : bytP l) (hl_vy : l.length ≤ 9223372036854775807) (hb_vm : bytP mm) (hl_vm : mm.length ≤ 9223372036854775807)
    (hk : ∀ H', Le H H' → K (.bool true) H') : HT prg I.laws_FnBefore [vy, vm].toArray H K := by
  have lE := Le.refl H
  have hvy := hvy0
  have hvm := hvm0
  refine R.laws_FnBefore ?_
  unfold F.laws_FnBefore
  refine C.laws_b10Long hvy hvm (fun   H1    le2 => ?_)
  replace hvy := hvy.le le2
  replace hvm := hvm.le le2
  replace lE := lE.trans le2
  refine cnd_d (fun hg3 => ?_) (fun hg3 => ?_)
  · skip
    skip
    exact hk   _    lE
  · skip
    refine C.spec_B10Life hvy (by first | omega | assumption) (by first | omega | assumption) (fun  lb lz hlb hlz u6 u7 H4 ou6 ou7 nn8 nn9 au6Xu7 le5 => ?_)
    have nu6 : Nw H u6 := nn8.le lE
    have nu7 : Nw H u7 := nn9.le lE
    replace hvy := hvy.le le5
    replace hvm := hvm.le le5
    replace lE := lE.trans le5
    refine nw_i (fun p10 H11 op10 nn12 le13 => ?_)
    have au6Xp10 : Apart u6 p10 := ou6.apart nn12
    have au7Xp10 : Apart u7 p10 := ou7.apart nn12
    have np10 : Nw H p10 := nn12.le lE
    replace ou6 := ou6.le le13
    replace ou7 := ou7.le le13
    replace hvy := hvy.le le13
    replace hvm := hvm.le le13
    replace lE := lE.trans le13
    replace op10 : Cel H11 p10 [(.slice none 0 0), (.slice none 0 0)] := op10
    refine op10.stn (ws := [u6, u7]) rfl rfl (oc1 ou6.one (oc1 ou7.one oc0)) (fun H14 op10 off15 => ?_)
    replace ou6 := ou6.off off15 au6Xp10
    replace ou7 := ou7.off off15 au7Xp10
    replace hvy := hvy0.le (off15.le lE np10)
    replace hvm := hvm0.le (off15.le lE np10)
    replace lE := off15.le lE np10
    replace op10 : Cel H14 p10 [u6, u7] := op10
    refine C.laws_b10At (k := 0) (n := 3) hvm hb_vm hl_vm (by omega) (by omega) (fun x16 xp17 xq18 => ?_)
    replace xq18 := xq18 (by omega)
    refine ob_i (vInt_add (by omega) (by omega)) ?_
    obtain ⟨r, hr⟩ : ∃ x, x = 1 + x16 := ⟨_, rfl⟩
    rw [← hr]
    refine C.laws_b10At (k := 1) (n := 2) hvm hb_vm hl_vm (by omega) (by omega) (fun x19 xp20 xq21 => ?_)
    replace xq21 := xq21 (by omega)
    refine ob_i (vInt_add (by omega) (by omega)) ?_
    obtain ⟨c, hc⟩ : ∃ x, x = 1 + x19 := ⟨_, rfl⟩
    rw [← hc]
    refine C.spec_B10Plain hvm (by first | omega | assumption) (by first | omega | assumption) (by exact ⟨⟨by omega, by omega⟩, by omega, by omega⟩) (fun  lf hlf u24 H22 ou24 nn25  le23 => ?_)
    have au6Xu24 : Apart u6 u24 := ou6.apart nn25
    have au7Xu24 : Apart u7 u24 := ou7.apart nn25
    have ap10Xu24 : Apart p10 u24 := op10.apart nn25
    have nu24 : Nw H u24 := nn25.le lE
    replace ou6 := ou6.le le23
    replace ou7 := ou7.le le23
    replace op10 := op10.le le23
    replace hvy := hvy.le le23
    replace hvm := hvm.le le23
    replace lE := lE.trans le23
    have hsm : smP r c := ⟨hlf.1, by have := Int.mul_le_mul (show r ≤ 3 by omega) (show c ≤ 2 by omega) (by omega) (by omega); omega⟩
    have hcb : cbfP lb lz r c lf := ⟨⟨hlz.1, hlf⟩, hsm⟩
    have qm := sidesF_mul hlf.1
    have qp := pw_le hsm.2
    have q1 := hlf.1.1
    have q2 := hlf.1.2
    have l1 := fieldN_len hlf
    have q12 := hsm.2
    have hl := hlf.2.1
    have lsel : (selL (fbP lb lz r c lf) (dgL 2 (fbF lb lz r c lf) (r * c).toNat)).length ≤ 9223372036854775807 := by unfold selL; split <;> simp [dgL_len]; omega
    refine nw_i (fun p26 H27 op26 nn28 le29 => ?_)
    have au6Xp26 : Apart u6 p26 := ou6.apart nn28
    have au7Xp26 : Apart u7 p26 := ou7.apart nn28
    have ap10Xp26 : Apart p10 p26 := op10.apart nn28
    have au24Xp26 : Apart u24 p26 := ou24.apart nn28
    have np26 : Nw H p26 := nn28.le lE
    replace ou6 := ou6.le le29
    replace ou7 := ou7.le le29
    replace op10 := op10.le le29
    replace ou24 := ou24.le le29
    replace hvy := hvy.le le29
    replace hvm := hvm.le le29
    replace lE := lE.trans le29
    replace op26 : Cel H27 p26 [(.int .i64 (0)), (.int .i64 (0)), (.slice none 0 0)] := op26
    refine op26.stn (ws := [(.int .i64 (r)), (.int .i64 (c)), u24]) rfl rfl (oc1 rfl (oc1 rfl (oc1 ou24.one oc0))) (fun H30 op26 off31 => ?_)
    replace ou6 := ou6.off off31 au6Xp26
    replace ou7 := ou7.off off31 au7Xp26
    replace op10 := op10.off off31 ap10Xp26
    replace ou24 := ou24.off off31 au24Xp26
    replace hvy := hvy0.le (off31.le lE np26)
    replace hvm := hvm0.le (off31.le lE np26)
    replace lE := off31.le lE np26
    replace op26 : Cel H30 p26 [(.int .i64 (r)), (.int .i64 (c)), u24] := op26
    refine ob_i (op10.ldn rfl) ?_
    refine ob_i (op26.ldn rfl) ?_
    refine C.cb_ok ou6.sl ou7.sl ou24.sl (by first | omega | assumption) (by first | omega | assumption) (by first | omega | assumption) (by exact hcb) (fun   H32    le33 => ?_)
    replace ou6 := ou6.le le33
    replace ou7 := ou7.le le33
    replace op10 := op10.le le33
    replace ou24 := ou24.le le33
    replace op26 := op26.le le33
    replace hvy := hvy.le le33
    replace hvm := hvm.le le33
    replace lE := lE.trans le33
    refine ob_i (vExt_20 _ _) ?_
    refine ob_i (vExt_21 _ _) ?_
    refine ob_i (op10.ldn rfl) ?_
    refine ob_i (op26.ldn rfl) ?_
    refine C.impl_FirstBefore ou6.sl ou7.sl ou24.sl (by first | omega | assumption) (by first | omega | assumption) (by first | omega | assumption) (fun  u36 H34 ou36 nn37  le35 => ?_)
    have au6Xu36 : Apart u6 u36 := ou6.apart nn37
    have au7Xu36 : Apart u7 u36 := ou7.apart nn37
    have ap10Xu36 : Apart p10 u36 := op10.apart nn37
    have au24Xu36 : Apart u24 u36 := ou24.apart nn37
    have ap26Xu36 : Apart p26 u36 := op26.apart nn37
    have nu36 : Nw H u36 := nn37.le lE
    replace ou6 := ou6.le le35
    replace ou7 := ou7.le le35
    replace op10 := op10.le le35
    replace ou24 := ou24.le le35
    replace op26 := op26.le le35
    replace hvy := hvy.le le35
    replace hvm := hvm.le le35
    replace lE := lE.trans le35
    refine ob_i (vExt_20 _ _) ?_
    refine ob_i (vExt_21 _ _) ?_
    refine nw_i (fun p38 H39 op38 nn40 le41 => ?_)
    have au6Xp38 : Apart u6 p38 := ou6.apart nn40
    have au7Xp38 : Apart u7 p38 := ou7.apart nn40
    have ap10Xp38 : Apart p10 p38 := op10.apart nn40
    have au24Xp38 : Apart u24 p38 := ou24.apart nn40
    have ap26Xp38 : Apart p26 p38 := op26.apart nn40
    have au36Xp38 : Apart u36 p38 := ou36.apart nn40
    have np38 : Nw H p38 := nn40.le lE
    replace ou6 := ou6.le le41
    replace ou7 := ou7.le le41
    replace op10 := op10.le le41
    replace ou24 := ou24.le le41
    replace op26 := op26.le le41
    replace ou36 := ou36.le le41
    replace hvy := hvy.le le41
    replace hvm := hvm.le le41
    replace lE := lE.trans le41
    replace op38 : Cel H39 p38 [(.int .i64 (0)), (.int .i64 (0)), (.slice none 0 0)] := op38
    refine op38.stn (ws := [(.int .i64 (selI (fbP lb lz r c lf) r)), (.int .i64 (selI (fbP lb lz r c lf) c)), u36]) rfl rfl (oc1 rfl (oc1 rfl (oc1 ou36.one oc0))) (fun H42 op38 off43 => ?_)
    replace ou6 := ou6.off off43 au6Xp38
    replace ou7 := ou7.off off43 au7Xp38
    replace op10 := op10.off off43 ap10Xp38
    replace ou24 := ou24.off off43 au24Xp38
    replace op26 := op26.off off43 ap26Xp38
    replace ou36 := ou36.off off43 au36Xp38
    replace hvy := hvy0.le (off43.le lE np38)
    replace hvm := hvm0.le (off43.le lE np38)
    replace lE := off43.le lE np38
    replace op38 : Cel H42 p38 [(.int .i64 (selI (fbP lb lz r c lf) r)), (.int .i64 (selI (fbP lb lz r c lf) c)), u36] := op38
    refine ob_i (op10.ldn rfl) ?_
    refine C.cs_ok ou6.sl ou7.sl (by first | omega | assumption) (by first | omega | assumption) (by exact ⟨hcb.1.1, hcb.2⟩) (fun   H44    le45 => ?_)
    replace ou6 := ou6.le le45
    replace ou7 := ou7.le le45
    replace op10 := op10.le le45
    replace ou24 := ou24.le le45
    replace op26 := op26.le le45
    replace ou36 := ou36.le le45
    replace op38 := op38.le le45
    replace hvy := hvy.le le45
    replace hvm := hvm.le le45
    replace lE := lE.trans le45
    refine ob_i (vExt_20 _ _) ?_
    refine ob_i (vExt_21 _ _) ?_
    refine ob_i (a := .bool false) rfl ?_
    refine gop_rf ?_
    refine gop_rf ?_
    refine gop_rf ?_
    refine ob_i (vInt_gtr _ _ _) ?_
    refine gop_rf ?_
    refine ob_i (vBool_neq _ _) ?_
    refine ob_i (vPick_f _ _) ?_
    by_cases hc46 : (!((decide (fbP lb lz r c lf)) == (decide (0 < (cnN (befP lb lz r c lf) (pw (r * c))))))) = true
    · skip
      refine gop_e (hc46) ?_
      refine gop_st ?_
      refine gop_e (hc46) ?_
      refine gop_st ?_
      refine ob_i (vPick_et (hc46) _ _) ?_
      refine cnd_t1 ?_
      exfalso
      exact absurd hc46 (by rw [show decide (fbP lb lz r c lf) = decide (0 < cnN (befP lb lz r c lf) (pw (r * c))) from decide_eq_decide.mpr (fb_iff hcb)]; simp)
    · skip
      refine gop_e (eq_false_of_ne_true hc46) ?_
      refine gop_rf ?_
      refine gop_e (eq_false_of_ne_true hc46) ?_
      refine gop_rf ?_
      refine ob_i (a := .bool false) rfl ?_
      refine ob_i (vPick_ef (eq_false_of_ne_true hc46) _ _) ?_
      refine cnd_f1 ?_
      refine jn_i (fun σ' H' => σ' 9 = (.int .i64 (cnN (befP lb lz r c lf) (pw (r * c)))) ∧ σ' 13 = (.int .i64 (cnN (stillP lb lz r c) (pw (r * c)))) ∧ σ' 15 = (.int .i64 (cnN (befP lb lz r c lf) (pw (r * c)))) ∧ σ' 16 = (.int .i64 (cnN (stillP lb lz r c) (pw (r * c)))) ∧ Own eI H' u6 (lb) ∧ Own eI H' u7 (lz) ∧ Cel H' p10 [u6, u7] ∧ Own eI H' u24 (lf) ∧ Cel H' p26 [(.int .i64 (r)), (.int .i64 (c)), u24] ∧ Own eI H' u36 (selL (fbP lb lz r c lf) (dgL 2 (fbF lb lz r c lf) (r * c).toNat)) ∧ Cel H' p38 [(.int .i64 (selI (fbP lb lz r c lf) r)), (.int .i64 (selI (fbP lb lz r c lf) c)), u36] ∧ Le H H' ∧ 0 ≤ cnN (befP lb lz r c lf) (pw (r * c)) ∧ cnN (befP lb lz r c lf) (pw (r * c)) ≤ 4096 ∧ 0 ≤ cnN (stillP lb lz r c) (pw (r * c)) ∧ cnN (stillP lb lz r c) (pw (r * c)) ≤ 4096) (fun σ47 H47 hP => ?_) (fun J47 hJ47 => ?_)
      · skip
        obtain ⟨g9L47, g13L47, g15L47, g16L47, ou6, ou7, op10, ou24, op26, ou36, op38, lE, ho0⟩ := hP
        have hvy := hvy0.le lE
        have hvm := hvm0.le lE
        try simp only [g9L47, g13L47, g15L47, g16L47]
        refine ob_i (vInt_eql _ _ _) ?_
        by_cases hc48 : (cnN (befP lb lz r c lf) (pw (r * c))) = (cnN (befP lb lz r c lf) (pw (r * c)))
        · skip
          refine gop_e (decide_eq_true hc48) ?_
          refine gop_rt ?_
          refine gop_e (decide_eq_true hc48) ?_
          refine gop_rt ?_
          refine gop_e (decide_eq_true hc48) ?_
          refine gop_rt ?_
          refine ob_i (vInt_eql _ _ _) ?_
          refine ob_i (vPick_et (decide_eq_true hc48) _ _) ?_
          rw [decide_eq_true (show (cnN (stillP lb lz r c) (pw (r * c))) = (cnN (stillP lb lz r c) (pw (r * c))) from by first | omega | rfl | assumption)]
          exact hk _ lE
        · skip
          refine gop_e (decide_eq_false hc48) ?_
          refine gop_sf ?_
          refine gop_e (decide_eq_false hc48) ?_
          refine gop_sf ?_
          refine gop_e (decide_eq_false hc48) ?_
          refine gop_sf ?_
          refine ob_i (vPick_ef (decide_eq_false hc48) _ _) ?_
          exfalso
          first | contradiction | omega
      refine ⟨fun n' σ' H' => ∃ t : Nat, n' = pw (r * c) - t ∧ t ≤ pw (r * c) ∧ σ' 5 = p10 ∧ σ' 6 = (.int .i64 (r)) ∧ σ' 7 = (.int .i64 (c)) ∧ σ' 8 = p26 ∧ σ' 9 = (.int .i64 (cnN (befP lb lz r c lf) (pw (r * c)))) ∧ σ' 11 = p38 ∧ σ' 13 = (.int .i64 (cnN (stillP lb lz r c) (pw (r * c)))) ∧ σ' 15 = (.int .i64 (cnN (befP lb lz r c lf) t)) ∧ σ' 16 = (.int .i64 (cnN (stillP lb lz r c) t)) ∧ σ' 17 = (.bool (decide (0 < cnN (befP lb lz r c lf) t))) ∧ σ' 18 = (.int .i64 ((t : Int))) ∧ Own eI H' u6 (lb) ∧ Own eI H' u7 (lz) ∧ Cel H' p10 [u6, u7] ∧ Own eI H' u24 (lf) ∧ Cel H' p26 [(.int .i64 (r)), (.int .i64 (c)), u24] ∧ Own eI H' u36 (selL (fbP lb lz r c lf) (dgL 2 (fbF lb lz r c lf) (r * c).toNat)) ∧ Cel H' p38 [(.int .i64 (selI (fbP lb lz r c lf) r)), (.int .i64 (selI (fbP lb lz r c lf) c)), u36] ∧ Le H H',
        ⟨_, 0, rfl, by omega, rfl, rfl, rfl, rfl, rfl, rfl, rfl, rfl, rfl, (congrArg Value.bool (decide_eq_false (by rw [cnN_zero]; omega)).symm), (congrArg (Value.int .i64) (by first | omega | rfl | (simp; done))), ou6, ou7, op10, ou24, op26, ou36, op38, lE⟩, ?_⟩
      rintro n49 σ49 H49 ⟨t, rfl, htN, g5L49, g6L49, g7L49, g8L49, g9L49, g11L49, g13L49, g15L49, g16L49, g17L49, g18L49, ou6, ou7, op10, ou24, op26, ou36, op38, lE⟩
      have hvy := hvy0.le lE
      have hvm := hvm0.le lE
      try simp only [g5L49, g6L49, g7L49, g8L49, g11L49, g15L49, g16L49, g17L49, g18L49]
      have cb1 := cnN_bnd (befP lb lz r c lf) t
      have cb2 := cnN_bnd (stillP lb lz r c) t
      have hdg : fieldN 1 r c (dgL 2 (t : Int) (r * c).toNat) := dgL_field hsm.1
      have ldg := fieldN_len hdg
      have hnx : fieldN 1 r c (nxL false lb lz r c (dgL 2 (t : Int) (r * c).toNat)) := nxL_field hsm.1
      have lnx := fieldN_len hnx
      refine ob_i (vInt_mul (by omega) (by omega)) ?_
      refine ob_i (a := .int .i64 ((pw (r * c) : Nat) : Int)) (vInt_shl1 (by omega) (by omega)) ?_
      refine ob_i (vInt_lss _ _ _) ?_
      refine cnd_d (fun hg50 => ?_) (fun hg50 => ?_)
      · skip
        have tt := hg50
        refine jn_i (fun σ' H' => σ' 5 = p10 ∧ σ' 6 = (.int .i64 (r)) ∧ σ' 7 = (.int .i64 (c)) ∧ σ' 8 = p26 ∧ σ' 9 = (.int .i64 (cnN (befP lb lz r c lf) (pw (r * c)))) ∧ σ' 11 = p38 ∧ σ' 13 = (.int .i64 (cnN (stillP lb lz r c) (pw (r * c)))) ∧ σ' 15 = (.int .i64 (cnN (befP lb lz r c lf) (t + 1))) ∧ σ' 16 = (.int .i64 (cnN (stillP lb lz r c) (t + 1))) ∧ σ' 17 = (.bool (decide (0 < cnN (befP lb lz r c lf) (t + 1)))) ∧ σ' 18 = (.int .i64 ((t : Int))) ∧ Own eI H' u6 (lb) ∧ Own eI H' u7 (lz) ∧ Cel H' p10 [u6, u7] ∧ Own eI H' u24 (lf) ∧ Cel H' p26 [(.int .i64 (r)), (.int .i64 (c)), u24] ∧ Own eI H' u36 (selL (fbP lb lz r c lf) (dgL 2 (fbF lb lz r c lf) (r * c).toNat)) ∧ Cel H' p38 [(.int .i64 (selI (fbP lb lz r c lf) r)), (.int .i64 (selI (fbP lb lz r c lf) c)), u36] ∧ Le H H') (fun σ51 H51 hP => ?_) (fun J51 hJ51 => ?_)
        · skip
          obtain ⟨g5L51, g6L51, g7L51, g8L51, g9L51, g11L51, g13L51, g15L51, g16L51, g17L51, g18L51, ou6, ou7, op10, ou24, op26, ou36, op38, lE⟩ := hP
          have hvy := hvy0.le lE
          have hvm := hvm0.le lE
          try simp only [g18L51]
          refine ob_i (vInt_add (by omega) (by omega)) ?_
          exact nxt (pw (r * c) - (t + 1)) (by omega) ⟨t + 1, rfl, by omega, g5L51, g6L51, g7L51, g8L51, g9L51, g11L51, g13L51, (g15L51.trans (congrArg (Value.int .i64) (by first | omega | rfl | (simp; done)))), (g16L51.trans (congrArg (Value.int .i64) (by first | omega | rfl | (simp; done)))), g17L51, (congrArg (Value.int .i64) (by first | omega | rfl | (simp; done))), ou6, ou7, op10, ou24, op26, ou36, op38, lE⟩
        refine ob_i (a := (.agg #[(.int .i64 (r)), (.int .i64 (c)), (.slice none 0 0)])) (by rfl) ?_
        refine nw_i (fun q H52 oq nn53 le54 => ?_)
        have au6Xq : Apart u6 q := ou6.apart nn53
        have au7Xq : Apart u7 q := ou7.apart nn53
        have ap10Xq : Apart p10 q := op10.apart nn53
        have au24Xq : Apart u24 q := ou24.apart nn53
        have ap26Xq : Apart p26 q := op26.apart nn53
        have au36Xq : Apart u36 q := ou36.apart nn53
        have ap38Xq : Apart p38 q := op38.apart nn53
        have nq : Nw H q := nn53.le lE
        replace ou6 := ou6.le le54
        replace ou7 := ou7.le le54
        replace op10 := op10.le le54
        replace ou24 := ou24.le le54
        replace op26 := op26.le le54
        replace ou36 := ou36.le le54
        replace op38 := op38.le le54
        replace hvy := hvy.le le54
        replace hvm := hvm.le le54
        replace lE := lE.trans le54
        replace oq : Cel H52 q [(.int .i64 (0)), (.int .i64 (0)), (.slice none 0 0)] := oq
        refine oq.stn (ws := [(.int .i64 (r)), (.int .i64 (c)), (.slice none 0 0)]) rfl rfl (oc1 rfl (oc1 rfl (oc1 rfl oc0))) (fun H55 oq off56 => ?_)
        replace ou6 := ou6.off off56 au6Xq
        replace ou7 := ou7.off off56 au7Xq
        replace op10 := op10.off off56 ap10Xq
        replace ou24 := ou24.off off56 au24Xq
        replace op26 := op26.off off56 ap26Xq
        replace ou36 := ou36.off off56 au36Xq
        replace op38 := op38.off off56 ap38Xq
        replace hvy := hvy0.le (off56.le lE nq)
        replace hvm := hvm0.le (off56.le lE nq)
        replace lE := off56.le lE nq
        replace oq : Cel H55 q [(.int .i64 (r)), (.int .i64 (c)), (.slice none 0 0)] := oq
        refine jn_i (fun σ' H' => ∃ v, σ' 5 = p10 ∧ σ' 6 = (.int .i64 (r)) ∧ σ' 7 = (.int .i64 (c)) ∧ σ' 8 = p26 ∧ σ' 9 = (.int .i64 (cnN (befP lb lz r c lf) (pw (r * c)))) ∧ σ' 11 = p38 ∧ σ' 13 = (.int .i64 (cnN (stillP lb lz r c) (pw (r * c)))) ∧ σ' 15 = (.int .i64 (cnN (befP lb lz r c lf) t)) ∧ σ' 16 = (.int .i64 (cnN (stillP lb lz r c) t)) ∧ σ' 17 = (.bool (decide (0 < cnN (befP lb lz r c lf) t))) ∧ σ' 18 = (.int .i64 ((t : Int))) ∧ σ' 19 = q ∧ Own eI H' u6 (lb) ∧ Own eI H' u7 (lz) ∧ Cel H' p10 [u6, u7] ∧ Own eI H' u24 (lf) ∧ Cel H' p26 [(.int .i64 (r)), (.int .i64 (c)), u24] ∧ Own eI H' u36 (selL (fbP lb lz r c lf) (dgL 2 (fbF lb lz r c lf) (r * c).toNat)) ∧ Cel H' p38 [(.int .i64 (selI (fbP lb lz r c lf) r)), (.int .i64 (selI (fbP lb lz r c lf) c)), u36] ∧ Cel H' q [(.int .i64 (r)), (.int .i64 (c)), v] ∧ Own eI H' v (dgL 2 (t : Int) (r * c).toNat) ∧ Nw H v ∧ Apart u6 v ∧ Apart u7 v ∧ Apart p10 v ∧ Apart u24 v ∧ Apart p26 v ∧ Apart u36 v ∧ Apart p38 v ∧ Apart q v ∧ Le H H') (fun σ57 H57 hP => ?_) (fun J57 hJ57 => ?_)
        · skip
          obtain ⟨v, g5L57, g6L57, g7L57, g8L57, g9L57, g11L57, g13L57, g15L57, g16L57, g17L57, g18L57, g19L57, ou6, ou7, op10, ou24, op26, ou36, op38, oq, ov, nv, au6Xv, au7Xv, ap10Xv, au24Xv, ap26Xv, au36Xv, ap38Xv, aqXv, lE⟩ := hP
          have hvy := hvy0.le lE
          have hvm := hvm0.le lE
          try simp only [g5L57, g8L57, g11L57, g15L57, g16L57, g17L57, g19L57]
          refine ob_i (op10.ldn rfl) ?_
          refine ob_i (oq.ldn rfl) ?_
          refine C.step_ok ou6.sl ou7.sl ov.sl (by first | omega | assumption) (by first | omega | assumption) (by first | omega | assumption) (by exact ⟨hcb.1.1, hdg⟩) (fun  u60 H58 ou60 nn61  le59 => ?_)
          have au6Xu60 : Apart u6 u60 := ou6.apart nn61
          have au7Xu60 : Apart u7 u60 := ou7.apart nn61
          have ap10Xu60 : Apart p10 u60 := op10.apart nn61
          have au24Xu60 : Apart u24 u60 := ou24.apart nn61
          have ap26Xu60 : Apart p26 u60 := op26.apart nn61
          have au36Xu60 : Apart u36 u60 := ou36.apart nn61
          have ap38Xu60 : Apart p38 u60 := op38.apart nn61
          have aqXu60 : Apart q u60 := oq.apart nn61
          have avXu60 : Apart v u60 := ov.apart nn61
          have nu60 : Nw H u60 := nn61.le lE
          replace ou6 := ou6.le le59
          replace ou7 := ou7.le le59
          replace op10 := op10.le le59
          replace ou24 := ou24.le le59
          replace op26 := op26.le le59
          replace ou36 := ou36.le le59
          replace op38 := op38.le le59
          replace oq := oq.le le59
          replace ov := ov.le le59
          replace hvy := hvy.le le59
          replace hvm := hvm.le le59
          replace lE := lE.trans le59
          refine ob_i (vExt_20 _ _) ?_
          refine ob_i (vExt_21 _ _) ?_
          refine nw_i (fun p62 H63 op62 nn64 le65 => ?_)
          have au6Xp62 : Apart u6 p62 := ou6.apart nn64
          have au7Xp62 : Apart u7 p62 := ou7.apart nn64
          have ap10Xp62 : Apart p10 p62 := op10.apart nn64
          have au24Xp62 : Apart u24 p62 := ou24.apart nn64
          have ap26Xp62 : Apart p26 p62 := op26.apart nn64
          have au36Xp62 : Apart u36 p62 := ou36.apart nn64
          have ap38Xp62 : Apart p38 p62 := op38.apart nn64
          have aqXp62 : Apart q p62 := oq.apart nn64
          have avXp62 : Apart v p62 := ov.apart nn64
          have au60Xp62 : Apart u60 p62 := ou60.apart nn64
          have np62 : Nw H p62 := nn64.le lE
          replace ou6 := ou6.le le65
          replace ou7 := ou7.le le65
          replace op10 := op10.le le65
          replace ou24 := ou24.le le65
          replace op26 := op26.le le65
          replace ou36 := ou36.le le65
          replace op38 := op38.le le65
          replace oq := oq.le le65
          replace ov := ov.le le65
          replace ou60 := ou60.le le65
          replace hvy := hvy.le le65
          replace hvm := hvm.le le65
          replace lE := lE.trans le65
          replace op62 : Cel H63 p62 [(.int .i64 (0)), (.int .i64 (0)), (.slice none 0 0)] := op62
          refine op62.stn (ws := [(.int .i64 (r)), (.int .i64 (c)), u60]) rfl rfl (oc1 rfl (oc1 rfl (oc1 ou60.one oc0))) (fun H66 op62 off67 => ?_)
          replace ou6 := ou6.off off67 au6Xp62
          replace ou7 := ou7.off off67 au7Xp62
          replace op10 := op10.off off67 ap10Xp62
          replace ou24 := ou24.off off67 au24Xp62
          replace op26 := op26.off off67 ap26Xp62
          replace ou36 := ou36.off off67 au36Xp62
          replace op38 := op38.off off67 ap38Xp62
          replace oq := oq.off off67 aqXp62
          replace ov := ov.off off67 avXp62
          replace ou60 := ou60.off off67 au60Xp62
          replace hvy := hvy0.le (off67.le lE np62)
          replace hvm := hvm0.le (off67.le lE np62)
          replace lE := off67.le lE np62
          replace op62 : Cel H66 p62 [(.int .i64 (r)), (.int .i64 (c)), u60] := op62
          refine ob_i (a := .bool false) rfl ?_
          refine cnd_f1 ?_
          refine jn_i (fun σ' H' => σ' 5 = p10 ∧ σ' 6 = (.int .i64 (r)) ∧ σ' 7 = (.int .i64 (c)) ∧ σ' 8 = p26 ∧ σ' 9 = (.int .i64 (cnN (befP lb lz r c lf) (pw (r * c)))) ∧ σ' 11 = p38 ∧ σ' 13 = (.int .i64 (cnN (stillP lb lz r c) (pw (r * c)))) ∧ σ' 15 = (.int .i64 (cnN (befP lb lz r c lf) t)) ∧ σ' 16 = (.int .i64 (cnN (stillP lb lz r c) (t + 1))) ∧ σ' 17 = (.bool (decide (0 < cnN (befP lb lz r c lf) t))) ∧ σ' 18 = (.int .i64 ((t : Int))) ∧ σ' 19 = q ∧ σ' 21 = p62 ∧ Own eI H' u6 (lb) ∧ Own eI H' u7 (lz) ∧ Cel H' p10 [u6, u7] ∧ Own eI H' u24 (lf) ∧ Cel H' p26 [(.int .i64 (r)), (.int .i64 (c)), u24] ∧ Own eI H' u36 (selL (fbP lb lz r c lf) (dgL 2 (fbF lb lz r c lf) (r * c).toNat)) ∧ Cel H' p38 [(.int .i64 (selI (fbP lb lz r c lf) r)), (.int .i64 (selI (fbP lb lz r c lf) c)), u36] ∧ Cel H' q [(.int .i64 (r)), (.int .i64 (c)), v] ∧ Own eI H' v (dgL 2 (t : Int) (r * c).toNat) ∧ Own eI H' u60 (nxL false lb lz r c (dgL 2 (t : Int) (r * c).toNat)) ∧ Cel H' p62 [(.int .i64 (r)), (.int .i64 (c)), u60] ∧ Le H H') (fun σ68 H68 hP => ?_) (fun J68 hJ68 => ?_)
          · skip
            obtain ⟨g5L68, g6L68, g7L68, g8L68, g9L68, g11L68, g13L68, g15L68, g16L68, g17L68, g18L68, g19L68, g21L68, ou6, ou7, op10, ou24, op26, ou36, op38, oq, ov, ou60, op62, lE⟩ := hP
            have hvy := hvy0.le lE
            have hvm := hvm0.le lE
            try simp only [g8L68, g11L68, g15L68, g17L68, g19L68, g21L68]
            refine ob_i (op62.fa 2) ?_
            refine ob_i (op62.ld 2 rfl) ?_
            refine ob_i (op26.fa 2) ?_
            refine ob_i (op26.ld 2 rfl) ?_
            refine C.laws_b10Ints ou60.sl ou24.sl (by first | omega | assumption) (fun   H69    le70 => ?_)
            replace ou6 := ou6.le le70
            replace ou7 := ou7.le le70
            replace op10 := op10.le le70
            replace ou24 := ou24.le le70
            replace op26 := op26.le le70
            replace ou36 := ou36.le le70
            replace op38 := op38.le le70
            replace oq := oq.le le70
            replace ov := ov.le le70
            replace ou60 := ou60.le le70
            replace op62 := op62.le le70
            replace hvy := hvy.le le70
            replace hvm := hvm.le le70
            replace lE := lE.trans le70
            refine cnd_d (fun hg71 => ?_) (fun hg71 => ?_)
            · skip
              refine ob_i (vInt_add (by omega) (by omega)) ?_
              refine ob_nd (fun hc72 => ?_) (fun hc72 => ?_)
              · skip
                refine gop_sf ?_
                refine gop_sf ?_
                refine gop_sf ?_
                refine gop_sf ?_
                refine gop_sf ?_
                refine gop_sf ?_
                refine ob_i (vPick_f _ _) ?_
                refine cnd_f1 ?_
                have eB := cnN_yes (p := befP lb lz r c lf) (n := t) hg71
                exact hJ51 _ _ ⟨g5L68, g6L68, g7L68, g8L68, g9L68, g11L68, g13L68, (congrArg (Value.int .i64) (by first | omega | rfl | (simp; done))), g16L68, (congrArg Value.bool (decide_eq_true (by omega)).symm), g18L68, ou6, ou7, op10, ou24, op26, ou36, op38, lE⟩
              · skip
                refine gop_rt ?_
                refine ob_i (op38.fa 2) ?_
                refine gop_rt ?_
                refine ob_i (op38.ld 2 rfl) ?_
                refine gop_rt ?_
                refine ob_i (oq.fa 2) ?_
                refine gop_rt ?_
                refine ob_i (oq.ld 2 rfl) ?_
                refine gop_rt ?_
                refine C.laws_b10Ints ou36.sl ov.sl (by first | omega | assumption) (fun   H73    le74 => ?_)
                replace ou6 := ou6.le le74
                replace ou7 := ou7.le le74
                replace op10 := op10.le le74
                replace ou24 := ou24.le le74
                replace op26 := op26.le le74
                replace ou36 := ou36.le le74
                replace op38 := op38.le le74
                replace oq := oq.le le74
                replace ov := ov.le le74
                replace ou60 := ou60.le le74
                replace op62 := op62.le le74
                replace hvy := hvy.le le74
                replace hvm := hvm.le le74
                replace lE := lE.trans le74
                refine gop_rt ?_
                refine ob_nd (fun hc75 => ?_) (fun hc75 => ?_)
                · skip
                  refine ob_i (vPick_t _ _) ?_
                  refine cnd_f1 ?_
                  have eB := cnN_yes (p := befP lb lz r c lf) (n := t) hg71
                  exact hJ51 _ _ ⟨g5L68, g6L68, g7L68, g8L68, g9L68, g11L68, g13L68, (congrArg (Value.int .i64) (by first | omega | rfl | (simp; done))), g16L68, (congrArg Value.bool (decide_eq_true (by omega)).symm), g18L68, ou6, ou7, op10, ou24, op26, ou36, op38, lE⟩
                · skip
                  refine ob_i (vPick_t _ _) ?_
                  refine cnd_t1 ?_
                  refine retK (K := K) (v' := (.bool false)) rfl ?_
                  exfalso
                  exact absurd (first_eq hcb (by assumption) (by first | assumption | omega) (by omega)) (by first | exact hc75 | assumption)
            · skip
              have eB := cnN_no (p := befP lb lz r c lf) (n := t) hg71
              exact hJ51 _ _ ⟨g5L68, g6L68, g7L68, g8L68, g9L68, g11L68, g13L68, (g15L68.trans (congrArg (Value.int .i64) (by first | omega | rfl | (simp; done)))), g16L68, (g17L68.trans (congrArg Value.bool (decide_eq_decide.mpr (by omega)))), g18L68, ou6, ou7, op10, ou24, op26, ou36, op38, lE⟩
          refine ob_i (op62.fa 2) ?_
          refine ob_i (op62.ld 2 rfl) ?_
          refine ob_i (oq.fa 2) ?_
          refine ob_i (oq.ld 2 rfl) ?_
          refine C.laws_b10Ints ou60.sl ov.sl (by first | omega | assumption) (fun   H76    le77 => ?_)
          replace ou6 := ou6.le le77
          replace ou7 := ou7.le le77
          replace op10 := op10.le le77
          replace ou24 := ou24.le le77
          replace op26 := op26.le le77
          replace ou36 := ou36.le le77
          replace op38 := op38.le le77
          replace oq := oq.le le77
          replace ov := ov.le le77
          replace ou60 := ou60.le le77
          replace op62 := op62.le le77
          replace hvy := hvy.le le77
          replace hvm := hvm.le le77
          replace lE := lE.trans le77
          refine cnd_d (fun hg78 => ?_) (fun hg78 => ?_)
          · skip
            refine ob_i (vInt_add (by omega) (by omega)) ?_
            have eS := cnN_yes (p := stillP lb lz r c) (n := t) hg78
            exact hJ68 _ _ ⟨g5L57, g6L57, g7L57, g8L57, g9L57, g11L57, g13L57, g15L57, (congrArg (Value.int .i64) (by first | omega | rfl | (simp; done))), g17L57, g18L57, g19L57, rfl, ou6, ou7, op10, ou24, op26, ou36, op38, oq, ov, ou60, op62, lE⟩
          · skip
            have eS := cnN_no (p := stillP lb lz r c) (n := t) hg78
            exact hJ68 _ _ ⟨g5L57, g6L57, g7L57, g8L57, g9L57, g11L57, g13L57, g15L57, (g16L57.trans (congrArg (Value.int .i64) (by first | omega | rfl | (simp; done)))), g17L57, g18L57, g19L57, rfl, ou6, ou7, op10, ou24, op26, ou36, op38, oq, ov, ou60, op62, lE⟩
        refine ob_i (vInt_mul (by omega) (by omega)) ?_
        refine ob_i (vInt_sub (by omega) (by omega)) ?_
        refine ⟨fun n' σ' H' => ∃ m : Nat, n' = (r * c).toNat - m ∧ m ≤ (r * c).toNat ∧ ∃ v, σ' 5 = p10 ∧ σ' 6 = (.int .i64 (r)) ∧ σ' 7 = (.int .i64 (c)) ∧ σ' 8 = p26 ∧ σ' 9 = (.int .i64 (cnN (befP lb lz r c lf) (pw (r * c)))) ∧ σ' 11 = p38 ∧ σ' 13 = (.int .i64 (cnN (stillP lb lz r c) (pw (r * c)))) ∧ σ' 15 = (.int .i64 (cnN (befP lb lz r c lf) t)) ∧ σ' 16 = (.int .i64 (cnN (stillP lb lz r c) t)) ∧ σ' 17 = (.bool (decide (0 < cnN (befP lb lz r c lf) t))) ∧ σ' 18 = (.int .i64 ((t : Int))) ∧ σ' 19 = q ∧ σ' 20 = (.int .i64 (r * c - 1 - (m : Int))) ∧ Own eI H' u6 (lb) ∧ Own eI H' u7 (lz) ∧ Cel H' p10 [u6, u7] ∧ Own eI H' u24 (lf) ∧ Cel H' p26 [(.int .i64 (r)), (.int .i64 (c)), u24] ∧ Own eI H' u36 (selL (fbP lb lz r c lf) (dgL 2 (fbF lb lz r c lf) (r * c).toNat)) ∧ Cel H' p38 [(.int .i64 (selI (fbP lb lz r c lf) r)), (.int .i64 (selI (fbP lb lz r c lf) c)), u36] ∧ Cel H' q [(.int .i64 (r)), (.int .i64 (c)), v] ∧ Own eI H' v ((dgL 2 (t : Int) (r * c).toNat).take m) ∧ Nw H v ∧ Apart u6 v ∧ Apart u7 v ∧ Apart p10 v ∧ Apart u24 v ∧ Apart p26 v ∧ Apart u36 v ∧ Apart p38 v ∧ Apart q v ∧ Le H H',
          ⟨_, 0, rfl, by omega, _, g5L49, g6L49, g7L49, g8L49, g9L49, g11L49, g13L49, g15L49, g16L49, g17L49, g18L49, rfl, (congrArg (Value.int .i64) (by first | omega | rfl | (simp; done))), ou6, ou7, op10, ou24, op26, ou36, op38, oq, (Own.cast (by first | rfl | (simp; done)) (Own.nil_of none)), (fun b hb => by simp [bk] at hb), (fun b _ hb => by simp [bk] at hb), (fun b _ hb => by simp [bk] at hb), (fun b _ hb => by simp [bk] at hb), (fun b _ hb => by simp [bk] at hb), (fun b _ hb => by simp [bk] at hb), (fun b _ hb => by simp [bk] at hb), (fun b _ hb => by simp [bk] at hb), (fun b _ hb => by simp [bk] at hb), lE⟩, ?_⟩
        rintro n79 σ79 H79 ⟨m, rfl, hmN, v, g5L79, g6L79, g7L79, g8L79, g9L79, g11L79, g13L79, g15L79, g16L79, g17L79, g18L79, g19L79, g20L79, ou6, ou7, op10, ou24, op26, ou36, op38, oq, ov, nv, au6Xv, au7Xv, ap10Xv, au24Xv, ap26Xv, au36Xv, ap38Xv, aqXv, lE⟩
        have hvy := hvy0.le lE
        have hvm := hvm0.le lE
        try simp only [g18L79, g19L79, g20L79]
        have vl : ((dgL 2 (t : Int) (r * c).toNat).take m).length ≤ 12 := by rw [List.length_take, dgL_len]; omega
        have dv0 : 0 ≤ (t : Int) / 2 ^ (r * c - 1 - (m : Int)).toNat ∧ (t : Int) / 2 ^ (r * c - 1 - (m : Int)).toNat ≤ (t : Int) := ⟨Int.ediv_nonneg (by omega) (Int.pow_nonneg (by omega)), Int.ediv_le_self _ (by omega)⟩
        refine ob_i (vInt_geq _ _ _) ?_
        refine cnd_d (fun hg80 => ?_) (fun hg80 => ?_)
        · skip
          have tm := hg80
          refine ob_i (oq.fa 2) ?_
          refine ob_i (oq.ld 2 rfl) ?_
          refine ob_i (vCI_u64 (by omega) (by omega)) ?_
          refine ob_i (vInt_shrN (by omega) (by omega)) ?_
          refine ob_i (vInt_and1 (by omega) (by omega)) ?_
          refine bS_i (enc := eI) (l := [((t : Int) / 2 ^ (r * c - 1 - (m : Int) : Int).toNat) % 2]) (by omega) rfl (by kernel_rfl) (fun u81 H82 ou81 nn83 le85 => ?_)
          have au6Xu81 : Apart u6 u81 := ou6.apart nn83
          have au7Xu81 : Apart u7 u81 := ou7.apart nn83
          have ap10Xu81 : Apart p10 u81 := op10.apart nn83
          have au24Xu81 : Apart u24 u81 := ou24.apart nn83
          have ap26Xu81 : Apart p26 u81 := op26.apart nn83
          have au36Xu81 : Apart u36 u81 := ou36.apart nn83
          have ap38Xu81 : Apart p38 u81 := op38.apart nn83
          have aqXu81 : Apart q u81 := oq.apart nn83
          have avXu81 : Apart v u81 := ov.apart nn83
          have nu81 : Nw H u81 := nn83.le lE
          replace ou6 := ou6.le le85
          replace ou7 := ou7.le le85
          replace op10 := op10.le le85
          replace ou24 := ou24.le le85
          replace op26 := op26.le le85
          replace ou36 := ou36.le le85
          replace op38 := op38.le le85
          replace oq := oq.le le85
          replace ov := ov.le le85
          replace hvy := hvy.le le85
          replace hvm := hvm.le le85
          replace lE := lE.trans le85
          refine apd_any ov ou81.sl (fun _ => rfl) (by omega) (by first | omega | (simp only [List.length_cons, List.length_nil, List.length_append, List.length_replicate, List.length_map, List.length_range]; omega)) (fun u89 H86 ou89 off87 hb88 => ?_)
          have au6Xu89 : Apart u6 u89 := Apart.ap2 ou6.known au6Xv hb88
          have au7Xu89 : Apart u7 u89 := Apart.ap2 ou7.known au7Xv hb88
          have ap10Xu89 : Apart p10 u89 := Apart.ap2 op10.known ap10Xv hb88
          have au24Xu89 : Apart u24 u89 := Apart.ap2 ou24.known au24Xv hb88
          have ap26Xu89 : Apart p26 u89 := Apart.ap2 op26.known ap26Xv hb88
          have au36Xu89 : Apart u36 u89 := Apart.ap2 ou36.known au36Xv hb88
          have ap38Xu89 : Apart p38 u89 := Apart.ap2 op38.known ap38Xv hb88
          have aqXu89 : Apart q u89 := Apart.ap2 oq.known aqXv hb88
          have au81Xu89 : Apart u81 u89 := Apart.ap2 ou81.known avXu81.symm hb88
          have nu89 : Nw H u89 := Nw.ap2 nv lE hb88
          replace ou6 := ou6.off off87 au6Xv
          replace ou7 := ou7.off off87 au7Xv
          replace op10 := op10.off off87 ap10Xv
          replace ou24 := ou24.off off87 au24Xv
          replace op26 := op26.off off87 ap26Xv
          replace ou36 := ou36.off off87 au36Xv
          replace op38 := op38.off off87 ap38Xv
          replace oq := oq.off off87 aqXv
          replace ou81 := ou81.off off87 avXu81.symm
          replace hvy := hvy0.le (off87.le lE nv)
          replace hvm := hvm0.le (off87.le lE nv)
          replace lE := off87.le lE nv
          refine ob_i (oq.fa 2) ?_
          refine oq.st (by simp) ou89.one ou89.cells (fun H90 oq off91 => ?_)
          replace ou6 := ou6.off off91 au6Xq
          replace ou7 := ou7.off off91 au7Xq
          replace op10 := op10.off off91 ap10Xq
          replace ou24 := ou24.off off91 au24Xq
          replace op26 := op26.off off91 ap26Xq
          replace ou36 := ou36.off off91 au36Xq
          replace op38 := op38.off off91 ap38Xq
          replace ou81 := ou81.off off91 aqXu81.symm
          replace ou89 := ou89.off off91 aqXu89.symm
          replace hvy := hvy0.le (off91.le lE nq)
          replace hvm := hvm0.le (off91.le lE nq)
          replace lE := off91.le lE nq
          replace oq : Cel H90 q [(.int .i64 (r)), (.int .i64 (c)), u89] := oq
          refine ob_i (vInt_sub (by omega) (by omega)) ?_
          exact nxt ((r * c).toNat - (m + 1)) (by omega) ⟨m + 1, rfl, by omega, u89, g5L79, g6L79, g7L79, g8L79, g9L79, g11L79, g13L79, g15L79, g16L79, g17L79, g18L79, g19L79, (congrArg (Value.int .i64) (by first | omega | rfl | (simp; done))), ou6, ou7, op10, ou24, op26, ou36, op38, oq, (Own.cast (by rw [show (r * c - 1 - (m : Int)).toNat = (r * c).toNat - 1 - m by omega]; exact dgL_take (by omega)) ou89), nu89, au6Xu89, au7Xu89, ap10Xu89, au24Xu89, ap26Xu89, au36Xu89, ap38Xu89, aqXu89, lE⟩
        · skip
          have tm := hg80
          rw [List.take_of_length_le (by rw [dgL_len]; omega)] at ov
          exact hJ57 _ _ ⟨v, g5L79, g6L79, g7L79, g8L79, g9L79, g11L79, g13L79, g15L79, g16L79, g17L79, g18L79, g19L79, ou6, ou7, op10, ou24, op26, ou36, op38, oq, ov, nv, au6Xv, au7Xv, ap10Xv, au24Xv, ap26Xv, au36Xv, ap38Xv, aqXv, lE⟩
      · skip
        have tt := hg50
        obtain rfl : t = pw (r * c) := by omega
        exact hJ47 _ _ ⟨g9L49, g13L49, (g15L49.trans (congrArg (Value.int .i64) (by first | omega | rfl | (simp; done)))), (g16L49.trans (congrArg (Value.int .i64) (by first | omega | rfl | (simp; done)))), ou6, ou7, op10, ou24, op26, ou36, op38, lE, (by omega)⟩
theorem L.FnBefore {vy vm : Value} {l m : List Int} {H : Hp} {K : Value → Hp → Prop} (h0 : Sl eU H vy l) (h1 : Sl eU H vm m) (l0 : l.length ≤ 9223372036854775807) (l1 : m.length ≤ 9223372036854775807) (b0 : bytP l) (b1 : bytP m) (hk : ∀ H', Le H H' → K (.bool true) H') : HT prg I.laws_FnBefore [vy, vm].toArray H K :=
  C.laws_FnBefore h0 h1 b0 l0 b1 l1 hk
end Go.Proofs.Ytaflemogkogkkaa
