/- A gas with other cells: the program's way, by a function that is handed over. -/
import Derived.Test.YtdfoobomlabffaaSV
namespace Go.Proofs.Ytdfoobomlabffaa
open HL
set_option maxRecDepth 100000
theorem Apart.app {H : Hp} {x u u' : Value} (hx : ∀ b, bk x = some b → ∃ o, H b = some o) (ha : Apart x u) (hb : ∀ b, bk u' = some b → bk u = some b ∨ H b = none) : Apart x u' := fun b h1 h2 => by
  rcases hb b h2 with h | h
  · exact ha b h1 h
  · obtain ⟨o, ho⟩ := hx b h1; rw [h] at ho; simp at ho
theorem Nw.app {H0 H : Hp} {u u' : Value} (hn : Nw H0 u) (hl : Le H0 H) (hb : ∀ b, bk u' = some b → bk u = some b ∨ H b = none) : Nw H0 u' := fun b h => by
  rcases hb b h with h1 | h1
  · exact hn b h1
  · cases ho : H0 b with
    | none => rfl
    | some o => rw [hl b o ho] at h1; simp at h1
/-- One element more. -/
theorem apd_one {α : Type} {enc : α → Value} {z : Value} {b : Nat} {e : TypeId} {u t : Value} {x : α} {l : List α} {H : Hp} {K : Value → Hp → Prop} (o : Own enc H u l) (ot : Sl enc H t [x]) (ho : ∀ x, oneCell (enc x) = true) (hb : b ≤ 64) (hl : l.length ≤ 68719476736)
    (hk : ∀ u' H', Own enc H' u' (l ++ [x]) → Off u H H' → (∀ b, bk u' = some b → bk u = some b ∨ H b = none) → K u' H') : apd 1 b #[z] e u t H K := by
  refine o.apd ot ho (by simp; omega) (fun c hc => ?_) hk
  have := nsc_le hc
  simp only [List.length_singleton] at this ⊢
  exact Nat.le_trans (Nat.mul_le_mul this hb) (by omega)
--@ C.slices_Clone_bool_bool needs slices_Clone_bool_bool
theorem C.slices_Clone_bool_bool {a : Value} {l : List Bool} {H : Hp} {K : Value → Hp → Prop} (ha : Sl eB H a l) (hl : l.length ≤ 68719476736) (hk : ∀ v H', Own eB H' v l → Nw H v → Le H H' → K v H') :
    HT prg I.slices_Clone_bool_bool [a].toArray H K := by
  refine R.slices_Clone_bool_bool ?_
  unfold F.slices_Clone_bool_bool
  obtain ⟨p, c, rfl, hc, hr⟩ := id ha
  show cnd (.bool p.isNone) _ _
  cases p with
  | none =>
    have : l = [] := by
      cases l with
      | nil => rfl
      | cons x r => obtain ⟨ad, h, _⟩ := hr 0 (by simp); cases h
    subst this
    exact hk _ H ⟨none, 0, rfl, by simp, fun h => absurd h (by simp)⟩ (fun b hb => by simp [bk] at hb) (Le.refl H)
  | some p => exact clone_i (b := 1) ha (fun _ => rfl) (by omega) hl (fun _ => hk)
--@ C.impl_Gas_of needs impl_Gas_of C.slices_Clone_bool_bool
theorem C.impl_Gas_of {vc vw fv : Value} {w r c : Int} {l : List Int} {m : List Bool} {g : Int → Int} {H : Hp} {K : Value → Hp → Prop} (hc : Sl eI H vc l) (hw : Sl eB H vw m) (k1 : l.length ≤ 256) (k2 : m.length ≤ 256)
    (hcl : ∀ H' (i : Nat) (Z : Value → Hp → Prop), Le H H' → i < l.length → (∀ H'', Le H' H'' → Z (.int .i64 (g (at_ 0 l (i : Int)))) H'') → callV prg fv [.int .i64 i, .int .i64 (at_ 0 l (i : Int))] H' Z)
    (hk : ∀ u v H', Own eI H' u (l.map g) → Own eB H' v m → Nw H u → Nw H v → Apart u v → Le H H' → K (.agg #[.int .i64 w, .int .i64 r, .int .i64 c, u, v]) H') :
    HT prg I.impl_Gas_of [.agg #[.int .i64 w, .int .i64 r, .int .i64 c, vc, vw], fv].toArray H K := by
  refine R.impl_Gas_of ?_
  unfold F.impl_Gas_of
  refine nw_i (fun p H1 hp np le1 => ?_)
  refine nw_i (fun q H2 oq nq le2 => ?_)
  replace hp := hp.le le2
  have nq0 : Nw H q := nq.le le1
  have leB2 := le1.trans le2
  simp only [hp.fa, hp.ld 0 rfl, hp.ld 1 rfl, hp.ld 2 rfl, hp.ld 4 rfl, ob_some]
  refine C.slices_Clone_bool_bool (hw.le leB2) (by omega) (fun v H3 ov nv le3 => ⟨le3, ?_⟩)
  have aqv : Apart q v := oq.apart nv
  replace hp := hp.le le3
  replace oq := oq.le le3
  have leB3 := leB2.trans le3
  have nv0 : Nw H v := nv.le leB2
  refine ob_i (a := .agg #[.int .i64 w, .int .i64 r, .int .i64 c, .slice none 0 0, v]) (by obtain ⟨_, _, _, rfl⟩ := ov.isSl; rfl) ?_
  refine nw_i (fun s H4 os ns le4 => ?_)
  have avs : Apart v s := ov.apart ns
  have aqs : Apart q s := oq.apart ns
  have aps : Apart p s := hp.apart ns
  replace hp := hp.le le4
  replace oq := oq.le le4
  replace ov := ov.le le4
  have ns0 : Nw H s := ns.le leB3
  refine os.stn (ws := [.int .i64 w, .int .i64 r, .int .i64 c, .slice none 0 0, v]) rfl rfl (oc1 rfl (oc1 rfl (oc1 rfl (oc1 rfl (oc1 ov.one oc0))))) (fun H5 os off5 => ?_)
  replace hp := hp.off off5 aps
  replace oq := oq.off off5 aqs
  replace ov := ov.off off5 avs
  have leB5 : Le H H5 := off5.le (leB3.trans le4) ns0
  refine jn_i (fun σ' H' => σ' 4 = q ∧ σ' 5 = s ∧ Cel H' q [.int .i64 0, .int .i64 0, .int .i64 0, .slice none 0 0, .slice none 0 0] ∧ Le H H' ∧ Own eB H' v m ∧ ∃ u, Cel H' s [.int .i64 w, .int .i64 r, .int .i64 c, u, v] ∧ Own eI H' u (l.map g) ∧ Nw H u ∧ Apart q u ∧ Apart v u)
    (fun σ' H' hP => ?_) (fun J19 hJ19 => ?_)
  · obtain ⟨g4, g5, oq, le, ov, u, os, ou, nu, aqu, avu⟩ := hP
    rw [g4, g5]
    refine ob_i (os.ldn rfl) ?_
    refine oq.stn (ws := [.int .i64 w, .int .i64 r, .int .i64 c, u, v]) rfl rfl (oc1 rfl (oc1 rfl (oc1 rfl (oc1 ou.one (oc1 ov.one oc0))))) (fun H6 oq off6 => ?_)
    refine ob_i (oq.ldn rfl) ?_
    exact hk u v H6 (ou.off off6 aqu.symm) (ov.off off6 aqv.symm) nu nv0 avu.symm (off6.le le nq0)
  simp only [hp.fa, hp.ld 3 rfl, hc.len, ob_some]
  refine ⟨fun n σ H6 => ∃ i : Nat, n = l.length - i ∧ i ≤ l.length ∧ σ 1 = fv ∧ σ 4 = q ∧ σ 5 = s ∧ σ 19 = vc ∧ σ 20 = .int .i64 l.length ∧ σ 21 = .int .i64 i ∧ Cel H6 q [.int .i64 0, .int .i64 0, .int .i64 0, .slice none 0 0, .slice none 0 0] ∧ Le H H6 ∧ Own eB H6 v m ∧
      ∃ u, Cel H6 s [.int .i64 w, .int .i64 r, .int .i64 c, u, v] ∧ Own eI H6 u ((l.take i).map g) ∧ Nw H u ∧ Apart q u ∧ Apart v u ∧ Apart s u,
    ⟨_, 0, rfl, by omega, rfl, rfl, rfl, rfl, rfl, rfl, oq, leB5, ov, .slice none 0 0, os, Own.nil_of none, fun b hb => by simp [bk] at hb, fun b _ hb => by simp [bk] at hb, fun b _ hb => by simp [bk] at hb, fun b _ hb => by simp [bk] at hb⟩, ?_⟩
  rintro n σ H6 ⟨i, rfl, hil, g1, g4, g5, g19, g20, g21, oq, le6, ov, u, os, ou, nu, aqu, avu, asu⟩
  simp only [g1, g5, g19, g20, g21, vInt_lss, ob_some]
  refine cnd_d (fun hlt => ?_) (fun hge => ?_)
  · have hlt' : i < l.length := by omega
    rw [(hc.le le6).ix (by omega) hlt, ob_some, (hc.le le6).ld 0 (by omega) hlt, ob_some]
    simp only [os.fa, os.ld 3 rfl, ob_some]
    refine hcl H6 i _ le6 hlt' (fun H7 le7 => ⟨le7, ?_⟩)
    refine bS_i (enc := eI) (l := [g (at_ 0 l (i : Int))]) (by omega) rfl (by kernel_rfl) (fun t H8 ot nt le8 => ?_)
    have le68 := le7.trans le8
    replace oq := oq.le le68
    replace ov := ov.le le68
    replace os := os.le le68
    replace ou := ou.le le68
    have leB8 := le6.trans le68
    refine apd_one ou ot.sl (fun _ => rfl) (by omega) (by simp; omega) (fun u' H9 ou' off9 hbk => ?_)
    have aqu' : Apart q u' := Apart.app oq.known aqu hbk
    have avu' : Apart v u' := Apart.app ov.known avu hbk
    have asu' : Apart s u' := Apart.app os.known asu hbk
    have nu' : Nw H u' := Nw.app nu leB8 hbk
    replace oq := oq.off off9 aqu
    replace ov := ov.off off9 avu
    replace os := os.off off9 asu
    have leB9 : Le H H9 := off9.le leB8 nu
    refine os.st (by simp) ou'.one ou'.cells (fun H10 os off10 => ?_)
    rw [vInt_add (by omega) (by omega), ob_some]
    refine nxt (l.length - (i + 1)) (by omega) ⟨i + 1, rfl, by omega, g1, g4, g5, g19, g20, rfl, oq.off off10 aqs, off10.le leB9 ns0, ov.off off10 avs, u', os, ?_, nu', aqu', avu', asu'⟩
    rw [take_at 0 l hlt', List.map_append]
    exact ou'.off off10 asu'.symm
  · have e : i = l.length := by omega
    subst e
    rw [List.take_length] at ou
    exact hJ19 _ _ ⟨g4, g5, oq, le6, ov, u, os, ou, nu, aqu, avu⟩
--@ C.impl_ReverseGas needs impl_ReverseGas impl_ReverseGas_1 C.impl_ValidGas C.impl_Gas_of C.impl_Gas_turned
theorem C.impl_ReverseGas_1 {p vc vw : Value} {w r c x : Int} {i : Int} {H : Hp} {K : Value → Hp → Prop} (hp : Cel H p [.int .i64 w, .int .i64 r, .int .i64 c, vc, vw]) (hw : w = 4 ∨ w = 6) (h0 : 0 ≤ x) (h1 : x ≤ 63) (hk : ∀ H', Le H H' → K (.int .i64 (tuc w x)) H') :
    HT prg I.impl_ReverseGas_1 [.int .i64 i, .int .i64 x, p].toArray H K := by
  refine R.impl_ReverseGas_1 ?_
  unfold F.impl_ReverseGas_1
  refine ob_i (hp.ldn rfl) ?_
  simp only [hp.fa, hp.ld 0 rfl, ob_some]
  rw [vInt_quo (by omega) (by omega) (by omega), ob_some]
  refine C.impl_Gas_turned hw (by rcases hw with h | h <;> subst h <;> decide) (by rcases hw with h | h <;> subst h <;> decide) h0 h1 (fun H' le => ?_)
  rw [tur_eq hw h0 h1]
  exact hk H' le
theorem C.impl_ReverseGas {vc vw : Value} {w r c : Int} {l : List Int} {m : List Bool} {H : Hp} {K : Value → Hp → Prop} (hc : Sl eI H vc l) (hw : Sl eB H vw m)
    (k1 : l.length ≤ 9223372036854775807) (k2 : m.length ≤ 9223372036854775807)
    (hk : ∀ u v H', Own eI H' u (revL w r c l m) → Own eB H' v (revM w r c l m) → Nw H u → Nw H v → Apart u v → Le H H' →
      K (.tuple #[.agg #[.int .i64 (revI w w r c l m), .int .i64 (revI r w r c l m), .int .i64 (revI c w r c l m), u, v], .bool (decide (validGas w r c l m))]) H') :
    HT prg I.impl_ReverseGas [.agg #[.int .i64 w, .int .i64 r, .int .i64 c, vc, vw]].toArray H K := by
  refine R.impl_ReverseGas ?_
  unfold F.impl_ReverseGas
  refine nw_i (fun p H1 hp np le1 => ?_)
  refine nw_i (fun q H2 oq nq le2 => ?_)
  have apq : Apart p q := hp.apart nq
  replace hp := hp.le le2
  have nq0 : Nw H q := nq.le le1
  have leB := le1.trans le2
  refine ob_i (hp.ldn rfl) ?_
  refine C.impl_ValidGas (hc.le leB) (hw.le leB) k1 k2 (fun H3 le3 => ?_)
  replace hp := hp.le le3
  replace oq := oq.le le3
  have leB3 := leB.trans le3
  rw [vUn_not, ob_some]
  by_cases hv : validGas w r c l m
  · have hlen := validGas_len hv
    have hml : m.length ≤ 256 := by have := hv.2.2.2.1; omega
    simp only [hv, decide_true, EV]
    refine ob_i (hp.ldn rfl) ?_
    refine C.impl_Gas_of (g := tuc w) (hc.le leB3) (hw.le leB3) hlen hml (fun H' i Z le hi hZ => ?_) (fun u v H4 ou ov nu nv auv le4 => ?_)
    · have hcell := validGas_cell hv hi
      refine ⟨by kernel_rfl, ?_⟩
      exact C.impl_ReverseGas_1 (hp.le le) hv.1 hcell.1 hcell.2 hZ
    · have aqu : Apart q u := oq.apart nu
      have aqv : Apart q v := oq.apart nv
      replace oq := oq.le le4
      refine oq.stn (ws := [.int .i64 w, .int .i64 r, .int .i64 c, u, v]) rfl rfl (oc1 rfl (oc1 rfl (oc1 rfl (oc1 ou.one (oc1 ov.one oc0))))) (fun H5 oq off5 => ?_)
      refine ob_i (oq.ldn rfl) ?_
      have h1 := hk u v H5
      simp only [revL, revM, revI, hv, if_true, decide_true] at h1
      exact h1 (ou.off off5 aqu.symm) (ov.off off5 aqv.symm) (nu.le leB3) (nv.le leB3) auv (off5.le (leB3.trans le4) nq0)
  · simp only [hv, decide_false, EV]
    refine ob_i (a := .agg #[.int .i64 0, .int .i64 0, .int .i64 0, .slice none 0 0, .slice none 0 0]) rfl ?_
    refine oq.stn (ws := [.int .i64 0, .int .i64 0, .int .i64 0, .slice none 0 0, .slice none 0 0]) rfl rfl (by simp [oneCell]) (fun H4 oq off4 => ?_)
    refine ob_i (oq.ldn rfl) ?_
    have h1 := hk (.slice none 0 0) (.slice none 0 0) H4
    simp only [revL, revM, revI, hv, if_false, decide_false] at h1
    exact h1 (Own.nil_of none) (Own.nil_of none) (fun b hb => by simp [bk] at hb) (fun b hb => by simp [bk] at hb) (fun b hb => by simp [bk] at hb) (off4.le leB3 nq0)
end Go.Proofs.Ytdfoobomlabffaa
