/- Gases whose particles turn: the program's and the reference's. -/
import Derived.Test.YtdfoobomlabffaaSU
namespace Go.Proofs.Ytdfoobomlabffaa
open HL
set_option maxRecDepth 100000
def orI (a b : Int) : Int := IntKind.i64.wrap (BitVec.ofInt IntKind.i64.bits a ||| BitVec.ofInt IntKind.i64.bits b).toNat
def shlI (a b : Int) : Int := IntKind.i64.wrap (a * 2 ^ (min b.toNat IntKind.i64.bits))
theorem vInt_or (a b : Int) : vInt .or (.int .i64 a) (.int .i64 b) = some (.int .i64 (orI a b)) := by simp only [vInt, if_true]; rfl
theorem vInt_shlI {k : IntKind} {a b : Int} (h : 0 ≤ b) : vInt .shl (.int .i64 a) (.int k b) = some (.int .i64 (shlI a b)) := by simp only [vInt]; rw [if_pos h]; rfl
/-- A cell whose particles have turned, as the reference reckons; and as the program does. -/
def turS (ways by_ x : Int) : Nat → Int
  | 0 => 0
  | k + 1 => if x / 2 ^ k % 2 = 1 then orI (turS ways by_ x k) (shlI 1 ((k + by_).tmod ways)) else turS ways by_ x k
def turI (ways by_ x : Int) : Nat → Int
  | 0 => 0
  | k + 1 => orI (turI ways by_ x k) (shlI (x / 2 ^ k % 2) ((((k : Int) + by_).tmod ways + ways).tmod ways))
theorem tur_all : (List.range 64).all (fun n => turS 4 2 n 4 == turI 4 2 n 4 && turS 6 3 n 6 == turI 6 3 n 6) = true := by decide +kernel
theorem tur_eq {ways x : Int} (hw : ways = 4 ∨ ways = 6) (h0 : 0 ≤ x) (h1 : x ≤ 63) : turI ways (ways.tdiv 2) x ways.toNat = turS ways (ways.tdiv 2) x ways.toNat := by
  obtain ⟨n, rfl⟩ := Int.eq_ofNat_of_zero_le h0
  have := List.all_eq_true.mp tur_all n (by simp; omega)
  simp only [Bool.and_eq_true, beq_iff_eq] at this
  rcases hw with rfl | rfl
  · exact this.1.symm
  · exact this.2.symm
/-- A gas's cells, turned. -/
def tuc (w : Int) (x : Int) : Int := turS w (w.tdiv 2) x w.toNat
def revL (w r c : Int) (l : List Int) (m : List Bool) : List Int := if validGas w r c l m then l.map (tuc w) else []
def revM (w r c : Int) (l : List Int) (m : List Bool) : List Bool := if validGas w r c l m then m else []
def revI (x w r c : Int) (l : List Int) (m : List Bool) : Int := if validGas w r c l m then x else 0
theorem revL_len {w r c : Int} {l : List Int} {m : List Bool} : (revL w r c l m).length ≤ l.length := by unfold revL; split <;> simp
theorem revM_len {w r c : Int} {l : List Int} {m : List Bool} : (revM w r c l m).length ≤ m.length := by unfold revM; split <;> simp
--@ C.spec_l06Turned needs spec_l06Turned
theorem C.spec_l06Turned {x ways by_ : Int} {H : Hp} {K : Value → Hp → Prop} (hw : ways = 4 ∨ ways = 6) (b0 : 0 ≤ by_) (b1 : by_ ≤ 16) (h0 : 0 ≤ x) (h1 : x ≤ 63) (hk : K (.int .i64 (turS ways by_ x ways.toNat)) H) :
    HT prg I.spec_l06Turned [.int .i64 x, .int .i64 ways, .int .i64 by_].toArray H K := by
  refine R.spec_l06Turned ?_
  unfold F.spec_l06Turned
  refine jn_i (fun σ' H' => σ' 7 = .int .i64 (turS ways by_ x ways.toNat) ∧ H' = H) (fun σ' H' hP => ?_) (fun J1 hJ1 => ?_)
  · obtain ⟨g7, rfl⟩ := hP
    rw [g7]; exact hk
  refine ⟨fun n σ H1 => ∃ k : Nat, n = ways.toNat - k ∧ (k : Int) ≤ ways ∧ H1 = H ∧ σ 0 = .int .i64 x ∧ σ 1 = .int .i64 ways ∧ σ 2 = .int .i64 by_ ∧ σ 7 = .int .i64 (turS ways by_ x k) ∧ σ 8 = .int .i64 k, ⟨_, 0, rfl, by omega, rfl, rfl, rfl, rfl, rfl, rfl⟩, ?_⟩
  rintro n σ H1 ⟨k, rfl, hkw, rfl, g0, g1, g2, g7, g8⟩
  simp only [g0, g1, g2, g7, g8, vInt_lss, ob_some]
  refine cnd_d (fun hlt => ?_) (fun hge => ?_)
  · refine jn_i (fun σ' H' => H' = H1 ∧ σ' 0 = .int .i64 x ∧ σ' 1 = .int .i64 ways ∧ σ' 2 = .int .i64 by_ ∧ σ' 7 = .int .i64 (turS ways by_ x (k + 1)) ∧ σ' 8 = .int .i64 k) (fun σ' H' hP => ?_) (fun J4 hJ4 => ?_)
    · obtain ⟨rfl, z0, z1, z2, z7, z8⟩ := hP
      rw [z8, vInt_add (by omega) (by omega), ob_some]
      exact nxt (ways.toNat - (k + 1)) (by omega) ⟨k + 1, rfl, by omega, rfl, z0, z1, z2, z7, rfl⟩
    have sm := shr_small h0 h1 k
    rw [vCI_u64 (by omega) (by omega), ob_some, vInt_shr (by omega) (by omega), ob_some, Int.toNat_natCast, vInt_and1 sm.1 sm.2, ob_some, vInt_eql, ob_some]
    refine cnd_d (fun hb => ?_) (fun hb => ?_)
    · have t1 := tmod_lt (i := (k : Int) + by_) (n := ways) (by omega) (by omega)
      rw [vInt_add (by omega) (by omega), ob_some, vInt_rem (by omega), ob_some, vCI_u64 (by omega) (by omega), ob_some, vInt_shlI (by omega), ob_some, vInt_or, ob_some]
      refine hJ4 _ _ ⟨rfl, g0, g1, g2, ?_, g8⟩
      show Value.int .i64 _ = _
      simp only [turS, hb, if_true]
    · refine hJ4 _ _ ⟨rfl, g0, g1, g2, ?_, g8⟩
      show σ 7 = _
      rw [g7]; simp only [turS, hb, if_false]
  · have e : k = ways.toNat := by omega
    subst e
    exact hJ1 _ _ ⟨g7, rfl⟩
--@ C.impl_Gas_turned needs impl_Gas_turned impl_floorMod
theorem C.impl_floorMod {a b : Int} {H : Hp} {K : Value → Hp → Prop} (h0 : 0 ≤ a) (h1 : 0 < b) (h2 : b ≤ 1000000) (hk : K (.int .i64 ((a.tmod b + b).tmod b)) H) : HT prg I.impl_floorMod [.int .i64 a, .int .i64 b].toArray H K := by
  refine R.impl_floorMod ?_
  unfold F.impl_floorMod
  have t1 := tmod_lt h0 h1
  rw [vInt_rem (by omega), ob_some, vInt_add (by omega) (by omega), ob_some, vInt_rem (by omega), ob_some]
  exact hk
theorem C.impl_Gas_turned {x ways r c by_ : Int} {vc vw : Value} {H : Hp} {K : Value → Hp → Prop} (hw : ways = 4 ∨ ways = 6) (b0 : 0 ≤ by_) (b1 : by_ ≤ 16) (h0 : 0 ≤ x) (h1 : x ≤ 63) (hk : ∀ H', Le H H' → K (.int .i64 (turI ways by_ x ways.toNat)) H') :
    HT prg I.impl_Gas_turned [.agg #[.int .i64 ways, .int .i64 r, .int .i64 c, vc, vw], .int .i64 x, .int .i64 by_].toArray H K := by
  refine R.impl_Gas_turned ?_
  unfold F.impl_Gas_turned
  refine nw_i (fun p H0 hp np le0 => ?_)
  refine jn_i (fun σ' H' => σ' 7 = .int .i64 (turI ways by_ x ways.toNat) ∧ H' = H0) (fun σ' H' hP => ?_) (fun J3 hJ3 => ?_)
  · obtain ⟨g7, rfl⟩ := hP
    rw [g7]; exact hk _ le0
  simp only [hp.fa, hp.ld 0 rfl, ob_some]
  refine ⟨fun n σ H1 => ∃ k : Nat, n = ways.toNat - k ∧ (k : Int) ≤ ways ∧ H1 = H0 ∧ σ 1 = .int .i64 x ∧ σ 2 = .int .i64 by_ ∧ σ 3 = p ∧ σ 7 = .int .i64 (turI ways by_ x k) ∧ σ 10 = .int .i64 ways ∧ σ 11 = .int .i64 k, ⟨_, 0, rfl, by omega, rfl, rfl, rfl, rfl, rfl, rfl, rfl⟩, ?_⟩
  rintro n σ H1 ⟨k, rfl, hkw, rfl, g1, g2, g3, g7, g10, g11⟩
  simp only [g1, g2, g3, g7, g10, g11, hp.fa, hp.ld 0 rfl, vInt_lss, ob_some]
  refine cnd_d (fun hlt => ?_) (fun hge => ?_)
  · have sm := shr_small h0 h1 k
    rw [vInt_shr (by omega) (by omega), ob_some, Int.toNat_natCast, vInt_and1 sm.1 sm.2, ob_some, vInt_add (by omega) (by omega), ob_some]
    refine C.impl_floorMod (by omega) (by omega) (by omega) ⟨Le.refl _, ?_⟩
    have t1 := tmod_lt (i := (k : Int) + by_) (n := ways) (by omega) (by omega)
    have t2 := tmod_lt (i := ((k : Int) + by_).tmod ways + ways) (n := ways) (by omega) (by omega)
    rw [vInt_shlI (by omega), ob_some, vInt_or, ob_some, vInt_add (by omega) (by omega), ob_some]
    exact nxt (ways.toNat - (k + 1)) (by omega) ⟨k + 1, rfl, by omega, rfl, g1, g2, g3, rfl, g10, rfl⟩
  · have e : k = ways.toNat := by omega
    subst e
    exact hJ3 _ _ ⟨g7, rfl⟩
/-- Cells up to one turned, the others as they were. -/
def tuL (w : Int) (l : List Int) (k : Nat) : List Int := (l.take k).map (tuc w) ++ l.drop k
theorem tuL_length (w : Int) (l : List Int) (k : Nat) : (tuL w l k).length = l.length := by simp [tuL]; omega
theorem tuL_set (w : Int) {l : List Int} {k : Nat} (h : k < l.length) : (tuL w l k).set (k : Int).toNat (tuc w (at_ 0 l (k : Int))) = tuL w l (k + 1) := by
  unfold tuL
  rw [Int.toNat_natCast, List.set_append_right _ _ (by simp; omega), List.length_map, List.length_take, Nat.min_eq_left (by omega), Nat.sub_self, List.drop_eq_getElem_cons h, take_at 0 l h]
  simp only [List.set_cons_zero, List.map_append, List.map_cons, List.map_nil, List.append_assoc, List.singleton_append]
--@ C.spec_ReverseGas needs spec_ReverseGas C.spec_l06Is C.spec_l06Own C.spec_l06Turned
theorem C.spec_ReverseGas {vc vw : Value} {w r c : Int} {l : List Int} {m : List Bool} {H : Hp} {K : Value → Hp → Prop} (hc : Sl eI H vc l) (hw : Sl eB H vw m)
    (k1 : l.length ≤ 9223372036854775807) (_ : m.length ≤ 9223372036854775807)
    (hk : ∀ u v H', Own eI H' u (revL w r c l m) → Own eB H' v (revM w r c l m) → Nw H u → Nw H v → Apart u v → Le H H' →
      K (.tuple #[.agg #[.int .i64 (revI w w r c l m), .int .i64 (revI r w r c l m), .int .i64 (revI c w r c l m), u, v], .bool (decide (validGas w r c l m))]) H') :
    HT prg I.spec_ReverseGas [.agg #[.int .i64 w, .int .i64 r, .int .i64 c, vc, vw]].toArray H K := by
  refine R.spec_ReverseGas ?_
  unfold F.spec_ReverseGas
  refine nw_i (fun p H1 hp np le1 => ?_)
  refine nw_i (fun q H2 oq nq le2 => ?_)
  have apq : Apart p q := hp.apart nq
  replace hp := hp.le le2
  have nq0 : Nw H q := nq.le le1
  have leB := le1.trans le2
  refine C.spec_l06Is hp (hc.le leB) (hw.le leB) k1 ?_
  rw [vUn_not, ob_some]
  by_cases hv : validGas w r c l m
  · have hlen := validGas_len hv
    have hml : m.length ≤ 256 := by have := hv.2.2.2.1; omega
    have hw46 := hv.1
    simp only [hv, decide_true, EV]
    refine C.spec_l06Own hp (hc.le leB) (hw.le leB) (by omega) (by omega) (fun u v H3 ou ov nu nv auv le3 => ?_)
    have apu : Apart p u := hp.apart nu
    have aqu : Apart q u := oq.apart nu
    have aqv : Apart q v := oq.apart nv
    replace hp := hp.le le3
    replace oq := oq.le le3
    have leB3 := leB.trans le3
    refine nw_i (fun s H4 os ns le4 => ?_)
    have aus : Apart u s := ou.apart ns
    have avs : Apart v s := ov.apart ns
    have aps : Apart p s := hp.apart ns
    have aqs : Apart q s := oq.apart ns
    have ns0 : Nw H s := ns.le leB3
    replace hp := hp.le le4
    replace oq := oq.le le4
    replace ou := ou.le le4
    replace ov := ov.le le4
    refine os.stn (ws := [.int .i64 w, .int .i64 r, .int .i64 c, u, v]) rfl rfl (oc1 rfl (oc1 rfl (oc1 rfl (oc1 ou.one (oc1 ov.one oc0))))) (fun H5 os off5 => ?_)
    replace hp := hp.off off5 aps
    replace oq := oq.off off5 aqs
    replace ou := ou.off off5 aus
    replace ov := ov.off off5 avs
    have leB5 : Le H H5 := off5.le (leB3.trans le4) ns0
    have nu0 : Nw H u := nu.le leB
    have nv0 : Nw H v := nv.le leB
    refine jn_i (fun σ' H' => σ' 2 = q ∧ σ' 4 = s ∧ Cel H' q [.int .i64 0, .int .i64 0, .int .i64 0, .slice none 0 0, .slice none 0 0] ∧ Cel H' s [.int .i64 w, .int .i64 r, .int .i64 c, u, v] ∧ Own eI H' u (tuL w l l.length) ∧ Own eB H' v m ∧ Le H H') (fun σ' H' hP => ?_) (fun J16 hJ16 => ?_)
    · obtain ⟨g2, g4, oq, os, ou, ov, le⟩ := hP
      rw [g2, g4]
      refine ob_i (os.ldn rfl) ?_
      refine oq.stn (ws := [.int .i64 w, .int .i64 r, .int .i64 c, u, v]) rfl rfl (oc1 rfl (oc1 rfl (oc1 rfl (oc1 ou.one (oc1 ov.one oc0))))) (fun H6 oq off6 => ?_)
      refine ob_i (oq.ldn rfl) ?_
      have h1 := hk u v H6
      simp only [revL, revM, revI, hv, if_true, decide_true] at h1
      refine h1 ?_ (ov.off off6 aqv.symm) nu0 nv0 auv (off6.le le nq0)
      have := ou.off off6 aqu.symm
      unfold tuL at this
      simpa using this
    refine ⟨fun n σ H6 => ∃ i : Nat, n = l.length - i ∧ i ≤ l.length ∧ σ 1 = p ∧ σ 2 = q ∧ σ 4 = s ∧ σ 5 = .int .i64 i ∧ Cel H6 p [.int .i64 w, .int .i64 r, .int .i64 c, vc, vw] ∧ Cel H6 q [.int .i64 0, .int .i64 0, .int .i64 0, .slice none 0 0, .slice none 0 0] ∧
        Cel H6 s [.int .i64 w, .int .i64 r, .int .i64 c, u, v] ∧ Own eI H6 u (tuL w l i) ∧ Own eB H6 v m ∧ Le H H6,
      ⟨_, 0, rfl, by omega, rfl, rfl, rfl, rfl, hp, oq, os, by unfold tuL; simpa using ou, ov, leB5⟩, ?_⟩
    rintro n σ H6 ⟨i, rfl, hil, g1, g2, g4, g5, hp, oq, os, ou, ov, le6⟩
    have hlu := ou.len
    rw [tuL_length] at hlu
    simp only [g1, g4, g5, os.fa, os.ld 3 rfl, hlu, vInt_lss, ob_some]
    refine cnd_d (fun hlt => ?_) (fun hge => ?_)
    · have hlt' : i < l.length := by omega
      have hcell := validGas_cell hv hlt'
      simp only [hp.fa, hp.ld 3 rfl, hp.ld 0 rfl, ob_some]
      rw [(hc.le le6).ix (by omega) hlt, ob_some, (hc.le le6).ld 0 (by omega) hlt, ob_some, vInt_quo (by omega) (by omega) (by omega), ob_some]
      refine C.spec_l06Turned hw46 (by rcases hw46 with h | h <;> subst h <;> decide) (by rcases hw46 with h | h <;> subst h <;> decide) hcell.1 hcell.2 ⟨Le.refl _, ?_⟩
      rw [ou.sl.ix (by omega) (by rw [tuL_length]; omega), ob_some]
      refine ou.st (x := tuc w (at_ 0 l (i : Int))) (by omega) (by rw [tuL_length]; omega) rfl rfl (fun H7 ou7 off7 => ?_)
      rw [vInt_add (by omega) (by omega), ob_some]
      rw [tuL_set w hlt'] at ou7
      exact nxt (l.length - (i + 1)) (by omega) ⟨i + 1, rfl, by omega, g1, g2, g4, rfl, hp.off off7 apu, oq.off off7 aqu, os.off off7 aus.symm, ou7, ov.off off7 auv.symm, off7.le le6 nu0⟩
    · have e : i = l.length := by omega
      subst e
      exact hJ16 _ _ ⟨g2, g4, oq, os, ou, ov, le6⟩
  · simp only [hv, decide_false, EV]
    refine ob_i (a := .agg #[.int .i64 0, .int .i64 0, .int .i64 0, .slice none 0 0, .slice none 0 0]) rfl ?_
    refine oq.stn (ws := [.int .i64 0, .int .i64 0, .int .i64 0, .slice none 0 0, .slice none 0 0]) rfl rfl (by simp [oneCell]) (fun H3 oq off3 => ?_)
    refine ob_i (oq.ldn rfl) ?_
    have h1 := hk (.slice none 0 0) (.slice none 0 0) H3
    simp only [revL, revM, revI, hv, if_false, decide_false] at h1
    exact h1 (Own.nil_of none) (Own.nil_of none) (fun b hb => by simp [bk] at hb) (fun b hb => by simp [bk] at hb) (fun b hb => by simp [bk] at hb) (off3.le leB nq0)
end Go.Proofs.Ytdfoobomlabffaa
