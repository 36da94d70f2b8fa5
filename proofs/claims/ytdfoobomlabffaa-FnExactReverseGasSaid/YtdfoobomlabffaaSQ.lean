/- How many particles blocks have: the program's and the reference's rows. -/
import Derived.Test.YtdfoobomlabffaaSO
namespace Go.Proofs.Ytdfoobomlabffaa
open HL
set_option maxRecDepth 100000
/-- The block of a cell. -/
def blkIx (c rows cols wide t : Int) : Int := t / c / rows * wide + t % c / cols
def den (c rows cols wide : Int) (l : List Int) (n : Nat) : Nat → List Int
  | 0 => List.replicate n 0
  | t + 1 => (den c rows cols wide l n t).set (blkIx c rows cols wide t).toNat (at_ 0 (den c rows cols wide l n t) (blkIx c rows cols wide t) + pop (at_ 0 l (t : Int)))
theorem den_length (c rows cols wide : Int) (l : List Int) (n : Nat) : ∀ t, (den c rows cols wide l n t).length = n
  | 0 => by simp [den]
  | t + 1 => by simp only [den, List.length_set]; exact den_length c rows cols wide l n t
theorem den_le (c rows cols wide : Int) (l : List Int) (n : Nat) : ∀ t, ∀ x ∈ den c rows cols wide l n t, 0 ≤ x ∧ x ≤ 6 * t
  | 0, x, hx => by simp only [den, List.mem_replicate] at hx; omega
  | t + 1, x, hx => by
    have ih := den_le c rows cols wide l n t
    simp only [den] at hx
    rcases List.mem_or_eq_of_mem_set hx with h | rfl
    · have := ih x h; omega
    · have h2 := @pop_le (at_ 0 l (t : Int))
      have h3 : 0 ≤ at_ 0 (den c rows cols wide l n t) (blkIx c rows cols wide t) ∧ at_ 0 (den c rows cols wide l n t) (blkIx c rows cols wide t) ≤ 6 * t := by
        unfold at_
        rw [List.getD_eq_getElem?_getD]
        cases hg : (den c rows cols wide l n t)[(blkIx c rows cols wide t).toNat]? with
        | none => simp; omega
        | some y => exact ih y (List.mem_of_getElem? hg)
      omega
def denOk (w r c : Int) (l : List Int) (m : List Bool) (rows cols : Int) : Prop := validGas w r c l m ∧ sides rows cols ∧ r % rows = 0 ∧ c % cols = 0
instance (w r c : Int) (l : List Int) (m : List Bool) (rows cols : Int) : Decidable (denOk w r c l m rows cols) := by unfold denOk; infer_instance
def denN (r c rows cols : Int) : Nat := (r / rows * (c / cols)).toNat
def denL (w r c : Int) (l : List Int) (m : List Bool) (rows cols : Int) : List Int := if denOk w r c l m rows cols then den c rows cols (c / cols) l (denN r c rows cols) l.length else []
theorem denN_le {r c rows cols : Int} (h : sides r c) (h2 : sides rows cols) : 0 ≤ r / rows ∧ r / rows ≤ 16 ∧ 0 ≤ c / cols ∧ c / cols ≤ 16 ∧ 0 ≤ r / rows * (c / cols) ∧ r / rows * (c / cols) ≤ 256 := by
  obtain ⟨⟨a1, a2⟩, a3, a4⟩ := h
  obtain ⟨⟨b1, b2⟩, b3, b4⟩ := h2
  have e1 := Int.ediv_nonneg (a := r) (b := rows) (by omega) (by omega)
  have e2 := Int.ediv_le_self (a := r) rows (by omega)
  have e3 := Int.ediv_nonneg (a := c) (b := cols) (by omega) (by omega)
  have e4 := Int.ediv_le_self (a := c) cols (by omega)
  have e5 := Int.mul_nonneg e1 e3
  have e6 := Int.mul_le_mul (a := r / rows) (b := c / cols) (c := 16) (d := 16) (by omega) (by omega) e3 (by omega)
  omega
theorem blkIx_lt {r c rows cols t : Int} (h : sides r c) (h2 : sides rows cols) (d1 : r % rows = 0) (d2 : c % cols = 0) (t0 : 0 ≤ t) (t1 : t < r * c) :
    0 ≤ t / c / rows ∧ t / c / rows ≤ 16 ∧ 0 ≤ t % c / cols ∧ t % c / cols ≤ 16 ∧ 0 ≤ t / c / rows * (c / cols) ∧ t / c / rows * (c / cols) ≤ 256 ∧ 0 ≤ blkIx c rows cols (c / cols) t ∧ blkIx c rows cols (c / cols) t < r / rows * (c / cols) := by
  have hN := denN_le h h2
  obtain ⟨⟨a1, a2⟩, a3, a4⟩ := h
  obtain ⟨⟨b1, b2⟩, b3, b4⟩ := h2
  have c1 : 0 ≤ t / c := Int.ediv_nonneg t0 (by omega)
  have c2 : t / c < r := Int.ediv_lt_of_lt_mul (by omega) t1
  have c3 : 0 ≤ t % c := Int.emod_nonneg _ (by omega)
  have c4 : t % c < c := Int.emod_lt_of_pos _ (by omega)
  have r1 : r / rows * rows = r := by have := Int.mul_ediv_add_emod r rows; rw [Int.mul_comm] at this; omega
  have r2 : c / cols * cols = c := by have := Int.mul_ediv_add_emod c cols; rw [Int.mul_comm] at this; omega
  have c5 : t / c / rows < r / rows := Int.ediv_lt_of_lt_mul (by omega) (by omega)
  have c6 : t % c / cols < c / cols := Int.ediv_lt_of_lt_mul (by omega) (by omega)
  have c7 : 0 ≤ t / c / rows := Int.ediv_nonneg c1 (by omega)
  have c8 : 0 ≤ t % c / cols := Int.ediv_nonneg c3 (by omega)
  have c9 := Int.mul_nonneg c7 hN.2.2.1
  have d3 := Int.mul_le_mul (a := t / c / rows) (b := c / cols) (c := r / rows - 1) (d := c / cols) (by omega) (by omega) hN.2.2.1 (by omega)
  rw [Int.sub_mul] at d3
  unfold blkIx
  omega
--@ C.spec_DenseBlocks needs spec_DenseBlocks C.spec_l06Is C.spec_l06Sides C.spec_l06Ones
theorem C.spec_DenseBlocks {vc vw : Value} {w r c rows cols : Int} {l : List Int} {m : List Bool} {H : Hp} {K : Value → Hp → Prop} (hc : Sl eI H vc l) (hw : Sl eB H vw m)
    (k1 : l.length ≤ 9223372036854775807) (_ : m.length ≤ 9223372036854775807)
    (hk : ∀ v H', Own eI H' v (denL w r c l m rows cols) → Nw H v → Le H H' → K (.tuple #[v, .bool (decide (denOk w r c l m rows cols))]) H') :
    HT prg I.spec_DenseBlocks [.agg #[.int .i64 w, .int .i64 r, .int .i64 c, vc, vw], .int .i64 rows, .int .i64 cols].toArray H K := by
  refine R.spec_DenseBlocks ?_
  unfold F.spec_DenseBlocks
  have hc0 := hc
  refine nw_i (fun p H1 hp np le1 => ?_)
  replace hc := hc.le le1
  replace hw := hw.le le1
  have hbad : ¬ denOk w r c l m rows cols → K (.tuple #[.slice none 0 0, .bool false]) H1 := by
    intro hn
    have h1 := hk (.slice none 0 0) H1
    simp only [denL, hn, if_false, decide_false] at h1
    exact h1 ⟨none, 0, rfl, by simp, fun h => absurd h (by simp)⟩ (fun b hb => by simp [bk] at hb) le1
  refine C.spec_l06Is hp hc hw k1 ?_
  rw [vUn_not, ob_some]
  by_cases hv : validGas w r c l m
  · simp only [hv, decide_true, EV]
    refine C.spec_l06Sides ?_
    by_cases hs : sides rows cols
    · have rs := hv.2.1
      have q0 : (0 : Int) ≤ r ∧ (0 : Int) ≤ c ∧ r ≤ 16 ∧ c ≤ 16 := by have := rs.1; have := rs.2; omega
      have q1 : rows ≠ 0 ∧ cols ≠ 0 ∧ 0 < rows ∧ 0 < cols := by have := hs.1; have := hs.2; omega
      simp only [hs, decide_true, hp.fa, hp.ld 1 rfl, vInt_rem q1.1, Int.tmod_eq_emod_of_nonneg q0.1, EV]
      by_cases d1 : r % rows = 0
      · simp only [d1, hp.fa, hp.ld 2 rfl, vInt_rem q1.2.1, Int.tmod_eq_emod_of_nonneg q0.2.1, EV]
        by_cases d2 : c % cols = 0
        · simp only [d2, EV]
          have hok : denOk w r c l m rows cols := ⟨hv, hs, d1, d2⟩
          have hN := denN_le rs hs
          have hlen := validGas_len hv
          have hlrc := hv.2.2.1
          simp only [hp.fa, hp.ld 2 rfl, hp.ld 1 rfl, ob_some]
          rw [vInt_quo q1.2.2.2 (by omega) (by have := rs.2; omega), ob_some, vInt_quo q1.2.2.1 (by omega) (by have := rs.1; omega), ob_some, Int.tdiv_eq_ediv_of_nonneg q0.1, Int.tdiv_eq_ediv_of_nonneg q0.2.1, vInt_mul (by omega) (by omega), ob_some]
          refine Own.mk_ (by omega) (by omega) (by omega) (by omega) (fun v H2 ov nv le2 => ?_)
          have apv : Apart p v := hp.apart nv
          have nv0 : Nw H v := nv.le le1
          replace hp := hp.le le2
          have leB := le1.trans le2
          replace hc := hc.le le2
          refine jn_i (fun σ' H' => σ' 9 = v ∧ Own eI H' v (den c rows cols (c / cols) l (denN r c rows cols) l.length) ∧ Le H H') (fun σ' H' hP => ?_) (fun J60 hJ60 => ?_)
          · obtain ⟨g9, gv, gle⟩ := hP
            have h1 := hk v H'
            simp only [denL, hok, if_true, decide_true] at h1
            rw [g9]; exact h1 gv nv0 gle
          refine ⟨fun n σ H3 => ∃ i : Nat, n = r.toNat - i ∧ (i : Int) ≤ r ∧ σ 1 = .int .i64 rows ∧ σ 2 = .int .i64 cols ∧ σ 3 = p ∧ σ 8 = .int .i64 (c / cols) ∧ σ 9 = v ∧ σ 10 = .int .i64 i ∧
              Own eI H3 v (den c rows cols (c / cols) l (denN r c rows cols) (i * c.toNat)) ∧ Off v H2 H3,
            ⟨_, 0, rfl, by omega, rfl, rfl, rfl, rfl, rfl, rfl, by rw [Nat.zero_mul]; exact ov, fun b o hb _ => hb⟩, ?_⟩
          rintro n σ H3 ⟨i, rfl, hir, g1, g2, g3, g8, g9, g10, ov3, off3⟩
          have hp3 := hp.off off3 apv
          simp only [g3, g10, hp3.fa, hp3.ld 1 rfl, vInt_lss, ob_some]
          refine cnd_d (fun hlt => ?_) (fun hge => ?_)
          · refine jn_i (fun σ' H' => σ' 1 = .int .i64 rows ∧ σ' 2 = .int .i64 cols ∧ σ' 3 = p ∧ σ' 8 = .int .i64 (c / cols) ∧ σ' 9 = v ∧ σ' 10 = .int .i64 i ∧
                Own eI H' v (den c rows cols (c / cols) l (denN r c rows cols) ((i + 1) * c.toNat)) ∧ Off v H2 H') (fun σ' H' hP => ?_) (fun J65 hJ65 => ?_)
            · obtain ⟨z1, z2, z3, z8, z9, z10, zv, zoff⟩ := hP
              rw [z10, vInt_add (by omega) (by omega), ob_some]
              exact nxt (r.toNat - (i + 1)) (by omega) ⟨i + 1, rfl, by omega, z1, z2, z3, z8, z9, rfl, zv, zoff⟩
            refine ⟨fun n σ H4 => ∃ k : Nat, n = c.toNat - k ∧ (k : Int) ≤ c ∧ σ 1 = .int .i64 rows ∧ σ 2 = .int .i64 cols ∧ σ 3 = p ∧ σ 8 = .int .i64 (c / cols) ∧ σ 9 = v ∧ σ 10 = .int .i64 i ∧ σ 11 = .int .i64 k ∧
                Own eI H4 v (den c rows cols (c / cols) l (denN r c rows cols) (i * c.toNat + k)) ∧ Off v H2 H4,
              ⟨_, 0, rfl, by omega, g1, g2, g3, g8, g9, g10, rfl, ov3, off3⟩, ?_⟩
            rintro n σ H4 ⟨k, rfl, hkc, z1, z2, z3, z8, z9, z10, z11, ov4, off4⟩
            have hp4 := hp.off off4 apv
            have le4 : Le H H4 := off4.le leB nv0
            simp only [z1, z2, z3, z8, z9, z10, z11, hp4.fa, hp4.ld 2 rfl, hp4.ld 3 rfl, vInt_lss, ob_some]
            refine cnd_d (fun hklt => ?_) (fun hkge => ?_)
            · have ht : ((i * c.toNat + k : Nat) : Int) = i * c + k := by rw [Int.natCast_add, Int.natCast_mul, Int.toNat_of_nonneg q0.2.1]
              have hmul : (i : Int) * c + k < r * c := by
                have := Int.mul_le_mul (a := (i : Int)) (b := c) (c := r - 1) (d := c) (by omega) (by omega) (by omega) (by omega)
                rw [Int.sub_mul] at this; omega
              have hge0 : 0 ≤ (i : Int) * c := Int.mul_nonneg (by omega) (by omega)
              have e1 : ((i : Int) * c + k) / c = i := by rw [Int.add_comm, Int.add_mul_ediv_right _ _ (by omega), Int.ediv_eq_zero_of_lt (by omega) hklt]; omega
              have e2 : ((i : Int) * c + k) % c = k := by rw [Int.add_comm, Int.add_mul_emod_self_right, Int.emod_eq_of_lt (by omega) hklt]
              have hb := blkIx_lt (t := (i : Int) * c + k) rs hs d1 d2 (by omega) hmul
              have ebx : blkIx c rows cols (c / cols) ((i : Int) * c + k) = i / rows * (c / cols) + k / cols := by unfold blkIx; rw [e1, e2]
              rw [ebx, e1, e2] at hb
              have hdl := den_length c rows cols (c / cols) l (denN r c rows cols) (i * c.toNat + k)
              have hdn : (denN r c rows cols : Int) = r / rows * (c / cols) := Int.toNat_of_nonneg hN.2.2.2.2.1
              rw [vInt_quo q1.2.2.1 (by omega) (by omega), ob_some, Int.tdiv_eq_ediv_of_nonneg (by omega), vInt_mul (by omega) (by omega), ob_some, vInt_quo q1.2.2.2 (by omega) (by omega), ob_some, Int.tdiv_eq_ediv_of_nonneg (by omega), vInt_add (by omega) (by omega), ob_some,
                ov4.sl.ix (by omega) (by rw [hdl, hdn]; omega), ob_some, ov4.sl.ld 0 (by omega) (by rw [hdl, hdn]; omega), ob_some]
              have hsm := sides_mul rs
              rw [vInt_mul (by omega) (by omega), ob_some, vInt_add (by omega) (by omega), ob_some, (hc0.le le4).ix (by omega) (by omega), ob_some, (hc0.le le4).ld 0 (by omega) (by omega), ob_some]
              have hti : i * c.toNat + k < l.length := by omega
              have hcell := validGas_cell hv hti
              rw [ht] at hcell
              refine C.spec_l06Ones hcell.1 hcell.2 ⟨Le.refl _, ?_⟩
              have hxb : 0 ≤ at_ 0 (den c rows cols (c / cols) l (denN r c rows cols) (i * c.toNat + k)) (i / rows * (c / cols) + k / cols) ∧ at_ 0 (den c rows cols (c / cols) l (denN r c rows cols) (i * c.toNat + k)) (i / rows * (c / cols) + k / cols) ≤ 6 * ((i * c.toNat + k : Nat) : Int) :=
                den_le c rows cols (c / cols) l (denN r c rows cols) (i * c.toNat + k) _ (at_mem 0 _ (by omega) (by rw [hdl, hdn]; omega))
              have hpl := @pop_le (at_ 0 l ((i : Int) * c + k))
              rw [vInt_add (by omega) (by omega), ob_some, ob_some]
              refine ov4.st (by omega) (by rw [hdl, hdn]; omega) rfl rfl (fun H5 ov5 off5 => ?_)
              rw [vInt_add (by omega) (by omega), ob_some]
              refine nxt (c.toNat - (k + 1)) (by omega) ⟨k + 1, rfl, by omega, z1, z2, z3, z8, z9, z10, rfl, ?_, off4.trans off5⟩
              have estep : den c rows cols (c / cols) l (denN r c rows cols) (i * c.toNat + (k + 1)) = (den c rows cols (c / cols) l (denN r c rows cols) (i * c.toNat + k)).set ((i : Int) / rows * (c / cols) + k / cols).toNat
                  (at_ 0 (den c rows cols (c / cols) l (denN r c rows cols) (i * c.toNat + k)) (i / rows * (c / cols) + k / cols) + pop (at_ 0 l ((i : Int) * c + k))) := by
                rw [← Nat.add_assoc]
                simp only [den]
                rw [ht, ebx]
              rw [estep]; exact ov5
            · have hkc' : k = c.toNat := by omega
              refine hJ65 _ _ ⟨z1, z2, z3, z8, z9, z10, ?_, off4⟩
              rw [Nat.add_mul, Nat.one_mul, ← hkc']; rw [← hkc'] at ov4; exact ov4
          · have hir' : (i : Int) = r := by omega
            have e : i * c.toNat = l.length := by
              have : ((i * c.toNat : Nat) : Int) = l.length := by rw [Int.natCast_mul, Int.toNat_of_nonneg q0.2.1, hir', hlrc]
              omega
            rw [e] at ov3
            exact hJ60 _ _ ⟨g9, ov3, off3.le leB nv0⟩
        · simp only [decide_eq_true (show c % cols ≠ 0 from d2), EV]; exact hbad (fun h => d2 h.2.2.2)
      · simp only [decide_eq_true (show r % rows ≠ 0 from d1), EV]; exact hbad (fun h => d1 h.2.2.1)
    · simp only [hs, decide_false, EV]; exact hbad (fun h => hs h.2.1)
  · simp only [hv, decide_false, EV]; exact hbad (fun h => hv h.1)
--@ C.impl_DenseBlocks needs impl_DenseBlocks C.impl_ValidGas C.impl_within C.math_bits_OnesCount64
theorem dvd_le {r rows : Int} (h1 : 1 ≤ r) (h2 : 1 ≤ rows) (h : r % rows = 0) : rows ≤ r := by
  by_cases hh : rows ≤ r
  · exact hh
  · rw [Int.emod_eq_of_lt (by omega) (by omega)] at h; omega
theorem C.impl_DenseBlocks {vc vw : Value} {w r c rows cols : Int} {l : List Int} {m : List Bool} {H : Hp} {K : Value → Hp → Prop} (hc : Sl eI H vc l) (hw : Sl eB H vw m)
    (k1 : l.length ≤ 9223372036854775807) (k2 : m.length ≤ 9223372036854775807)
    (hk : ∀ v H', Own eI H' v (denL w r c l m rows cols) → Nw H v → Le H H' → K (.tuple #[v, .bool (decide (denOk w r c l m rows cols))]) H') :
    HT prg I.impl_DenseBlocks [.agg #[.int .i64 w, .int .i64 r, .int .i64 c, vc, vw], .int .i64 rows, .int .i64 cols].toArray H K := by
  refine R.impl_DenseBlocks ?_
  unfold F.impl_DenseBlocks
  have hc0 := hc
  refine nw_i (fun p H0 hp np le0 => ?_)
  refine ob_i (hp.ldn rfl) ?_
  refine C.impl_ValidGas (hc.le le0) (hw.le le0) k1 k2 (fun H1 le01 => ?_)
  replace hp := hp.le le01
  have le1 := le0.trans le01
  replace hc := hc.le le1
  have hbad : ¬ denOk w r c l m rows cols → K (.tuple #[.slice none 0 0, .bool false]) H1 := by
    intro hn
    have h1 := hk (.slice none 0 0) H1
    simp only [denL, hn, if_false, decide_false] at h1
    exact h1 ⟨none, 0, rfl, by simp, fun h => absurd h (by simp)⟩ (fun b hb => by simp [bk] at hb) le1
  rw [vUn_not, ob_some]
  by_cases hv : validGas w r c l m
  · have rs := hv.2.1
    have q0 : (0 : Int) ≤ r ∧ (0 : Int) ≤ c ∧ r ≤ 16 ∧ c ≤ 16 ∧ 1 ≤ r ∧ 1 ≤ c := by have := rs.1; have := rs.2; omega
    simp only [hv, decide_true, hp.fa, hp.ld 1 rfl, EV]
    refine C.impl_within ?_
    by_cases s1 : 1 ≤ rows ∧ rows ≤ r
    · simp only [decide_eq_true s1, hp.fa, hp.ld 2 rfl, EV]
      refine C.impl_within ?_
      by_cases s2 : 1 ≤ cols ∧ cols ≤ c
      · have q1 : rows ≠ 0 ∧ cols ≠ 0 ∧ 0 < rows ∧ 0 < cols := by omega
        have hs : sides rows cols := ⟨⟨by omega, by omega⟩, by omega, by omega⟩
        simp only [decide_eq_true s2, hp.fa, hp.ld 1 rfl, vInt_rem q1.1, Int.tmod_eq_emod_of_nonneg q0.1, EV]
        by_cases d1 : r % rows = 0
        · simp only [d1, hp.ld 2 rfl, vInt_rem q1.2.1, Int.tmod_eq_emod_of_nonneg q0.2.1, EV]
          by_cases d2 : c % cols = 0
          · simp only [d2, EV]
            have hok : denOk w r c l m rows cols := ⟨hv, hs, d1, d2⟩
            have hN := denN_le rs hs
            have hlen := validGas_len hv
            have hlrc := hv.2.2.1
            have hsm := sides_mul rs
            simp only [hp.ld 2 rfl, hp.ld 1 rfl, ob_some]
            rw [vInt_quo q1.2.2.2 (by omega) (by omega), ob_some, vInt_quo q1.2.2.1 (by omega) (by omega), ob_some, Int.tdiv_eq_ediv_of_nonneg q0.1, Int.tdiv_eq_ediv_of_nonneg q0.2.1, vInt_mul (by omega) (by omega), ob_some]
            refine Own.mk_ (by omega) (by omega) (by omega) (by omega) (fun v H2 ov nv le2 => ?_)
            have apv : Apart p v := hp.apart nv
            have nv0 : Nw H v := nv.le le1
            replace hp := hp.le le2
            have leB := le1.trans le2
            refine jn_i (fun σ' H' => σ' 9 = v ∧ Own eI H' v (den c rows cols (c / cols) l (denN r c rows cols) l.length) ∧ Le H H') (fun σ' H' hP => ?_) (fun J80 hJ80 => ?_)
            · obtain ⟨g9, gv, gle⟩ := hP
              have h1 := hk v H'
              simp only [denL, hok, if_true, decide_true] at h1
              rw [g9]; exact h1 gv nv0 gle
            simp only [hp.fa, hp.ld 3 rfl, hc.len, ob_some]
            refine ⟨fun n σ H3 => ∃ t : Nat, n = l.length - t ∧ t ≤ l.length ∧ σ 1 = .int .i64 rows ∧ σ 2 = .int .i64 cols ∧ σ 3 = p ∧ σ 8 = .int .i64 (c / cols) ∧ σ 9 = v ∧ σ 57 = vc ∧ σ 58 = .int .i64 l.length ∧ σ 59 = .int .i64 t ∧
                Own eI H3 v (den c rows cols (c / cols) l (denN r c rows cols) t) ∧ Off v H2 H3,
              ⟨_, 0, rfl, by omega, rfl, rfl, rfl, rfl, rfl, rfl, rfl, rfl, ov, fun b o hb _ => hb⟩, ?_⟩
            rintro n σ H3 ⟨t, rfl, htl, g1, g2, g3, g8, g9, g57, g58, g59, ov3, off3⟩
            have hp3 := hp.off off3 apv
            have le3 : Le H H3 := off3.le leB nv0
            simp only [g1, g2, g3, g8, g9, g57, g58, g59, hp3.fa, hp3.ld 2 rfl, vInt_lss, ob_some]
            refine cnd_d (fun hlt => ?_) (fun hge => ?_)
            · have hti : t < l.length := by omega
              have hcell := validGas_cell hv hti
              have hb := blkIx_lt (t := (t : Int)) rs hs d1 d2 (by omega) (by omega)
              have hdl := den_length c rows cols (c / cols) l (denN r c rows cols) t
              have hdn : (denN r c rows cols : Int) = r / rows * (c / cols) := Int.toNat_of_nonneg hN.2.2.2.2.1
              have t1 : (0 : Int) ≤ (t : Int) / c := Int.ediv_nonneg (by omega) (by omega)
              have t2 : (t : Int) / c ≤ t := Int.ediv_le_self _ (by omega)
              have t3 : 0 ≤ (t : Int) % c := Int.emod_nonneg _ (by omega)
              have t4 : (t : Int) % c < c := Int.emod_lt_of_pos _ (by omega)
              rw [(hc0.le le3).ix (by omega) hlt, ob_some, (hc0.le le3).ld 0 (by omega) hlt, ob_some, vInt_quo (by omega) (by omega) (by omega), ob_some, Int.tdiv_eq_ediv_of_nonneg (by omega), vInt_quo q1.2.2.1 (by omega) (by omega), ob_some, Int.tdiv_eq_ediv_of_nonneg t1,
                vInt_rem (by omega), ob_some, Int.tmod_eq_emod_of_nonneg (by omega), vInt_quo q1.2.2.2 (by omega) (by omega), ob_some, Int.tdiv_eq_ediv_of_nonneg t3, vInt_mul (by omega) (by omega), ob_some, vInt_add (by unfold blkIx at hb; omega) (by unfold blkIx at hb; omega), ob_some]
              have ebx : (t : Int) / c / rows * (c / cols) + (t : Int) % c / cols = blkIx c rows cols (c / cols) t := rfl
              rw [ebx, ov3.sl.ix (by omega) (by rw [hdl, hdn]; omega), ob_some, ov3.sl.ld 0 (by omega) (by rw [hdl, hdn]; omega), ob_some, vCI_u64 (by omega) (by omega), ob_some]
              refine C.math_bits_OnesCount64 hcell.1 hcell.2 ⟨Le.refl _, ?_⟩
              have hxb := den_le c rows cols (c / cols) l (denN r c rows cols) t _ (at_mem 0 _ (i := blkIx c rows cols (c / cols) t) (by omega) (by rw [hdl, hdn]; omega))
              have hpl := @pop_le (at_ 0 l (t : Int))
              rw [vInt_add (by omega) (by omega), ob_some, ob_some]
              refine ov3.st (by omega) (by rw [hdl, hdn]; omega) rfl rfl (fun H5 ov5 off5 => ?_)
              rw [vInt_add (by omega) (by omega), ob_some]
              exact nxt (l.length - (t + 1)) (by omega) ⟨t + 1, rfl, by omega, g1, g2, g3, g8, g9, g57, g58, rfl, ov5, off3.trans off5⟩
            · have e : t = l.length := by omega
              subst e
              exact hJ80 _ _ ⟨g9, ov3, le3⟩
          · simp only [decide_eq_true (show c % cols ≠ 0 from d2), EV]; exact hbad (fun h => d2 h.2.2.2)
        · simp only [decide_eq_true (show r % rows ≠ 0 from d1), EV]; exact hbad (fun h => d1 h.2.2.1)
      · simp only [decide_eq_false s2, EV]; exact hbad (fun h => s2 ⟨h.2.1.2.1, dvd_le q0.2.2.2.2.2 h.2.1.2.1 h.2.2.2⟩)
    · simp only [decide_eq_false s1, EV]; exact hbad (fun h => s1 ⟨h.2.1.1.1, dvd_le q0.2.2.2.2.1 h.2.1.1.1 h.2.2.1⟩)
  · simp only [hv, decide_false, EV]; exact hbad (fun h => hv h.1)
theorem denL_len {w r c : Int} {l : List Int} {m : List Bool} {rows cols : Int} : (denL w r c l m rows cols).length ≤ 256 := by
  unfold denL
  split
  · rename_i h
    rw [den_length]
    have := denN_le h.1.2.1 h.2.1
    unfold denN; omega
  · simp
end Go.Proofs.Ytdfoobomlabffaa
