/- Which ways particles go: the program's and the reference's sums. -/
import Derived.Test.YtdfoobomlabffaaSL
namespace Go.Proofs.Ytdfoobomlabffaa
open HL
set_option maxRecDepth 100000
theorem vInt_shr {k : IntKind} {a w : Int} (h0 : 0 ≤ w) (h1 : w ≤ 63) : vInt .shr (.int .i64 a) (.int k w) = some (.int .i64 (a / 2 ^ w.toNat)) := by
  simp only [vInt]
  rw [if_pos h0]
  have e : min w.toNat IntKind.i64.bits = w.toNat := by
    have : IntKind.i64.bits = 64 := rfl
    omega
  rw [e, Int.fdiv_eq_ediv_of_nonneg _ (Int.le_of_lt (Int.pow_pos (by omega)))]
def andOk (n : Nat) : Bool := match vInt .and (.int .i64 n) (.int .i64 1) with | some (.int .i64 m) => m == (n % 2 : Nat) | _ => false
theorem and_all : (List.range 64).all andOk = true := by decide +kernel
theorem vInt_and1 {y : Int} (h0 : 0 ≤ y) (h1 : y ≤ 63) : vInt .and (.int .i64 y) (.int .i64 1) = some (.int .i64 (y % 2)) := by
  obtain ⟨n, rfl⟩ := Int.eq_ofNat_of_zero_le h0
  have := List.all_eq_true.mp and_all n (by simp; omega)
  unfold andOk at this
  split at this
  · rename_i m hm; rw [hm]; simp at this; rw [this]
  · simp at this
theorem bS_i {α : Type} {enc : α → Value} {len : Nat} {z : Value} {e : TypeId} {parts : List (Nat × Value)} {l : List α} {H : Hp} {K : Value → Hp → Prop} (h1 : len ≤ 1000) (hl : l.length = len)
    (hf : Instr.fill (fun i => some (i * 1, 1)) (if len * 1 = 0 then #[] else zrow #[z] (len * 1)) parts = some (l.map enc).toArray) (hk : ∀ v H', Own enc H' v l → Nw H v → Le H H' → K v H') : bS 1 len #[z] e parts H K := by
  refine ⟨by omega, ?_⟩
  rw [hf]
  intro r hr
  subst hl
  refine hk _ _ ⟨some ⟨r, 0, none⟩, l.length, rfl, Nat.le_refl _, fun _ => ⟨r, 0, _, e, rfl, Hp.put_same _ _ _, by simp, fun i hi => by simp [hi]⟩⟩ ?_ (Le.put _ hr)
  intro b hb
  simp only [bk] at hb
  split at hb
  · simp at hb
  · simp only [Option.some.injEq] at hb; subst hb; exact hr
/-- How far a way goes, down or to the right. -/
def wayL (d : Bool) (ways : Int) : List Int := if ways = 4 then (if d then [-1, 0, 1, 0] else [0, 1, 0, -1]) else (if d then [0, -1, -1, 0, 1, 1] else [1, 1, 0, -1, -1, 0])
def way (d : Bool) (ways w : Int) : Int := at_ 0 (wayL d ways) w
--@ C.spec_l06Way needs spec_l06Way
theorem C.spec_l06Way {ways w : Int} {H : Hp} {K : Value → Hp → Prop} (hw : ways = 4 ∨ ways = 6) (h0 : 0 ≤ w) (h1 : w < ways) (hk : ∀ H', Le H H' → K (.tuple #[.int .i64 (way true ways w), .int .i64 (way false ways w)]) H') :
    HT prg I.spec_l06Way [.int .i64 ways, .int .i64 w].toArray H K := by
  refine R.spec_l06Way ?_
  unfold F.spec_l06Way
  rw [vInt_eql, ob_some]
  rcases hw with rfl | rfl
  · rw [decide_eq_true rfl]
    refine cnd_t1 ?_
    refine bS_i (enc := eI) (l := wayL true 4) (by omega) rfl (by kernel_rfl) (fun u H1 ou nu le1 => ?_)
    have hl : ((wayL true 4).length : Int) = 4 := rfl
    rw [ou.sl.ix h0 (by omega), ob_some, ou.sl.ld 0 h0 (by omega), ob_some]
    refine bS_i (enc := eI) (l := wayL false 4) (by omega) rfl (by kernel_rfl) (fun v H2 ov nv le2 => ?_)
    have hl2 : ((wayL false 4).length : Int) = 4 := rfl
    rw [ov.sl.ix h0 (by omega), ob_some, ov.sl.ld 0 h0 (by omega), ob_some]
    exact hk _ (le1.trans le2)
  · rw [decide_eq_false (by omega)]
    refine cnd_f1 ?_
    refine bS_i (enc := eI) (l := wayL true 6) (by omega) rfl (by kernel_rfl) (fun u H1 ou nu le1 => ?_)
    have hl : ((wayL true 6).length : Int) = 6 := rfl
    rw [ou.sl.ix h0 (by omega), ob_some, ou.sl.ld 0 h0 (by omega), ob_some]
    refine bS_i (enc := eI) (l := wayL false 6) (by omega) rfl (by kernel_rfl) (fun v H2 ov nv le2 => ?_)
    have hl2 : ((wayL false 6).length : Int) = 6 := rfl
    rw [ov.sl.ix h0 (by omega), ob_some, ov.sl.ld 0 h0 (by omega), ob_some]
    exact hk _ (le1.trans le2)
--@ C.impl_wayOf needs impl_wayOf
theorem C.impl_wayOf {w : Int} {H : Hp} {K : Value → Hp → Prop} (h0 : 0 ≤ w) (h1 : w < 4) (hk : K (.tuple #[.int .i64 (way true 4 w), .int .i64 (way false 4 w)]) H) : HT prg I.impl_wayOf [.int .i64 w].toArray H K := by
  refine R.impl_wayOf ?_
  unfold F.impl_wayOf
  have hw : w = 0 ∨ w = 1 ∨ w = 2 ∨ w = 3 := by omega
  rcases hw with rfl | rfl | rfl | rfl
  · rw [vInt_eql, ob_some, decide_eq_true rfl]; exact cnd_t1 hk
  · rw [vInt_eql, ob_some, decide_eq_false (by omega)]; refine cnd_f1 ?_
    rw [vInt_eql, ob_some, decide_eq_true rfl]; exact cnd_t1 hk
  · rw [vInt_eql, ob_some, decide_eq_false (by omega)]; refine cnd_f1 ?_
    rw [vInt_eql, ob_some, decide_eq_false (by omega)]; refine cnd_f1 ?_
    rw [vInt_eql, ob_some, decide_eq_true rfl]; exact cnd_t1 hk
  · rw [vInt_eql, ob_some, decide_eq_false (by omega)]; refine cnd_f1 ?_
    rw [vInt_eql, ob_some, decide_eq_false (by omega)]; refine cnd_f1 ?_
    rw [vInt_eql, ob_some, decide_eq_false (by omega)]; exact cnd_f1 hk
--@ C.impl_Gas_goes needs impl_Gas_goes C.impl_wayOf C.spec_l06Way
theorem vIxArr_cel {H : Hp} {p : Value} {cs : List Value} (h : Cel H p cs) {n sz o : Nat} {k : IntKind} {i : Int} (h0 : 0 ≤ i) (h1 : i < n) : vIxArr n sz (fp p o) (.int k i) = some (fp p (o + i.toNat * sz)) := by
  obtain ⟨r, e, rfl, _⟩ := h
  simp only [fp, vIxArr, add_none]
  rw [if_pos ⟨h0, h1⟩]
  congr 3
  rw [Nat.add_assoc]
theorem fp_zero {H : Hp} {p : Value} {cs : List Value} (h : Cel H p cs) : fp p 0 = p := by
  obtain ⟨r, e, rfl, _⟩ := h
  simp [fp, add_none]
theorem C.impl_Gas_goes {ways r c w : Int} {vc vw : Value} {H : Hp} {K : Value → Hp → Prop} (hw : ways = 4 ∨ ways = 6) (h0 : 0 ≤ w) (h1 : w < ways) 
    (hk : ∀ H', Le H H' → K (.tuple #[.int .i64 (way true ways w), .int .i64 (way false ways w)]) H') :
    HT prg I.impl_Gas_goes [.agg #[.int .i64 ways, .int .i64 r, .int .i64 c, vc, vw], .int .i64 w].toArray H K := by
  refine R.impl_Gas_goes ?_
  unfold F.impl_Gas_goes
  refine nw_i (fun p H1 hp np le1 => ?_)
  simp only [hp.fa, hp.ld 0 rfl, ob_some, vInt_eql]
  rcases hw with rfl | rfl
  · rw [decide_eq_true rfl]
    refine cnd_t1 ?_
    refine C.impl_wayOf h0 h1 ?_
    simp only [EV]
    exact hk _ le1
  · rw [decide_eq_false (by omega)]
    refine cnd_f1 ?_
    refine hp_of_val prg _ _ _ (.agg #[.int .i64 0, .int .i64 1]) (by kernel_rfl) ?_
    refine hp_of_val prg _ _ _ (.agg #[.int .i64 (-1), .int .i64 1]) (by kernel_rfl) ?_
    refine hp_of_val prg _ _ _ (.agg #[.int .i64 (-1), .int .i64 0]) (by kernel_rfl) ?_
    refine hp_of_val prg _ _ _ (.agg #[.int .i64 0, .int .i64 (-1)]) (by kernel_rfl) ?_
    refine hp_of_val prg _ _ _ (.agg #[.int .i64 1, .int .i64 (-1)]) (by kernel_rfl) ?_
    refine hp_of_val prg _ _ _ (.agg #[.int .i64 1, .int .i64 0]) (by kernel_rfl) ?_
    refine hp_of_val prg _ _ _ (.agg #[.int .i64 0, .int .i64 1, .int .i64 (-1), .int .i64 1, .int .i64 (-1), .int .i64 0, .int .i64 0, .int .i64 (-1), .int .i64 1, .int .i64 (-1), .int .i64 1, .int .i64 0]) (by kernel_rfl) ?_
    refine nw_i (fun q H2 oq nq le2 => ?_)
    refine oq.stn (ws := [.int .i64 0, .int .i64 1, .int .i64 (-1), .int .i64 1, .int .i64 (-1), .int .i64 0, .int .i64 0, .int .i64 (-1), .int .i64 1, .int .i64 (-1), .int .i64 1, .int .i64 0]) rfl rfl (by simp [oneCell]) (fun H3 oq off3 => ?_)
    have le3 : Le H H3 := off3.le (le1.trans le2) (nq.le le1)
    have z := fp_zero oq
    rw [← z]
    rw [vIxArr_cel oq h0 h1, ob_some, vIxArr_cel oq (by omega) (by omega), ob_some]
    have hw6 : w = 0 ∨ w = 1 ∨ w = 2 ∨ w = 3 ∨ w = 4 ∨ w = 5 := by omega
    have fin : ∀ (x y : Int), x = way true 6 w → y = way false 6 w → K (.tuple #[.int .i64 x, .int .i64 y]) H3 := fun x y hx hy => by subst hx hy; exact hk _ le3
    rcases hw6 with rfl | rfl | rfl | rfl | rfl | rfl
    all_goals
      refine ob_i (oq.ld _ rfl) ?_
      rw [ob_some, vIxArr_cel oq (by omega) (by omega), ob_some]
      refine ob_i (oq.ld _ rfl) ?_
      exact fin _ _ rfl rfl
/-- What the bits of a cell go, up to a way; and all cells. -/
def cellW (d : Bool) (ways x : Int) : Nat → Int
  | 0 => 0
  | k + 1 => cellW d ways x k + x / 2 ^ k % 2 * way d ways k
def gasW (d : Bool) (ways : Int) (l : List Int) : Int := (l.map fun x => cellW d ways x ways.toNat).sum
theorem way_le (d : Bool) {ways : Int} (hw : ways = 4 ∨ ways = 6) {k : Nat} (hk : (k : Int) < ways) : -1 ≤ way d ways k ∧ way d ways k ≤ 1 := by
  have key : ∀ k : Nat, k < 6 → ((k < 4 → -1 ≤ way d 4 k ∧ way d 4 k ≤ 1) ∧ -1 ≤ way d 6 k ∧ way d 6 k ≤ 1) := by cases d <;> decide
  rcases hw with rfl | rfl
  · exact (key k (by omega)).1 (by omega)
  · exact (key k (by omega)).2
theorem bit_or (x : Int) (k : Nat) : x / 2 ^ k % 2 = 0 ∨ x / 2 ^ k % 2 = 1 := by omega
theorem cellW_le (d : Bool) {ways : Int} (hw : ways = 4 ∨ ways = 6) (x : Int) : ∀ k : Nat, (k : Int) ≤ ways → -k ≤ cellW d ways x k ∧ cellW d ways x k ≤ k
  | 0, _ => by simp [cellW]
  | k + 1, h => by
    have h1 := cellW_le d hw x k (by omega)
    have h2 := way_le d hw (k := k) (by omega)
    simp only [cellW]
    rcases bit_or x k with e | e <;> rw [e] <;> omega
theorem gasW_succ (d : Bool) (ways : Int) {l : List Int} {i : Nat} (h : i < l.length) : gasW d ways (l.take (i + 1)) = gasW d ways (l.take i) + cellW d ways (at_ 0 l (i : Int)) ways.toNat := by
  unfold gasW
  rw [take_at 0 l h, List.map_append, List.sum_append]; simp
theorem gasW_le (d : Bool) {ways : Int} (hw : ways = 4 ∨ ways = 6) : ∀ l : List Int, -(6 * (l.length : Int)) ≤ gasW d ways l ∧ gasW d ways l ≤ 6 * l.length
  | [] => by simp [gasW]
  | x :: r => by
    have h1 := gasW_le d hw r
    have h2 := cellW_le d hw x ways.toNat (by omega)
    simp only [gasW, List.map_cons, List.sum_cons, List.length_cons] at *
    omega
def way1 (w r c : Int) (l : List Int) (m : List Bool) : Int := if validGas w r c l m then gasW true w l else 0
def way2 (w r c : Int) (l : List Int) (m : List Bool) : Int := if validGas w r c l m then gasW false w l else 0
theorem shr_small {x : Int} (h0 : 0 ≤ x) (h1 : x ≤ 63) (k : Nat) : 0 ≤ x / 2 ^ k ∧ x / 2 ^ k ≤ 63 := by
  have hp : (0 : Int) < 2 ^ k := Int.pow_pos (by omega)
  refine ⟨Int.ediv_nonneg h0 (Int.le_of_lt hp), Int.le_trans (Int.ediv_le_self _ h0) h1⟩
--@ C.spec_WayOfGas needs spec_WayOfGas C.spec_l06Is C.spec_l06Way
theorem C.spec_WayOfGas {vc vw : Value} {w r c : Int} {l : List Int} {m : List Bool} {H : Hp} {K : Value → Hp → Prop} (hc : Sl eI H vc l) (hw : Sl eB H vw m)
    (k1 : l.length ≤ 9223372036854775807) (_ : m.length ≤ 9223372036854775807) (hk : ∀ H', Le H H' → K (.tuple #[.int .i64 (way1 w r c l m), .int .i64 (way2 w r c l m), .bool (decide (validGas w r c l m))]) H') :
    HT prg I.spec_WayOfGas [.agg #[.int .i64 w, .int .i64 r, .int .i64 c, vc, vw]].toArray H K := by
  refine R.spec_WayOfGas ?_
  unfold F.spec_WayOfGas
  refine nw_i (fun p H1 hp np le1 => ?_)
  replace hc := hc.le le1
  replace hw := hw.le le1
  refine C.spec_l06Is hp hc hw k1 ?_
  rw [vUn_not, ob_some]
  by_cases hv : validGas w r c l m
  · simp only [way1, way2, hv, if_true, decide_true] at hk
    simp only [hv, decide_true, EV]
    have hlen := validGas_len hv
    have hw46 := hv.1
    refine jn_i (fun σ' H' => σ' 5 = .int .i64 (gasW true w l) ∧ σ' 6 = .int .i64 (gasW false w l) ∧ Le H H') (fun σ' H' hP => ?_) (fun J6 hJ6 => ?_)
    · obtain ⟨g5, g6, gle⟩ := hP
      rw [g5, g6]; exact hk H' gle
    refine ⟨fun n σ H2 => ∃ i : Nat, n = l.length - i ∧ i ≤ l.length ∧ Le H1 H2 ∧ σ 1 = p ∧ σ 5 = .int .i64 (gasW true w (l.take i)) ∧ σ 6 = .int .i64 (gasW false w (l.take i)) ∧ σ 7 = .int .i64 i, ⟨_, 0, rfl, by omega, Le.refl _, rfl, rfl, rfl, rfl⟩, ?_⟩
    rintro n σ H2 ⟨i, rfl, hi', le2, g1, g5, g6, g7⟩
    simp only [g1, g7, hp.fa, (hp.le le2).ld 3 rfl, hc.len, vInt_lss, ob_some]
    refine cnd_d (fun hlt => ?_) (fun hge => ?_)
    · have hlt' : i < l.length := by omega
      have hcell := validGas_cell hv hlt'
      have a1 := gasW_le true hw46 (l.take i)
      have a2 := gasW_le false hw46 (l.take i)
      have a3 : (l.take i).length ≤ 256 := by simp; omega
      refine jn_i (fun σ' H' => Le H1 H' ∧ σ' 1 = p ∧ σ' 5 = .int .i64 (gasW true w (l.take (i + 1))) ∧ σ' 6 = .int .i64 (gasW false w (l.take (i + 1))) ∧ σ' 7 = .int .i64 i) (fun σ' H' hP => ?_) (fun J12 hJ12 => ?_)
      · obtain ⟨gle, q1, q5, q6, q7⟩ := hP
        rw [q7, vInt_add (by omega) (by omega), ob_some]
        exact nxt (l.length - (i + 1)) (by omega) ⟨i + 1, rfl, by omega, gle, q1, q5, q6, rfl⟩
      refine ⟨fun n σ H3 => ∃ k : Nat, n = w.toNat - k ∧ (k : Int) ≤ w ∧ Le H1 H3 ∧ σ 1 = p ∧ σ 5 = .int .i64 (gasW true w (l.take i) + cellW true w (at_ 0 l (i : Int)) k) ∧ σ 6 = .int .i64 (gasW false w (l.take i) + cellW false w (at_ 0 l (i : Int)) k) ∧ σ 7 = .int .i64 i ∧ σ 8 = .int .i64 k,
        ⟨_, 0, rfl, by omega, le2, g1, by show σ 5 = _; rw [g5]; simp [cellW], by show σ 6 = _; rw [g6]; simp [cellW], g7, rfl⟩, ?_⟩
      rintro n σ H3 ⟨k, rfl, hk6, le3, q1, q5, q6, q7, q8⟩
      simp only [q1, q7, q8, hp.fa, (hp.le le3).ld 0 rfl, (hp.le le3).ld 3 rfl, vInt_lss, ob_some]
      refine cnd_d (fun hkl => ?_) (fun hkg => ?_)
      · have b1 := cellW_le true hw46 (at_ 0 l (i : Int)) k hk6
        have b2 := cellW_le false hw46 (at_ 0 l (i : Int)) k hk6
        refine jn_i (fun σ' H' => Le H1 H' ∧ σ' 1 = p ∧ σ' 5 = .int .i64 (gasW true w (l.take i) + cellW true w (at_ 0 l (i : Int)) (k + 1)) ∧ σ' 6 = .int .i64 (gasW false w (l.take i) + cellW false w (at_ 0 l (i : Int)) (k + 1)) ∧ σ' 7 = .int .i64 i ∧ σ' 8 = .int .i64 k) (fun σ' H' hP => ?_) (fun J18 hJ18 => ?_)
        · obtain ⟨gle, z1, z5, z6, z7, z8⟩ := hP
          rw [z8, vInt_add (by omega) (by omega), ob_some]
          exact nxt (w.toNat - (k + 1)) (by omega) ⟨k + 1, rfl, by omega, gle, z1, z5, z6, z7, rfl⟩
        rw [(hc.le le3).ix (by omega) hlt, ob_some, (hc.le le3).ld 0 (by omega) hlt, ob_some, vCI_u64 (by omega) (by omega), ob_some, vInt_shr (by omega) (by omega), ob_some]
        have sm := shr_small hcell.1 hcell.2 k
        rw [Int.toNat_natCast, vInt_and1 sm.1 sm.2, ob_some, vInt_eql, ob_some]
        refine cnd_d (fun hb => ?_) (fun hb => ?_)
        · refine C.spec_l06Way hw46 (by omega) hkl (fun H4 le4 => ?_)
          have w1 := way_le true hw46 hkl
          have w2 := way_le false hw46 hkl
          simp only [EV]
          rw [q5, q6, vInt_add (by omega) (by omega), ob_some, vInt_add (by omega) (by omega), ob_some]
          refine hJ18 _ _ ⟨le3.trans le4, q1, ?_, ?_, q7, q8⟩
          · show Value.int .i64 _ = _
            simp only [cellW, hb]; congr 1; omega
          · show Value.int .i64 _ = _
            simp only [cellW, hb]; congr 1; omega
        · have hb0 : at_ 0 l (i : Int) / 2 ^ k % 2 = 0 := by rcases bit_or (at_ 0 l (i : Int)) k with e | e <;> omega
          refine hJ18 _ _ ⟨le3, q1, ?_, ?_, q7, q8⟩
          · show σ 5 = _
            rw [q5]; simp [cellW, hb0]
          · show σ 6 = _
            rw [q6]; simp [cellW, hb0]
      · have hkw : k = w.toNat := by omega
        refine hJ12 _ _ ⟨le3, q1, ?_, ?_, q7⟩
        · show σ 5 = _
          rw [q5, gasW_succ true w hlt', hkw]
        · show σ 6 = _
          rw [q6, gasW_succ false w hlt', hkw]
    · have hil : i = l.length := by omega
      subst hil
      rw [List.take_length] at g5 g6
      exact hJ6 _ _ ⟨g5, g6, le1.trans le2⟩
  · simp only [way1, way2, hv, if_false, decide_false] at hk
    simp only [hv, decide_false, EV]; exact hk _ le1
--@ C.impl_WayOfGas needs impl_WayOfGas C.impl_ValidGas C.impl_Gas_goes
theorem C.impl_WayOfGas {vc vw : Value} {w r c : Int} {l : List Int} {m : List Bool} {H : Hp} {K : Value → Hp → Prop} (hc : Sl eI H vc l) (hw : Sl eB H vw m)
    (k1 : l.length ≤ 9223372036854775807) (k2 : m.length ≤ 9223372036854775807) (hk : ∀ H', Le H H' → K (.tuple #[.int .i64 (way1 w r c l m), .int .i64 (way2 w r c l m), .bool (decide (validGas w r c l m))]) H') :
    HT prg I.impl_WayOfGas [.agg #[.int .i64 w, .int .i64 r, .int .i64 c, vc, vw]].toArray H K := by
  refine R.impl_WayOfGas ?_
  unfold F.impl_WayOfGas
  refine nw_i (fun p H0 hp np le0 => ?_)
  refine ob_i (hp.ldn rfl) ?_
  refine C.impl_ValidGas (hc.le le0) (hw.le le0) k1 k2 (fun H1 le01 => ?_)
  replace hp := hp.le le01
  have le1 := le0.trans le01
  replace hc := hc.le le1
  rw [vUn_not, ob_some]
  by_cases hv : validGas w r c l m
  · simp only [way1, way2, hv, if_true, decide_true] at hk
    simp only [hv, decide_true, EV]
    have hlen := validGas_len hv
    have hw46 := hv.1
    refine jn_i (fun σ' H' => σ' 5 = .int .i64 (gasW true w l) ∧ σ' 6 = .int .i64 (gasW false w l) ∧ Le H H') (fun σ' H' hP => ?_) (fun J7 hJ7 => ?_)
    · obtain ⟨g5, g6, gle⟩ := hP
      rw [g5, g6]; exact hk H' gle
    simp only [hp.fa, hp.ld 3 rfl, hc.len, ob_some]
    refine ⟨fun n σ H2 => ∃ i : Nat, n = l.length - i ∧ i ≤ l.length ∧ Le H1 H2 ∧ σ 1 = p ∧ σ 5 = .int .i64 (gasW true w (l.take i)) ∧ σ 6 = .int .i64 (gasW false w (l.take i)) ∧ σ 16 = vc ∧ σ 17 = .int .i64 l.length ∧ σ 18 = .int .i64 i, ⟨_, 0, rfl, by omega, Le.refl _, rfl, rfl, rfl, rfl, rfl, rfl⟩, ?_⟩
    rintro n σ H2 ⟨i, rfl, hi', le2, g1, g5, g6, g16, g17, g18⟩
    simp only [g1, g16, g17, g18, vInt_lss, ob_some]
    refine cnd_d (fun hlt => ?_) (fun hge => ?_)
    · have hlt' : i < l.length := by omega
      have hcell := validGas_cell hv hlt'
      have a1 := gasW_le true hw46 (l.take i)
      have a2 := gasW_le false hw46 (l.take i)
      have a3 : (l.take i).length ≤ 256 := by simp; omega
      refine jn_i (fun σ' H' => Le H1 H' ∧ σ' 1 = p ∧ σ' 5 = .int .i64 (gasW true w (l.take (i + 1))) ∧ σ' 6 = .int .i64 (gasW false w (l.take (i + 1))) ∧ σ' 16 = vc ∧ σ' 17 = .int .i64 l.length ∧ σ' 18 = .int .i64 i) (fun σ' H' hP => ?_) (fun J13 hJ13 => ?_)
      · obtain ⟨gle, q1, q5, q6, q16, q17, q18⟩ := hP
        rw [q18, vInt_add (by omega) (by omega), ob_some]
        exact nxt (l.length - (i + 1)) (by omega) ⟨i + 1, rfl, by omega, gle, q1, q5, q6, q16, q17, rfl⟩
      rw [(hc.le le2).ix (by omega) hlt, ob_some, (hc.le le2).ld 0 (by omega) hlt, ob_some, (hp.le le2).fa, ob_some, (hp.le le2).ld 0 rfl, ob_some]
      refine ⟨fun n σ H3 => ∃ k : Nat, n = w.toNat - k ∧ (k : Int) ≤ w ∧ Le H1 H3 ∧ σ 1 = p ∧ σ 5 = .int .i64 (gasW true w (l.take i) + cellW true w (at_ 0 l (i : Int)) k) ∧ σ 6 = .int .i64 (gasW false w (l.take i) + cellW false w (at_ 0 l (i : Int)) k) ∧
          σ 16 = vc ∧ σ 17 = .int .i64 l.length ∧ σ 18 = .int .i64 i ∧ σ 8 = .int .i64 (at_ 0 l (i : Int)) ∧ σ 23 = .int .i64 w ∧ σ 24 = .int .i64 k,
        ⟨_, 0, rfl, by omega, le2, g1, by show σ 5 = _; rw [g5]; simp [cellW], by show σ 6 = _; rw [g6]; simp [cellW], g16, g17, g18, rfl, rfl, rfl⟩, ?_⟩
      rintro n σ H3 ⟨k, rfl, hk6, le3, q1, q5, q6, q16, q17, q18, q8, q23, q24⟩
      simp only [q1, q5, q6, q8, q23, q24, vInt_lss, ob_some]
      refine cnd_d (fun hkl => ?_) (fun hkg => ?_)
      · have b1 := cellW_le true hw46 (at_ 0 l (i : Int)) k hk6
        have b2 := cellW_le false hw46 (at_ 0 l (i : Int)) k hk6
        refine ob_i ((hp.le le3).ldn rfl) ?_
        refine C.impl_Gas_goes hw46 (by omega) hkl (fun H4 le4 => ?_)
        have w1 := way_le true hw46 hkl
        have w2 := way_le false hw46 hkl
        have sm := shr_small hcell.1 hcell.2 k
        have e1 : -1 ≤ at_ 0 l (i : Int) / 2 ^ k % 2 * way true w k ∧ at_ 0 l (i : Int) / 2 ^ k % 2 * way true w k ≤ 1 := by rcases bit_or (at_ 0 l (i : Int)) k with e | e <;> rw [e] <;> omega
        have e2 : -1 ≤ at_ 0 l (i : Int) / 2 ^ k % 2 * way false w k ∧ at_ 0 l (i : Int) / 2 ^ k % 2 * way false w k ≤ 1 := by rcases bit_or (at_ 0 l (i : Int)) k with e | e <;> rw [e] <;> omega
        simp only [EV]
        rw [vInt_shr (by omega) (by omega), ob_some, Int.toNat_natCast, vInt_and1 sm.1 sm.2, ob_some, vInt_mul (by omega) (by omega), ob_some, vInt_add (by omega) (by omega), ob_some, ob_some, vInt_and1 sm.1 sm.2, ob_some, vInt_mul (by omega) (by omega), ob_some, vInt_add (by omega) (by omega), ob_some, vInt_add (by omega) (by omega), ob_some]
        refine nxt (w.toNat - (k + 1)) (by omega) ⟨k + 1, rfl, by omega, le3.trans le4, q1, ?_, ?_, q16, q17, q18, q8, q23, rfl⟩
        · show Value.int .i64 _ = _
          simp only [cellW]; congr 1; omega
        · show Value.int .i64 _ = _
          simp only [cellW]; congr 1; omega
      · have hkw : k = w.toNat := by omega
        refine hJ13 _ _ ⟨le3, q1, ?_, ?_, q16, q17, q18⟩
        · show σ 5 = _
          rw [q5, gasW_succ true w hlt', hkw]
        · show σ 6 = _
          rw [q6, gasW_succ false w hlt', hkw]
    · have hil : i = l.length := by omega
      subst hil
      rw [List.take_length] at g5 g6
      exact hJ7 _ _ ⟨g5, g6, le1.trans le2⟩
  · simp only [way1, way2, hv, if_false, decide_false] at hk
    simp only [hv, decide_false, EV]; exact hk _ le1
end Go.Proofs.Ytdfoobomlabffaa
