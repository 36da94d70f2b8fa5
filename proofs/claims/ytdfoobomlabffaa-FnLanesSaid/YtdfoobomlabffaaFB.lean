/- The mean speed of a lane: the program's and the reference's, and the law. -/
import Derived.Test.YtdfoobomlabffaaFA
namespace Go.Proofs.Ytdfoobomlabffaa
open HL
set_option maxRecDepth 100000
def spdS (l : List Int) : Int := (l.map fun x => if 0 ≤ x then x else 0).sum
def spdC (l : List Int) : Int := (l.map fun x => if 0 ≤ x then 1 else 0).sum
theorem spd_succ {l : List Int} {i : Nat} (h : i < l.length) : spdS (l.take (i + 1)) = spdS (l.take i) + (if 0 ≤ at_ 0 l (i : Int) then at_ 0 l (i : Int) else 0) ∧ spdC (l.take (i + 1)) = spdC (l.take i) + (if 0 ≤ at_ 0 l (i : Int) then 1 else 0) := by
  unfold spdS spdC
  rw [take_at 0 l h, List.map_append, List.map_append, List.sum_append, List.sum_append]; simp
theorem spd_le : ∀ {l : List Int}, (∀ x ∈ l, -1 ≤ x ∧ x ≤ 5) → 0 ≤ spdS l ∧ spdS l ≤ 5 * l.length ∧ 0 ≤ spdC l ∧ spdC l ≤ l.length
  | [], _ => by simp [spdS, spdC]
  | x :: r, h => by
    have h1 := spd_le (l := r) (fun y hy => h y (List.mem_cons_of_mem _ hy))
    have h2 := h x (by simp)
    simp only [spdS, spdC, List.map_cons, List.sum_cons, List.length_cons] at *
    split <;> omega
def spdOk (l : List Int) : Prop := isLane l ∧ spdC l ≠ 0
instance (l : List Int) : Decidable (spdOk l) := by unfold spdOk; infer_instance
def spdO (l : List Int) : Option Nat := if spdOk l then FloatKind.f32.format.div (FloatKind.f32.nearest (spdS l)) (FloatKind.f32.nearest (spdC l)) else some 0
theorem C.spec_LaneSpeed {a : Value} {l : List Int} {H : Hp} {K : Value → Hp → Prop} (ha : Sl eI H a l) (hl : l.length ≤ 9223372036854775807) (hk : ∀ x, FR .f32 (spdO l) x → K (.tuple #[.float .f32 x, .bool (decide (spdOk l))]) H) :
    HT prg I.spec_LaneSpeed [a].toArray H K := by
  refine R.spec_LaneSpeed ?_
  unfold F.spec_LaneSpeed
  have hbad : ¬ spdOk l → K (.tuple #[.float .f32 0, .bool false]) H := fun hn => by
    have h1 := hk 0 (by simp only [spdO, hn, if_false]; rfl)
    simpa only [hn, decide_false] using h1
  refine C.spec_l06Lane ha hl ?_
  rw [vUn_not, ob_some]
  by_cases hv : isLane l
  · simp only [hv, decide_true, EV]
    have h64 := hv.1
    refine jn_i (fun σ' H' => H' = H ∧ σ' 4 = .int .i64 (spdS l) ∧ σ' 5 = .int .i64 (spdC l)) (fun σ' H' hP => ?_) (fun J4 hJ4 => ?_)
    · obtain ⟨rfl, g4, g5⟩ := hP
      rw [g4, g5, vInt_eql, ob_some]
      refine cnd_d (fun h0 => hbad (fun h => h.2 h0)) (fun h0 => ?_)
      have hok : spdOk l := ⟨hv, h0⟩
      refine ob_i (a := .float .f32 (FloatKind.f32.nearest (spdS l))) rfl ?_
      refine ob_i (a := .float .f32 (FloatKind.f32.nearest (spdC l))) rfl ?_
      refine fA_i rfl (fun t => nan_bits32 _ _ t) (fun z hz => ?_)
      have h1 := hk z (by simp only [spdO, hok, if_true]; exact hz)
      simpa only [hok, decide_true] using h1
    refine ⟨fun n σ H1 => ∃ i : Nat, n = l.length - i ∧ i ≤ l.length ∧ H1 = H ∧ σ 0 = a ∧ σ 4 = .int .i64 (spdS (l.take i)) ∧ σ 5 = .int .i64 (spdC (l.take i)) ∧ σ 6 = .int .i64 i, ⟨_, 0, rfl, by omega, rfl, rfl, rfl, rfl, rfl⟩, ?_⟩
    rintro n σ H1 ⟨i, rfl, hi', rfl, g0, g4, g5, g6⟩
    simp only [g0, g6, ha.len, vInt_lss, ob_some]
    refine cnd_d (fun hlt => ?_) (fun hge => ?_)
    · have hlt' : i < l.length := by omega
      have b := spd_le (l := l.take i) (fun x hx => hv.2 x (List.mem_of_mem_take hx))
      have b3 : (l.take i).length ≤ 64 := by simp; omega
      have b2 := hv.2 _ (at_mem 0 l (i := (i : Int)) (by omega) hlt)
      have sc := spd_succ hlt'
      refine jn_i (fun σ' H' => H' = H1 ∧ σ' 0 = a ∧ σ' 4 = .int .i64 (spdS (l.take (i + 1))) ∧ σ' 5 = .int .i64 (spdC (l.take (i + 1))) ∧ σ' 6 = .int .i64 i) (fun σ' H' hP => ?_) (fun J13 hJ13 => ?_)
      · obtain ⟨rfl, z0, z4, z5, z6⟩ := hP
        rw [z6, vInt_add (by omega) (by omega), ob_some]
        exact nxt (l.length - (i + 1)) (by omega) ⟨i + 1, rfl, by omega, rfl, z0, z4, z5, rfl⟩
      rw [ha.ix (by omega) hlt, ob_some, ha.ld 0 (by omega) hlt, ob_some, vInt_geq, ob_some]
      refine cnd_d (fun hc => ?_) (fun hc => ?_)
      · rw [if_pos hc, if_pos hc] at sc
        rw [ob_some, ha.ld 0 (by omega) hlt, ob_some, g4, vInt_add (by omega) (by omega), ob_some, g5, vInt_add (by omega) (by omega), ob_some]
        refine hJ13 _ _ ⟨rfl, g0, ?_, ?_, g6⟩
        · show Value.int .i64 _ = _
          rw [sc.1]
        · show Value.int .i64 _ = _
          rw [sc.2]
      · rw [if_neg hc, if_neg hc] at sc
        refine hJ13 _ _ ⟨rfl, g0, ?_, ?_, g6⟩
        · show σ 4 = _
          rw [g4, sc.1]; simp
        · show σ 5 = _
          rw [g5, sc.2]; simp
    · rw [List.take_of_length_le (by omega)] at g4 g5
      exact hJ4 _ _ ⟨rfl, g4, g5⟩
  · simp only [hv, decide_false, EV]
    exact hbad (fun h => hv h.1)
theorem C.impl_LaneSpeed {a : Value} {l : List Int} {H : Hp} {K : Value → Hp → Prop} (ha : Sl eI H a l) (hl : l.length ≤ 9223372036854775807) (hk : ∀ x, FR .f32 (spdO l) x → K (.tuple #[.float .f32 x, .bool (decide (spdOk l))]) H) :
    HT prg I.impl_LaneSpeed [a].toArray H K := by
  refine R.impl_LaneSpeed ?_
  unfold F.impl_LaneSpeed
  have hbad : ¬ spdOk l → K (.tuple #[.float .f32 0, .bool false]) H := fun hn => by
    have h1 := hk 0 (by simp only [spdO, hn, if_false]; rfl)
    simpa only [hn, decide_false] using h1
  refine C.impl_IsLane ha hl ?_
  rw [vUn_not, ob_some]
  by_cases hv : isLane l
  · simp only [hv, decide_true, EV]
    have h64 := hv.1
    refine jn_i (fun σ' H' => H' = H ∧ σ' 4 = .int .i64 (spdS l) ∧ σ' 5 = .int .i64 (spdC l)) (fun σ' H' hP => ?_) (fun J4 hJ4 => ?_)
    · obtain ⟨rfl, g4, g5⟩ := hP
      rw [g4, g5, vInt_eql, ob_some]
      refine cnd_d (fun h0 => hbad (fun h => h.2 h0)) (fun h0 => ?_)
      have hok : spdOk l := ⟨hv, h0⟩
      refine ob_i (a := .float .f32 (FloatKind.f32.nearest (spdS l))) rfl ?_
      refine ob_i (a := .float .f32 (FloatKind.f32.nearest (spdC l))) rfl ?_
      refine fA_i rfl (fun t => nan_bits32 _ _ t) (fun z hz => ?_)
      have h1 := hk z (by simp only [spdO, hok, if_true]; exact hz)
      simpa only [hok, decide_true] using h1
    rw [ha.len, ob_some]
    refine ⟨fun n σ H1 => ∃ i : Nat, n = l.length - i ∧ i ≤ l.length ∧ H1 = H ∧ σ 11 = a ∧ σ 12 = .int .i64 l.length ∧ σ 4 = .int .i64 (spdS (l.take i)) ∧ σ 5 = .int .i64 (spdC (l.take i)) ∧ σ 13 = .int .i64 i, ⟨_, 0, rfl, by omega, rfl, rfl, rfl, rfl, rfl, rfl⟩, ?_⟩
    rintro n σ H1 ⟨i, rfl, hi', rfl, g11, g12, g4, g5, g13⟩
    simp only [g11, g12, g13, vInt_lss, ob_some]
    refine cnd_d (fun hlt => ?_) (fun hge => ?_)
    · have hlt' : i < l.length := by omega
      have b := spd_le (l := l.take i) (fun x hx => hv.2 x (List.mem_of_mem_take hx))
      have b3 : (l.take i).length ≤ 64 := by simp; omega
      have b2 := hv.2 _ (at_mem 0 l (i := (i : Int)) (by omega) hlt)
      have sc := spd_succ hlt'
      refine jn_i (fun σ' H' => H' = H1 ∧ σ' 11 = a ∧ σ' 12 = .int .i64 l.length ∧ σ' 4 = .int .i64 (spdS (l.take (i + 1))) ∧ σ' 5 = .int .i64 (spdC (l.take (i + 1))) ∧ σ' 13 = .int .i64 i) (fun σ' H' hP => ?_) (fun J13 hJ13 => ?_)
      · obtain ⟨rfl, z11, z12, z4, z5, z13⟩ := hP
        rw [z13, vInt_add (by omega) (by omega), ob_some]
        exact nxt (l.length - (i + 1)) (by omega) ⟨i + 1, rfl, by omega, rfl, z11, z12, z4, z5, rfl⟩
      rw [ha.ix (by omega) hlt, ob_some, ha.ld 0 (by omega) hlt, ob_some, vInt_geq, ob_some]
      refine cnd_d (fun hc => ?_) (fun hc => ?_)
      · rw [if_pos hc, if_pos hc] at sc
        rw [g4, vInt_add (by omega) (by omega), ob_some, g5, vInt_add (by omega) (by omega), ob_some]
        refine hJ13 _ _ ⟨rfl, g11, g12, ?_, ?_, g13⟩
        · show Value.int .i64 _ = _
          rw [sc.1]
        · show Value.int .i64 _ = _
          rw [sc.2]
      · rw [if_neg hc, if_neg hc] at sc
        refine hJ13 _ _ ⟨rfl, g11, g12, ?_, ?_, g13⟩
        · show σ 4 = _
          rw [g4, sc.1]; simp
        · show σ 5 = _
          rw [g5, sc.2]; simp
    · rw [List.take_of_length_le (by omega)] at g4 g5
      exact hJ4 _ _ ⟨rfl, g4, g5⟩
  · simp only [hv, decide_false, EV]
    exact hbad (fun h => hv h.1)
theorem L.FnExactLaneSpeed {a : Value} {l : List Int} {H : Hp} {K : Value → Hp → Prop} (ha : Sl eI H a l) (hl : l.length ≤ 9223372036854775807) (hk : ∀ H', Le H H' → K (.bool true) H') :
    HT prg I.laws_FnExactLaneSpeed [a].toArray H K := by
  refine R.laws_FnExactLaneSpeed ?_
  unfold F.laws_FnExactLaneSpeed
  rw [ha.len, ob_some, vInt_gtr, ob_some]
  refine cnd_d (fun _ => hk H (Le.refl H)) (fun hs => ?_)
  have hl2 : l.length ≤ 17592186044416 := by omega
  refine C.laws_toInt64S ha hl2 (fun v1 H1 o1 n1 le1 => ?_)
  refine C.spec_LaneSpeed o1.sl hl (fun x hx => ?_)
  simp only [EV]
  refine C.laws_toInt64S (ha.le le1) hl2 (fun v2 H2 o2 n2 le2 => ?_)
  refine C.impl_LaneSpeed o2.sl hl (fun y hy => ?_)
  simp only [EV]
  refine fC_pair hy hx (fun p q hpq => ?_)
  refine C.laws_sameFloat hpq ?_
  simp only [EV]
  refine C.laws_toInt64S (ha.le (le1.trans le2)) hl2 (fun v3 H3 o3 n3 le3 => ?_)
  refine C.laws_eqInt64S (o2.sl.le le3) o3.sl hl ?_
  rw [decide_eq_true rfl]
  simp only [EV]
  exact hk _ ((le1.trans le2).trans le3)
end Go.Proofs.Ytdfoobomlabffaa
