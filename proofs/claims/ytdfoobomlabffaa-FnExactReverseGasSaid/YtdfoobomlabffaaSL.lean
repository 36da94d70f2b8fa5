/- How many particles a gas has. -/
import Derived.Test.YtdfoobomlabffaaSK
namespace Go.Proofs.Ytdfoobomlabffaa
open HL
set_option maxRecDepth 100000
/-- How many binary digits of a small number are 1. -/
def pop (x : Int) : Int := x % 2 + x / 2 % 2 + x / 4 % 2 + x / 8 % 2 + x / 16 % 2 + x / 32 % 2
theorem pop_le {x : Int} : 0 ≤ pop x ∧ pop x ≤ 6 := by unfold pop; omega
theorem pop_half {x : Int} (h0 : 0 ≤ x) (h1 : x ≤ 63) : pop x = x % 2 + pop (x / 2) := by unfold pop; omega
theorem ob_bind {a : Option Value} {f : Value → Option Value} {K : Value → Prop} : ob (a.bind f) K = ob a (fun v => ob (f v) K) := by cases a <;> rfl
--@ C.spec_l06Ones needs spec_l06Ones
theorem C.spec_l06Ones {x : Int} {H : Hp} {K : Value → Hp → Prop} (h0 : 0 ≤ x) (h1 : x ≤ 63) (hk : K (.int .i64 (pop x)) H) : HT prg I.spec_l06Ones [.int .i64 x].toArray H K := by
  refine R.spec_l06Ones ?_
  unfold F.spec_l06Ones jn; dsimp only
  refine ⟨fun n σ H1 => ∃ y z : Int, n = y.toNat ∧ 0 ≤ y ∧ y ≤ 63 ∧ 0 ≤ z ∧ z ≤ 64 ∧ z + pop y = pop x ∧ H1 = H ∧ σ 0 = .int .i64 y ∧ σ 3 = .int .i64 z, ⟨_, x, 0, rfl, h0, h1, by omega, by omega, by omega, rfl, rfl, rfl⟩, ?_⟩
  rintro n σ H1 ⟨y, z, rfl, hy0, hy1, hz0, hz1, he, rfl, g0, g3⟩
  simp only [g0, g3, vInt_gtr, ob_some]
  refine cnd_d (fun hgt => ?_) (fun hle => ?_)
  · have e1 : y.tmod 2 = y % 2 := Int.tmod_eq_emod_of_nonneg hy0
    have e2 : y.tdiv 2 = y / 2 := Int.tdiv_eq_ediv_of_nonneg hy0
    have e3 := pop_half hy0 hy1
    have e4 := @pop_le (y / 2)
    have e5 := @pop_le x
    rw [vInt_rem (by omega), ob_some, e1, vInt_add (by omega) (by omega), ob_some, vInt_quo (by omega) (by omega) (by omega), ob_some, e2]
    exact nxtw (y / 2).toNat (by omega) ⟨y / 2, z + y % 2, rfl, by omega, by omega, by omega, by omega, by omega, rfl, rfl, rfl⟩
  · have : y = 0 := by omega
    subst this
    have : pop 0 = 0 := rfl
    refine retK (K := K) (v' := .int .i64 (pop x)) ?_ hk
    show σ 3 = _
    rw [g3]; congr 1; omega
--@ C.math_bits_OnesCount64 needs math_bits_OnesCount64
def onesV (a0 : Value) : Option Value :=
  (vInt .shr a0 (.int .u64 1)).bind fun v4 => (vInt .and v4 (.int .u64 6148914691236517205)).bind fun v5 => (vInt .and a0 (.int .u64 6148914691236517205)).bind fun v7 => (vInt .add v5 v7).bind fun v8 =>
  (vInt .shr v8 (.int .u64 2)).bind fun v10 => (vInt .and v10 (.int .u64 3689348814741910323)).bind fun v11 => (vInt .and v8 (.int .u64 3689348814741910323)).bind fun v13 => (vInt .add v11 v13).bind fun v14 =>
  (vInt .shr v14 (.int .u64 4)).bind fun v16 => (vInt .add v16 v14).bind fun v18 => (vInt .and v18 (.int .u64 1085102592571150095)).bind fun v19 => (vInt .shr v19 (.int .u64 8)).bind fun v22 => (vInt .add v19 v22).bind fun v23 =>
  (vInt .shr v23 (.int .u64 16)).bind fun v26 => (vInt .add v23 v26).bind fun v27 => (vInt .shr v27 (.int .u64 32)).bind fun v30 => (vInt .add v27 v30).bind fun v31 => (vCI .i64 v31).bind fun v33 => vInt .and v33 (.int .i64 127)
def onesOk (n : Nat) : Bool := match onesV (.int .u64 n) with | some (.int .i64 m) => m == pop n | _ => false
theorem ones_all : (List.range 64).all onesOk = true := by decide +kernel
theorem onesV_eq {n : Nat} (h : n < 64) : onesV (.int .u64 n) = some (.int .i64 (pop n)) := by
  have := List.all_eq_true.mp ones_all n (by simpa using h)
  unfold onesOk at this
  split at this
  · rename_i m hm; rw [hm]; simp at this; rw [this]
  · simp at this
theorem C.math_bits_OnesCount64 {x : Int} {H : Hp} {K : Value → Hp → Prop} (h0 : 0 ≤ x) (h1 : x ≤ 63) (hk : K (.int .i64 (pop x)) H) : HT prg I.math_bits_OnesCount64 [.int .u64 x].toArray H K := by
  refine R.math_bits_OnesCount64 ?_
  have e : F.math_bits_OnesCount64 (.int .u64 x) H K = ob (onesV (.int .u64 x)) (fun v => K v H) := by
    unfold F.math_bits_OnesCount64 onesV
    simp only [ob_bind]
  rw [e]
  obtain ⟨n, rfl⟩ := Int.eq_ofNat_of_zero_le h0
  rw [onesV_eq (by omega), ob_some]
  exact hk
def gasCount (l : List Int) : Int := (l.map pop).sum
theorem gasCount_succ {l : List Int} {i : Nat} (h : i < l.length) : gasCount (l.take (i + 1)) = gasCount (l.take i) + pop (at_ 0 l (i : Int)) := by
  unfold gasCount
  rw [take_at 0 l h, List.map_append, List.sum_append]; simp
theorem gasCount_le : ∀ (l : List Int), 0 ≤ gasCount l ∧ gasCount l ≤ 6 * l.length
  | [] => by simp [gasCount]
  | x :: r => by
    have := gasCount_le r
    have := @pop_le x
    simp only [gasCount, List.map_cons, List.sum_cons, List.length_cons] at *
    omega
theorem validGas_len {w r c : Int} {l : List Int} {m : List Bool} (h : validGas w r c l m) : l.length ≤ 256 := by
  have := sides_mul h.2.1
  have := h.2.2.1
  omega
theorem validGas_cell {w r c : Int} {l : List Int} {m : List Bool} (h : validGas w r c l m) {i : Nat} (hi : i < l.length) : 0 ≤ at_ 0 l (i : Int) ∧ at_ 0 l (i : Int) ≤ 63 := by
  have := h.2.2.2.2 _ (at_mem 0 l (i := (i : Int)) (by omega) (by omega))
  split at this <;> omega
/-- What CountGas says. -/
def countOf (w r c : Int) (l : List Int) (m : List Bool) : Int := if validGas w r c l m then gasCount l else 0
--@ C.spec_CountGas needs spec_CountGas C.spec_l06Is C.spec_l06Ones
theorem C.spec_CountGas {vc vw : Value} {w r c : Int} {l : List Int} {m : List Bool} {H : Hp} {K : Value → Hp → Prop} (hc : Sl eI H vc l) (hw : Sl eB H vw m)
    (k1 : l.length ≤ 9223372036854775807) (_ : m.length ≤ 9223372036854775807) (hk : ∀ H', Le H H' → K (.tuple #[.int .i64 (countOf w r c l m), .bool (decide (validGas w r c l m))]) H') :
    HT prg I.spec_CountGas [.agg #[.int .i64 w, .int .i64 r, .int .i64 c, vc, vw]].toArray H K := by
  refine R.spec_CountGas ?_
  unfold F.spec_CountGas
  refine nw_i (fun p H1 hp np le1 => ?_)
  replace hk := hk H1 le1
  replace hc := hc.le le1
  replace hw := hw.le le1
  refine C.spec_l06Is hp hc hw k1 ?_
  rw [vUn_not, ob_some]
  by_cases hv : validGas w r c l m
  · simp only [countOf, hv, if_true, decide_true] at hk
    simp only [hv, decide_true, EV]
    have hlen := validGas_len hv
    unfold jn; dsimp only
    refine ⟨fun n σ H2 => ∃ i : Nat, n = l.length - i ∧ i ≤ l.length ∧ H2 = H1 ∧ σ 1 = p ∧ σ 4 = .int .i64 (gasCount (l.take i)) ∧ σ 5 = .int .i64 i, ⟨_, 0, rfl, by omega, rfl, rfl, rfl, rfl⟩, ?_⟩
    rintro n σ H2 ⟨i, rfl, hi', rfl, g1, g4, g5⟩
    simp only [g1, g4, g5, hp.fa, hp.ld 3 rfl, hc.len, vInt_lss, ob_some]
    refine cnd_d (fun hlt => ?_) (fun hge => ?_)
    · have hlt' : i < l.length := by omega
      rw [hc.ix (by omega) hlt, ob_some, hc.ld 0 (by omega) hlt, ob_some]
      have hcell := validGas_cell hv hlt'
      refine C.spec_l06Ones hcell.1 hcell.2 ?_
      have a1 := gasCount_le (l.take i)
      have a2 := @pop_le (at_ 0 l (i : Int))
      have a3 : (l.take i).length ≤ 256 := by simp; omega
      rw [vInt_add (by omega) (by omega), ob_some, vInt_add (by omega) (by omega), ob_some, ← gasCount_succ hlt']
      exact nxt (l.length - (i + 1)) (by omega) ⟨i + 1, rfl, by omega, rfl, g1, rfl, rfl⟩
    · refine retK (K := K) (v' := .tuple #[.int .i64 (gasCount l), .bool true]) ?_ hk
      show Value.tuple #[σ 4, .bool true] = _
      rw [g4, List.take_of_length_le (by omega)]
  · simp only [countOf, hv, if_false, decide_false] at hk
    simp only [hv, decide_false, EV]; exact hk
--@ C.impl_CountGas needs impl_CountGas C.impl_ValidGas C.math_bits_OnesCount64
theorem C.impl_CountGas {vc vw : Value} {w r c : Int} {l : List Int} {m : List Bool} {H : Hp} {K : Value → Hp → Prop} (hc : Sl eI H vc l) (hw : Sl eB H vw m)
    (k1 : l.length ≤ 9223372036854775807) (k2 : m.length ≤ 9223372036854775807) (hk : ∀ H', Le H H' → K (.tuple #[.int .i64 (countOf w r c l m), .bool (decide (validGas w r c l m))]) H') :
    HT prg I.impl_CountGas [.agg #[.int .i64 w, .int .i64 r, .int .i64 c, vc, vw]].toArray H K := by
  refine R.impl_CountGas ?_
  unfold F.impl_CountGas
  refine nw_i (fun p H1 hp np le1 => ?_)
  refine ob_i (hp.ldn rfl) ?_
  refine C.impl_ValidGas (hc.le le1) (hw.le le1) k1 k2 (fun H2 le2 => ?_)
  replace hp := hp.le le2
  replace hk := hk H2 (le1.trans le2)
  replace hc := hc.le (le1.trans le2)
  rw [vUn_not, ob_some]
  by_cases hv : validGas w r c l m
  · simp only [countOf, hv, if_true, decide_true] at hk
    simp only [hv, decide_true, EV]
    have hlen := validGas_len hv
    unfold jn; dsimp only
    simp only [hp.fa, hp.ld 3 rfl, hc.len, ob_some]
    refine ⟨fun n σ H3 => ∃ i : Nat, n = l.length - i ∧ i ≤ l.length ∧ H3 = H2 ∧ σ 11 = vc ∧ σ 12 = .int .i64 l.length ∧ σ 4 = .int .i64 (gasCount (l.take i)) ∧ σ 13 = .int .i64 i, ⟨_, 0, rfl, by omega, rfl, rfl, rfl, rfl, rfl⟩, ?_⟩
    rintro n σ H3 ⟨i, rfl, hi', rfl, g11, g12, g4, g13⟩
    simp only [g11, g12, g4, g13, vInt_lss, ob_some]
    refine cnd_d (fun hlt => ?_) (fun hge => ?_)
    · have hlt' : i < l.length := by omega
      rw [hc.ix (by omega) hlt, ob_some, hc.ld 0 (by omega) hlt, ob_some]
      have hcell := validGas_cell hv hlt'
      rw [vCI_u64 (by omega) (by omega), ob_some]
      refine C.math_bits_OnesCount64 hcell.1 hcell.2 ?_
      have a1 := gasCount_le (l.take i)
      have a2 := @pop_le (at_ 0 l (i : Int))
      have a3 : (l.take i).length ≤ 256 := by simp; omega
      rw [vInt_add (by omega) (by omega), ob_some, vInt_add (by omega) (by omega), ob_some, ← gasCount_succ hlt']
      exact nxt (l.length - (i + 1)) (by omega) ⟨i + 1, rfl, by omega, rfl, g11, g12, rfl, rfl⟩
    · refine retK (K := K) (v' := .tuple #[.int .i64 (gasCount l), .bool true]) ?_ hk
      show Value.tuple #[σ 4, .bool true] = _
      rw [g4, List.take_of_length_le (by omega)]
  · simp only [countOf, hv, if_false, decide_false] at hk
    simp only [hv, decide_false, EV]; exact hk
end Go.Proofs.Ytdfoobomlabffaa
