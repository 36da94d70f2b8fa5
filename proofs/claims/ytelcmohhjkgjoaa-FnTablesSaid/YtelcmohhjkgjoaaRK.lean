/- Kept sums, by plain law. -/
import Derived.Test.YtelcmohhjkgjoaaRN
namespace Go.Proofs.Ytelcmohhjkgjoaa
open HL
set_option maxRecDepth 100000
theorem numL_app (b : Int) (l m : List Int) : numL b (l ++ m) = m.foldl (fun a d => a * b + d) (numL b l) := by simp [numL]
theorem numL_zeros (b : Int) (n : Nat) (l : List Int) : numL b (List.replicate n 0 ++ l) = numL b l := by
  have e : numL b (List.replicate n 0) = 0 := by
    induction n with
    | zero => rfl
    | succ n ih => rw [List.replicate_succ', numL_snoc, ih]; simp
  rw [numL_app, e]; rfl
/-- What a neighbourhood becomes that begins with zeros. -/
def zrN (st : Int) (T row : List Int) : Int := at_ 0 T (numL st row)
theorem zr_ix {st rc : Int} {T row : List Int} (h : ruleP st rc T) (hr : ∀ x ∈ row, 0 ≤ x ∧ x ≤ st - 1) (hl : (row.length : Int) ≤ 2 * rc + 1) : 0 ≤ numL st row ∧ numL st row < T.length := by
  have b := numL_bnd (b := st) (by have := h.1; omega) hr
  refine ⟨b.1, ?_⟩
  rw [h.2.2.1]
  have e : (2 * rc + 1).toNat = row.length + ((2 * rc + 1).toNat - row.length) := by omega
  unfold pwr
  rw [e, Int.pow_add]
  have p1 := (pow_bnd (b := st) (by have := h.1; omega) (by have := h.1; omega) ((2 * rc + 1).toNat - row.length)).1
  have p2 := (pow_bnd (b := st) (by have := h.1; omega) (by have := h.1; omega) row.length).1
  have := Int.mul_le_mul_of_nonneg_left p1 (show (0 : Int) ≤ st ^ row.length by omega)
  omega
theorem zrN_in {st rc : Int} {T row : List Int} (h : ruleP st rc T) (hr : ∀ x ∈ row, 0 ≤ x ∧ x ≤ st - 1) (hl : (row.length : Int) ≤ 2 * rc + 1) : 0 ≤ zrN st T row ∧ zrN st T row ≤ st - 1 := by
  have b := zr_ix h hr hl
  exact h.2.2.2 _ (at_mem 0 T b.1 b.2)
/-- The sum that a neighbourhood should lead to, n terms of it. -/
def kpS (st rc : Int) (T d : List Int) : Nat → Int
  | 0 => at_ 0 d 0
  | n + 1 => kpS st rc T d n + (zrN st T ((d.drop 1).take (2 * rc - (n : Int)).toNat) - zrN st T (d.take (2 * rc - (n : Int)).toNat))
theorem kpS_bnd {st rc : Int} {T d : List Int} (h : ruleP st rc T) (hr : ∀ x ∈ d, 0 ≤ x ∧ x ≤ st - 1) (hl : 0 < d.length) : ∀ n : Nat, -2 * (n : Int) ≤ kpS st rc T d n ∧ kpS st rc T d n ≤ 2 + 2 * (n : Int)
  | 0 => by
    have := hr _ (at_mem 0 d (i := 0) (by omega) (by omega))
    have := h.1
    simp only [kpS]; omega
  | n + 1 => by
    have ih := kpS_bnd h hr hl n
    have a := zrN_in h (row := (d.drop 1).take (2 * rc - (n : Int)).toNat) (take_in (drop_in hr)) (by rw [List.length_take]; have := h.2.1; omega)
    have c := zrN_in h (row := d.take (2 * rc - (n : Int)).toNat) (take_in hr) (by rw [List.length_take]; have := h.2.1; omega)
    have := h.1
    simp only [kpS]; omega
/-- A rule keeps the sum. -/
def keepP (st rc : Int) (T : List Int) : Prop := ∀ h : Nat, h < T.length → kpS st rc T (digL (h : Int) st (2 * rc + 1).toNat) (2 * rc).toNat = at_ 0 T (h : Int)
instance (st rc : Int) (T : List Int) : Decidable (keepP st rc T) := by unfold keepP; infer_instance
/-- How often there is a one. -/
def onesF (l : List Int) : Nat → Int
  | 0 => 0
  | n + 1 => onesF l n + (if at_ 0 l (n : Int) = 1 then 1 else 0)
def onesL (l : List Int) : Int := onesF l l.length
theorem onesF_bnd (l : List Int) : ∀ n : Nat, 0 ≤ onesF l n ∧ onesF l n ≤ n
  | 0 => by simp [onesF]
  | n + 1 => by
    have ih := onesF_bnd l n
    simp only [onesF]; split <;> omega
theorem onesF_t {l : List Int} {n : Nat} (h : at_ 0 l (n : Int) = 1) : onesF l n + 1 = onesF l (n + 1) := by simp only [onesF]; rw [if_pos h]
theorem onesF_f {l : List Int} {n : Nat} (h : ¬ at_ 0 l (n : Int) = 1) : onesF l n = onesF l (n + 1) := by simp only [onesF]; rw [if_neg h]; omega
/-- A rule keeps how often there is a one. -/
def kcP (st rc : Int) (T : List Int) (n : Int) : Prop := ∀ k : Nat, k < (pwr st n).toNat → onesL (digL (k : Int) st n.toNat) = onesL (stpL st rc T (digL (k : Int) st n.toNat))
instance (st rc : Int) (T : List Int) (n : Int) : Decidable (kcP st rc T n) := by unfold kcP; infer_instance
/-- What flows, by an end's digits, n terms of it. -/
def flS (st rc : Int) (T row : List Int) : Nat → Int
  | 0 => numL 1 (row.take rc.toNat)
  | n + 1 => flS st rc T row n - zrN st T (row.take (2 * rc - (n : Int)).toNat)
def flwF (st rc : Int) (T : List Int) (n : Nat) : List Int := (List.range n).map fun (i : Nat) => flS st rc T (digL (i : Int) st (2 * rc).toNat) (2 * rc).toNat
def flwL (st rc : Int) (T : List Int) : List Int := flwF st rc T (pwr st (2 * rc)).toNat
theorem flwF_len (st rc : Int) (T : List Int) (n : Nat) : (flwF st rc T n).length = n := by simp [flwF]
theorem flwF_succ (st rc : Int) (T : List Int) (n : Nat) : flwF st rc T n ++ [flS st rc T (digL (n : Int) st (2 * rc).toNat) (2 * rc).toNat] = flwF st rc T (n + 1) := by simp [flwF, List.range_succ]
theorem sum_bnd {l : List Int} {m : Int} (hr : ∀ x ∈ l, 0 ≤ x ∧ x ≤ m) : 0 ≤ numL 1 l ∧ numL 1 l ≤ m * (l.length : Int) := by
  have key : ∀ n, n ≤ l.length → 0 ≤ numL 1 (l.take n) ∧ numL 1 (l.take n) ≤ m * (n : Int) := by
    intro n
    induction n with
    | zero => intro _; simp [numL]
    | succ n ih =>
      intro hn
      have := ih (by omega)
      have e := numL_take (b := 1) (l := l) (i := n) (by omega)
      have := hr _ (at_mem 0 l (i := (n : Int)) (by omega) (by omega))
      rw [e, Int.natCast_add, Int.mul_add]
      omega
  have := key l.length (Nat.le_refl _)
  rwa [List.take_length] at this
theorem flS_bnd {st rc : Int} {T row : List Int} (h : ruleP st rc T) (hr : ∀ x ∈ row, 0 ≤ x ∧ x ≤ st - 1) : ∀ n : Nat, -2 * (n : Int) ≤ flS st rc T row n ∧ flS st rc T row n ≤ 4
  | 0 => by
    have a := sum_bnd (m := 2) (l := row.take rc.toNat) (fun x hx => by have := take_in (n := rc.toNat) hr x hx; have := h.1; omega)
    have : (row.take rc.toNat).length ≤ 2 := by rw [List.length_take]; have := h.2.1; omega
    simp only [flS]; omega
  | n + 1 => by
    have ih := flS_bnd h hr n
    have c := zrN_in h (row := row.take (2 * rc - (n : Int)).toNat) (take_in hr) (by rw [List.length_take]; have := h.2.1; omega)
    have := h.1
    simp only [flS]; omega
/-- The program's and the reference's bits. -/
theorem HL.vInt_shrN {k : IntKind} {a w : Int} (h0 : 0 ≤ w) (h1 : w ≤ 63) : vInt .shr (.int .i64 a) (.int k w) = some (.int .i64 (a / 2 ^ w.toNat)) := by
  simp only [vInt]
  rw [if_pos h0, show min w.toNat IntKind.i64.bits = w.toNat by simp [IntKind.bits]; omega, Int.fdiv_eq_ediv_of_nonneg _ (Int.pow_nonneg (by omega))]
theorem HL.vInt_and1 {a : Int} (h0 : 0 ≤ a) (h1 : a < 9223372036854775808) : vInt .and (.int .i64 a) (.int .i64 1) = some (.int .i64 (a % 2)) := by
  obtain ⟨n, rfl⟩ := Int.eq_ofNat_of_zero_le h0
  have e : (BitVec.ofInt 64 (n : Int) &&& BitVec.ofInt 64 1).toNat = n % 2 := by
    have e1 : BitVec.ofInt 64 (n : Int) = BitVec.ofNat 64 n := BitVec.ofInt_natCast 64 n
    have e2 : BitVec.ofInt 64 1 = BitVec.ofNat 64 1 := rfl
    rw [e1, e2, BitVec.toNat_and, BitVec.toNat_ofNat, BitVec.toNat_ofNat, Nat.mod_eq_of_lt (by omega), Nat.mod_eq_of_lt (by omega), Nat.and_one_is_mod]
  simp only [vInt, if_true]
  show some (Value.int .i64 (IntKind.i64.wrap ((BitVec.ofInt 64 (n : Int) &&& BitVec.ofInt 64 1).toNat : Int))) = _
  rw [e, wrap64 (by omega) (by omega)]; rfl
theorem HL.vInt_addU64 {a b : Int} (h0 : 0 ≤ a + b) (h1 : a + b < 18446744073709551616) : vInt .add (.int .u64 a) (.int .u64 b) = some (.int .u64 (a + b)) := by
  have : IntKind.u64.wrap (a + b) = a + b := by unfold IntKind.wrap; simp [IntKind.signed, IntKind.bits]; omega
  simp only [vInt, if_true, this]
theorem kpS_step {st rc : Int} {T d : List Int} {n a b : Nat} (ha : a = (2 * rc - (n : Int)).toNat) (hb : b = (2 * rc - (n : Int)).toNat) : kpS st rc T d n + (zrN st T ((d.drop (1 : Int).toNat).take a) - zrN st T ((d.drop (0 : Int).toNat).take b)) = kpS st rc T d (n + 1) := by
  subst ha hb; rfl
theorem flS_step {st rc : Int} {T row : List Int} {n b : Nat} (hb : b = (2 * rc - (n : Int)).toNat) : flS st rc T row n - zrN st T ((row.drop (0 : Int).toNat).take b) = flS st rc T row (n + 1) := by
  subst hb; rfl
theorem ones_step {l : List Int} {i : Nat} (hi : i < l.length) : (at_ 0 l (((i : Int) + ((0 : Nat) : Int)) % (l.length : Int)) = at_ 0 [1] ((0 : Nat) : Int)) ↔ (0 + 1 = 0 ∨ at_ 0 l (i : Int) = 1) := by
  rw [Int.ofNat_zero, Int.add_zero, Int.emod_eq_of_lt (by omega) (by omega)]
  simp [show at_ 0 [1] 0 = (1 : Int) from rfl]
theorem Nw_put {H : Hp} {r n c : Nat} (hr : H r = none) : Nw H (.slice (some ⟨r, 0, none⟩) n c) := fun b hb => by
  simp only [bk] at hb
  split at hb
  · simp at hb
  · simp only [Option.some.injEq] at hb; subst hb; exact hr
theorem none_of_le {H H' : Hp} (hl : Le H H') {r : Nat} (hr : H' r = none) : H r = none := by
  cases e : H r with
  | none => rfl
  | some o => rw [hl r o e] at hr; simp at hr
/-- A slice that is made, and others behind it: a new one. -/
theorem mk_apd {n : Int} {e e' : TypeId} {w : Value} {m : List Int} {H : Hp} {K : Value → Hp → Prop} (h0 : 0 ≤ n) (h1 : n ≤ 1000) (hw : Sl eI H w m) (hm : m.length ≤ 1000)
    (hk : ∀ u H', Own eI H' u (List.replicate n.toNat 0 ++ m) → Nw H u → Le H H' → K u H') : mkS 1 8 #[.int .i64 0] e (.int .i64 n) (.int .i64 n) H fun v H1 => apd 1 8 #[.int .i64 0] e' v w H1 fun u H2 => Le H1 H2 ∧ K u H2 := by
  have F := (Own.mk_ (enc := eI) (z := (0 : Int)) (bytes := 8) (e := e) (k := .i64) (k' := .i64) (H := H) h0 (Int.le_refl n) (by omega) (by omega) (K := fun v H1 => Own eI H1 v (List.replicate n.toNat 0) ∧ Nw H v ∧ Le H H1) (fun v H' a b c => ⟨a, b, c⟩)).2.2.2.2
  refine ⟨h0, Int.le_refl _, by omega, by omega, fun r hr => ?_⟩
  have hF := F r hr
  simp only [show eI 0 = Value.int .i64 0 from rfl] at hF
  obtain ⟨o, nw, le⟩ := hF
  generalize hH : H.put r (.cells (if n.toNat * 1 = 0 then #[] else zrow #[.int .i64 0] (n.toNat * 1)) e) = H1 at o le ⊢
  have hw1 := hw.le le
  have hlo := hw1.lenO
  have hfo := hw1.firstC
  have hlf := o.sl.firstC
  by_cases hm0 : m.length = 0
  · have : m = [] := List.length_eq_zero_iff.mp hm0
    subst this
    have hf0 : firstC H1 1 0 w = some [] := by simpa using hfo
    simp only [HL.apd, hlo, List.length_nil, Nat.add_zero, Nat.le_refl, if_true, hf0, stC]
    exact ⟨Le.refl _, hk _ _ (Own.cast (by simp) o) nw le⟩
  · have A := o.apd (bytes := 8) (z := .int .i64 0) (e := e') hw1 (fun x => rfl) (by simp; omega) (fun c hc => by
      have := nsc_le hc
      exact Nat.le_trans (Nat.mul_le_mul this (Nat.le_refl 8)) (by simp; omega)) (K := fun u H2 => Own eI H2 u (List.replicate n.toNat 0 ++ m)) (fun v' H' a _ _ => a)
    simp only [List.length_replicate] at hlf
    simp only [HL.apd, hlo, hfo] at A ⊢
    rw [if_neg (by omega)] at A ⊢
    obtain ⟨a1, a2, a3⟩ := A
    refine ⟨a1, a2, ?_⟩
    rw [hlf] at a3 ⊢
    exact fun c' c1 c2 r' hr' => ⟨Le.put _ hr', hk _ _ (a3 c' c1 c2 r' hr') (Nw_put (none_of_le le hr')) (le.trans (Le.put _ hr'))⟩
end Go.Proofs.Ytelcmohhjkgjoaa
