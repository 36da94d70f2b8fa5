/- Copies from slice to slice; slices of one thing many times. -/
import Derived.Test.YtdfoobomlabffaaSE
import Derived.Test.YtdfoobomlabffaaSN
namespace Go.Proofs.Ytdfoobomlabffaa
open HL
set_option maxRecDepth 100000
namespace HL
theorem Sl.firstN {α : Type} {enc : α → Value} {H : Hp} {v : Value} {l : List α} (h : Sl enc H v l) {n : Nat} (hn : n ≤ l.length) : HL.firstC H 1 n v = some ((l.take n).map enc) := by
  obtain ⟨a, c, rfl, hc, hr⟩ := h
  cases a with
  | none =>
    have : l = [] := by
      cases l with
      | nil => rfl
      | cons x r => obtain ⟨ad, e, _⟩ := hr 0 (by simp); simp at e
    subst this
    have : n = 0 := by simpa using hn
    subst this
    rfl
  | some ad =>
    simp only [HL.firstC, Nat.mul_one]
    rw [rd_cells (enc := enc) ad n 0 (l.take n) (by simp; omega) (fun i hi => by
      simp only [List.length_take] at hi
      obtain ⟨ad', e, hh⟩ := hr i (by omega)
      simp only [Option.some.injEq] at e
      subst e
      rw [Nat.zero_add, hh, List.getElem_take])]
def isSl1 (P : Program) (t : TypeId) : Bool := match P.underlying t with | some (.slice e) => (match szO P e with | some 1 => true | _ => false) | _ => false
theorem isSl1_of {P : Program} {t : TypeId} (h : isSl1 P t = true) : ∃ e, P.underlying t = some (.slice e) ∧ szO P e = some 1 := by
  unfold isSl1 at h
  split at h
  · rename_i e he
    split at h
    · rename_i h1; exact ⟨e, he, h1⟩
    · simp at h
  · simp at h
theorem copy_i {α : Type} {enc : α → Value} {P : Program} {t t' ty : TypeId} {bs : Array Bool} {a : Addr} {dl dc : Nat} {src : Value} {m : List α} {H : Hp} {K : Value → Hp → Prop} (ht : isSl1 P t = true) (hm : Sl enc H src m)
    (h : stC a (fun H' => K (.int .i64 ((min m.length dl : Nat) : Int)) H') ((m.take (min m.length dl)).map enc) 0 H) : hp P (builtin .copy #[t, t'] ty bs [.slice (some a) dl dc, src].toArray) H (nextH P K) := by
  obtain ⟨e, ht, hn⟩ := isSl1_of ht
  have hl := hm.lenO
  have hf : HL.firstC H 1 (min m.length dl) src = some ((m.take (min m.length dl)).map enc) := hm.firstN (Nat.min_le_left _ _)
  unfold builtin
  simp only [hp_bind']
  unfold Builtin.copy_
  refine hp_val_bind P _ _ H _ _ (by rw [val_underlying]; exact ht) ?_
  simp only
  refine hp_val_bind P _ _ H _ _ (val_lenOf P H src _ hl) ?_
  refine hp_val_bind P _ _ H _ _ (by rw [val_sizeOf, hn]) ?_
  refine hp_val_bind P _ _ H _ _ (val_firstCells P H 1 _ src _ hf) ?_
  simp only
  rw [hp_bind']
  exact hp_mono P _ _ _ _ (fun _ _ hh => hh) (hp_storeCells P _ _ _ _ _ h)
theorem stC_run2 {K : Hp → Prop} {b : Nat} {e : TypeId} : ∀ (m : List Value) (ad : Addr) (i : Nat) (cs : Array Value) (H : Hp), ad.block = b → ad.spot = none → H b = some (.cells cs e (0, 0)) → ad.off + i + m.length ≤ cs.size →
    (∀ x ∈ m, oneCell x = true) →
    (∀ H' cs', H' b = some (.cells cs' e (0, 0)) → cs'.size = cs.size → (∀ j, j < ad.off + i → cs'[j]? = cs[j]?) → (∀ j (h : j < m.length), cs'[ad.off + i + j]? = some m[j]) → (∀ j, ad.off + i + m.length ≤ j → cs'[j]? = cs[j]?) → (∀ x, x ≠ b → H' x = H x) → K H') → stC ad K m i H
  | [], ad, i, cs, H, hb, hsp, hH, hs, ho, hk => hk H cs hH rfl (fun _ _ => rfl) (fun j h => absurd h (by simp)) (fun _ _ => rfl) (fun _ _ => rfl)
  | x :: m, ad, i, cs, H, hb, hsp, hH, hs, ho, hk => by
    obtain ⟨abk, aoff, asp⟩ := ad
    simp only at hb hsp hs hk
    subst hb hsp
    simp only [List.length_cons] at hs hk
    refine ⟨ho x (by simp), ?_, ?_, ?_⟩
    · simp only [Hp.cell?, add_none, hH]
      rw [Array.getElem?_eq_getElem (by omega)]; rfl
    · simp only [Hp.frozen?, add_none, hH]; simp
    · refine stC_run2 (b := abk) (e := e) m _ (i + 1) (cs.setIfInBounds (aoff + i) x) _ rfl rfl ?_ (by simp; omega) (fun y hy => ho y (by simp [hy])) ?_
      · simp only [Hp.setCell, add_none, hH, Hp.put_same]; rfl
      · intro H' cs' h1 h2 h3 h4 h6 h5
        refine hk H' cs' h1 (by simpa using h2) ?_ ?_ ?_ ?_
        · intro j hj
          rw [h3 j (by simp only; omega), Array.getElem?_setIfInBounds_ne (by omega)]
        · intro j hj
          cases j with
          | zero =>
            rw [Nat.add_zero, h3 _ (by simp only; omega), Array.getElem?_setIfInBounds_self_of_lt (by omega)]; rfl
          | succ j =>
            have := h4 j (by simpa using hj)
            simp only at this
            rw [show aoff + i + (j + 1) = aoff + (i + 1) + j by omega, this]; rfl
        · intro j hj
          rw [h6 j (by simp only; omega), Array.getElem?_setIfInBounds_ne (by omega)]
        · intro x' hx'
          rw [h5 x' hx']
          simp only [Hp.setCell, add_none, hH]
          rw [Hp.put_ne _ _ hx']
theorem Own.copyAt {α : Type} {enc : α → Value} {H : Hp} {ad : Addr} {len cap : Nat} {l m : List α} {n : Nat} {K : Hp → Prop} (h : Own enc H (.slice (some ad) len cap) l) (hn : n + m.length ≤ l.length) (hp : 0 < l.length) (ho : ∀ x, oneCell (enc x) = true)
    (hk : ∀ H', Own enc H' (.slice (some ad) len cap) (l.take n ++ m ++ l.drop (n + m.length)) → Off (.slice (some ad) len cap) H H' → K H') : stC (ad.add n) K (m.map enc) 0 H := by
  obtain ⟨a, c, e, hc, hr⟩ := h
  simp only [Value.slice.injEq] at e
  obtain ⟨rfl, rfl, rfl⟩ := e
  obtain ⟨b, off, cs, e, hab, hb, hs, hcs⟩ := hr (by omega)
  simp only [Option.some.injEq] at hab
  subst hab
  have hlen : (l.take n ++ m ++ l.drop (n + m.length)).length = l.length := by simp; omega
  refine stC_run2 (b := b) (e := e) (m.map enc) _ 0 cs H (by rw [add_none]) (by rw [add_none]) hb (by rw [add_none]; simp; omega) (fun x hx => by obtain ⟨y, _, rfl⟩ := List.mem_map.mp hx; exact ho y) ?_
  intro H' cs' h1 h2 h3 h4 h6 h5
  rw [add_none] at h3 h4 h6
  simp only [Nat.add_zero, List.length_map] at h3 h4 h6
  refine hk H' ⟨_, cap, by rw [hlen], by rw [hlen]; exact hc, fun _ => ⟨b, off, cs', e, rfl, h1, by omega, fun i hi => ?_⟩⟩ ?_
  · rw [hlen] at hi
    by_cases g1 : i < n
    · rw [h3 _ (by omega), hcs i hi]
      rw [List.getElem_append_left (by simp; omega), List.getElem_append_left (by simp; omega), List.getElem_take]
    · by_cases g2 : i < n + m.length
      · have g3 := h4 (i - n) (by omega)
        rw [show off + n + (i - n) = off + i by omega] at g3
        rw [g3, List.getElem_append_left (by simp; omega), List.getElem_append_right (by simp; omega)]
        simp [show min n l.length = n by omega]
      · have g4 : cs'[off + i]? = cs[off + i]? := h6 _ (by omega)
        rw [g4, hcs i hi, List.getElem_append_right (by simp; omega)]
        simp [show min n l.length = n by omega]
        congr 2; omega
  · intro x o hx hv
    simp only [bk] at hv
    rw [if_neg (by omega)] at hv
    rw [h5 x (by rintro rfl; exact hv rfl)]; exact hx
theorem wrapU {x : Int} (h : 0 ≤ x) (h' : x < 18446744073709551616) : IntKind.u64.wrap x = x := by
  unfold IntKind.wrap; simp [IntKind.signed, IntKind.bits]; omega
theorem vAndU {a : Int} (h0 : 0 ≤ a) (h1 : a < 4294967296) : vInt .and (.int .u64 a) (.int .u64 4294967295) = some (.int .u64 a) := by
  obtain ⟨n, rfl⟩ := Int.eq_ofNat_of_zero_le h0
  have e : (BitVec.ofInt 64 (n : Int) &&& BitVec.ofInt 64 4294967295).toNat = n := by
    have e1 : BitVec.ofInt 64 (n : Int) = BitVec.ofNat 64 n := BitVec.ofInt_natCast 64 n
    have e2 : BitVec.ofInt 64 4294967295 = BitVec.ofNat 64 4294967295 := rfl
    rw [e1, e2, BitVec.toNat_and, BitVec.toNat_ofNat, BitVec.toNat_ofNat, Nat.mod_eq_of_lt (by omega), Nat.mod_eq_of_lt (by omega)]
    exact Nat.and_two_pow_sub_one_of_lt_two_pow (n := 32) (by omega)
  simp only [vInt, if_true]
  show some (Value.int .u64 (IntKind.u64.wrap ((BitVec.ofInt 64 (n : Int) &&& BitVec.ofInt 64 4294967295).toNat : Int))) = _
  rw [e, wrapU h0 (by omega)]
theorem vShrU {a : Int} (h0 : 0 ≤ a) (h1 : a < 4294967296) : vInt .shr (.int .u64 a) (.int .u64 32) = some (.int .u64 0) := by
  simp only [vInt]
  rw [if_pos (by omega)]
  have : min (32 : Int).toNat IntKind.u64.bits = 32 := by decide
  rw [this, Int.fdiv_eq_ediv_of_nonneg _ (by decide), Int.ediv_eq_zero_of_lt h0 (by simpa using h1)]
theorem vMulU {a b : Int} (h0 : 0 ≤ a * b) (h1 : a * b < 18446744073709551616) : vInt .mul (.int .u64 a) (.int .u64 b) = some (.int .u64 (a * b)) := by
  simp only [vInt, if_true, wrapU h0 h1]
theorem vAddU {a b : Int} (h0 : 0 ≤ a + b) (h1 : a + b < 18446744073709551616) : vInt .add (.int .u64 a) (.int .u64 b) = some (.int .u64 (a + b)) := by
  simp only [vInt, if_true, wrapU h0 h1]
end HL
theorem C.math_bits_Mul64 {x y : Int} {H : Hp} {K : Value → Hp → Prop} (x0 : 0 ≤ x) (x1 : x < 65536) (y0 : 0 ≤ y) (y1 : y < 65536) (hk : K (.tuple #[.int .u64 0, .int .u64 (x * y)]) H) : HT prg I.math_bits_Mul64 [.int .u64 x, .int .u64 y].toArray H K := by
  have m0 : 0 ≤ x * y := Int.mul_nonneg x0 y0
  have m1 : x * y < 4294967296 := by
    have := Int.mul_le_mul (show x ≤ 65535 by omega) (show y ≤ 65535 by omega) y0 (by omega)
    omega
  refine R.math_bits_Mul64 ?_
  unfold F.math_bits_Mul64
  refine ob_i (vAndU x0 (by omega)) (ob_i (vShrU x0 (by omega)) (ob_i (vAndU y0 (by omega)) (ob_i (vShrU y0 (by omega)) (ob_i (vMulU m0 (by omega)) ?_))))
  refine ob_i (vMulU (a := 0) (b := y) (by omega) (by omega)) (ob_i (vShrU m0 m1) (ob_i (vAddU (by omega) (by omega)) ?_))
  refine ob_i (vAndU (by omega) (by omega)) (ob_i (vShrU (by omega) (by omega)) (ob_i (vMulU (a := x) (b := 0) (by omega) (by omega)) (ob_i (vAddU (by omega) (by omega)) ?_)))
  refine ob_i (vMulU (a := 0) (b := 0) (by omega) (by omega)) (ob_i (vAddU (by omega) (by omega)) (ob_i (vShrU (by omega) (by omega)) (ob_i (vAddU (by omega) (by omega)) (ob_i (vMulU m0 (by omega)) ?_))))
  rw [show (0 : Int) * 0 + 0 + 0 = 0 by omega]
  exact hk
theorem C.math_bits_Mul {x y : Int} {H : Hp} {K : Value → Hp → Prop} (x0 : 0 ≤ x) (x1 : x < 65536) (y0 : 0 ≤ y) (y1 : y < 65536) (hk : K (.tuple #[.int .u64 0, .int .u64 (x * y)]) H) : HT prg I.math_bits_Mul [.int .u64 x, .int .u64 y].toArray H K := by
  refine R.math_bits_Mul ?_
  unfold F.math_bits_Mul
  refine cnd_f1 ?_
  refine C.math_bits_Mul64 x0 x1 y0 y1 ?_
  rw [vExt_20, ob_some, vExt_21, ob_some]
  exact hk
theorem rep_step {a : Int} {i c : Nat} (hi : 1 ≤ i) (hc : i ≤ c) : (List.replicate i a ++ List.replicate (c - i) 0).take i ++ ((List.replicate i a).take (min i (c - i))) ++ (List.replicate i a ++ List.replicate (c - i) 0).drop (i + ((List.replicate i a).take (min i (c - i))).length) = List.replicate (i + min i (c - i)) a ++ List.replicate (c - (i + min i (c - i))) (0 : Int) := by
  rw [List.take_append_of_le_length (by simp), List.take_of_length_le (by simp), List.take_replicate, show min (min i (c - i)) i = min i (c - i) by omega, List.replicate_append_replicate, List.length_replicate, List.drop_append, List.drop_of_length_le (by simp), List.nil_append, List.length_replicate, List.drop_replicate]
  congr 2; omega
theorem C.slices_Repeat_int64Zint64 {va : Value} {l : List Int} {n : Int} {H : Hp} {K : Value → Hp → Prop} (hva0 : Sl eI H va l) (h1 : l.length = 1) (n0 : 1 ≤ n) (n1 : n ≤ 65535) (hk : ∀ u1 H', Own eI H' u1 (List.replicate n.toNat (at_ 0 l 0)) → Nw H u1 → Le H H' → K u1 H') :
    HT prg I.slices_Repeat_int64Zint64 [va, .int .i64 n].toArray H K := by
  obtain ⟨a, rfl⟩ : ∃ a, l = [a] := by
    match l, h1 with
    | [a], _ => exact ⟨a, rfl⟩
  refine R.slices_Repeat_int64Zint64 ?_
  unfold F.slices_Repeat_int64Zint64
  refine jn_i (fun σ' H' => σ' 0 = va ∧ σ' 1 = .int .i64 n ∧ H' = H) (fun σ1 H1 hP => ?_) (fun J1 hJ1 => ?_)
  · obtain ⟨g0, g1, rfl⟩ := hP
    refine ob_i (by rw [g0]; exact hva0.len) (ob_i (vCI_u64 (by simp) (by simp)) ?_)
    rw [g1]
    refine ob_i (vCI_u64 (by omega) (by omega)) ?_
    refine C.math_bits_Mul (by simp) (by simp) (by omega) (by omega) ?_
    rw [vExt_20, ob_some, vExt_21, ob_some, show (([a].length : Nat) : Int) * n = n by simp]
    refine jn_i (fun σ' H' => σ' 0 = va ∧ σ' 6 = .int .u64 n ∧ H' = H1) (fun σ2 H2 hP => ?_) (fun J2 hJ2 => ?_)
    · obtain ⟨g2, g6, rfl⟩ := hP
      rw [g6]
      refine ob_i (vCI_64 _ (by omega) (by omega)) ?_
      refine Own.mk_ (z := (0 : Int)) (by omega) (by omega) (by omega) (by omega) (fun u H3 ou nn le => ?_)
      obtain ⟨ad, cp, rfl⟩ : ∃ ad cp, u = .slice (some ad) n.toNat cp := by
        obtain ⟨x, c, rfl, hc, hr⟩ := ou
        obtain ⟨b, off, cs, e, rfl, _⟩ := hr (by simp at hc; omega)
        exact ⟨_, c, by rw [List.length_replicate]⟩
      rw [g2]
      refine copy_i (m := [a]) (by kernel_rfl) (hva0.le le) ?_
      rw [show min [a].length n.toNat = 1 by simp; omega]
      have e0 : ad.add 0 = ad := by unfold Addr.add; simp
      rw [← e0]
      refine Own.copyAt (n := 0) ou (by simp; omega) (by simp; omega) (fun _ => rfl) (fun H4 ou off => ?_)
      have le4 : Le H2 H4 := off.le le nn
      have lx : (List.replicate n.toNat (0 : Int)).take 0 ++ [a].take 1 ++ (List.replicate n.toNat 0).drop (0 + ([a].take 1).length) = List.replicate 1 a ++ List.replicate (n.toNat - 1) 0 := by simp [List.drop_replicate]
      rw [lx] at ou
      refine jn_i (fun σ' H' => σ' 7 = .slice (some ad) n.toNat cp ∧ Own eI H' (.slice (some ad) n.toNat cp) (List.replicate n.toNat a) ∧ Le H2 H') (fun σ3 H5 hP => ?_) (fun J3 hJ3 => ?_)
      · obtain ⟨g7, o5, le5⟩ := hP
        rw [g7]
        exact hk _ _ o5 nn le5
      · refine ⟨fun n' σ' H' => ∃ i : Nat, n' = n.toNat - i ∧ 1 ≤ i ∧ i ≤ n.toNat ∧ σ' 7 = .slice (some ad) n.toNat cp ∧ σ' 8 = .int .i64 i ∧ Own eI H' (.slice (some ad) n.toNat cp) (List.replicate i a ++ List.replicate (n.toNat - i) 0) ∧ Le H2 H',
          ⟨_, 1, rfl, by omega, by omega, rfl, rfl, ou, le4⟩, ?_⟩
        rintro n' σ4 H6 ⟨i, rfl, i1, i2, g7, g8, o6, le6⟩
        have hl6 : (List.replicate i a ++ List.replicate (n.toNat - i) (0 : Int)).length = n.toNat := by simp; omega
        rw [g7, g8]
        refine ob_i o6.len ?_
        rw [hl6, vInt_lss, ob_some]
        refine cnd_d (fun hlt => ?_) (fun hge => ?_)
        · obtain ⟨x, e1, e2, e3, e4, hx, hbx⟩ := o6.sl.cut (lo := 0) (hi := (i : Int)) (by omega) (by omega) (by omega)
          obtain ⟨cc, hcc, hcc2⟩ : ∃ cc, cp = cc ∧ n.toNat ≤ cc := by
            obtain ⟨x, c, e, hc, hr⟩ := o6
            simp only [Value.slice.injEq] at e
            exact ⟨cp, rfl, by omega⟩
          have ed : vSl3 1 (.slice (some ad) n.toNat cp) (some (.int .i64 i)) none none = some (.slice (some (ad.add i)) (n.toNat - i) (cp - i)) := by
            simp only [vSl3, vSl, bnd]
            rw [if_pos (by omega)]
            simp only [Int.toNat_natCast, Option.map_some, Nat.mul_one]
            rw [if_neg (by omega)]
          refine ob_i ed (ob_i (e3 rfl) ?_)
          have hm : ((List.replicate i a ++ List.replicate (n.toNat - i) (0 : Int)).drop (0 : Int).toNat).take ((i : Int).toNat - (0 : Int).toNat) = List.replicate i a := by
            simp
          rw [hm] at hx
          refine copy_i (m := List.replicate i a) (by kernel_rfl) hx ?_
          rw [List.length_replicate]
          refine Own.copyAt (n := i) o6 (by simp; omega) (by omega) (fun _ => rfl) (fun H7 o7 off7 => ?_)
          rw [rep_step i1 i2] at o7
          rw [vInt_add (by omega) (by omega), ob_some]
          refine nxt (n.toNat - (i + min i (n.toNat - i))) (by omega) ⟨i + min i (n.toNat - i), rfl, by omega, by omega, g7, ?_, o7, off7.le le6 nn⟩
          show Value.int .i64 _ = _
          rw [Int.natCast_add]
        · obtain rfl : i = n.toNat := by omega
          refine hJ3 _ _ ⟨g7, ?_, le6⟩
          rw [Nat.sub_self] at o6
          simpa using o6
    · refine ob_i (vInt_gtr _ _ _) ?_
      rw [decide_eq_false (by omega)]
      refine gop_rf (gop_rf (ob_i (vInt_gtr _ _ _) ?_))
      rw [decide_eq_false (by omega)]
      refine ob_i (vPick_f _ _) (cnd_f1 ?_)
      exact hJ2 _ _ ⟨g0, rfl, rfl⟩
  · rw [vInt_lss, ob_some, decide_eq_false (by omega)]
    exact cnd_f1 (hJ1 _ _ ⟨rfl, rfl, rfl⟩)
end Go.Proofs.Ytdfoobomlabffaa
