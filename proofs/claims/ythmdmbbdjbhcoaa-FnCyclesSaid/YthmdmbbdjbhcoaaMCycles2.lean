/- Several texts in one. -/
import Derived.Test.YthmdmbbdjbhcoaaMCycles1
import Derived.Test.YthmdmbbdjbhcoaaMCycles0
import Derived.Test.YthmdmbbdjbhcoaaG0
import Derived.Below
import Derived.WalkKit
import Derived.ProofKit
/- Choices that are read from bytes. -/
namespace Go.Proofs.Ythmdmbbdjbhcoaa
open HL
set_option maxRecDepth 100000
namespace HL
theorem vMulW (a b : Int) : vInt .mul (.int .u64 a) (.int .u64 b) = some (.int .u64 (IntKind.u64.wrap (a * b))) := by simp only [vInt, if_true]
theorem vAddW (a b : Int) : vInt .add (.int .u64 a) (.int .u64 b) = some (.int .u64 (IntKind.u64.wrap (a + b))) := by simp only [vInt, if_true]
theorem vCIW (k : IntKind) (a : Int) : vCI .u64 (.int k a) = some (.int .u64 (IntKind.u64.wrap a)) := rfl
theorem vShrW (a : Int) {b : Int} (h : 0 ≤ b) : ∃ x, vInt .shr (.int .u64 a) (.int .u64 b) = some (.int .u64 x) := by
  simp only [vInt]; rw [if_pos h]; exact ⟨_, rfl⟩
theorem vAnd255 (a : Int) : ∃ x, vInt .and (.int .u64 a) (.int .u64 255) = some (.int .u64 x) ∧ 0 ≤ x ∧ x ≤ 255 := by
  refine ⟨_, by simp only [vInt, if_true]; rfl, ?_⟩
  show 0 ≤ IntKind.u64.wrap ((BitVec.ofInt 64 a &&& BitVec.ofInt 64 255).toNat : Int) ∧ IntKind.u64.wrap ((BitVec.ofInt 64 a &&& BitVec.ofInt 64 255).toNat : Int) ≤ 255
  have h : (BitVec.ofInt 64 a &&& BitVec.ofInt 64 255).toNat ≤ 255 := by
    rw [BitVec.toNat_and]
    have e : (BitVec.ofInt 64 255).toNat = 255 := by decide
    rw [e]
    exact Nat.and_le_right
  generalize (BitVec.ofInt 64 a &&& BitVec.ofInt 64 255).toNat = n at h
  have e : IntKind.u64.wrap (n : Int) = (n : Int) := by
    unfold IntKind.wrap; simp [IntKind.signed, IntKind.bits]; omega
  rw [e]; omega
end HL
variable {H0 H : Hp} {K : Value → Hp → Prop} {p code : Value} {l : List Int} {a s : Int}
theorem C.spec_l00From (h0 : Sl eU H code l) (hk : ∀ p H', Cel H' p [code, .int .i64 0, .int .u64 0] → Nw H p → Le H H' → K p H') : HT prg I.spec_l00From [code].toArray H K := by
 refine R.spec_l00From ?_
 unfold F.spec_l00From
 refine ob_i (a := .agg #[code, .int .i64 0, .int .u64 0]) (by obtain ⟨_, _, _, rfl⟩ := h0.isSl; rfl) ?_
 exact nw_i (fun p H' op nn le => hk p H' op nn le)
theorem C.pspec_l00Src_next (h0 : Sl eU H0 code l) (hb : bytP l) (hl : l.length ≤ 9223372036854775807) (le : Le H0 H) (np : Nw H0 p) (hp : Cel H p [code, .int .i64 a, .int .u64 s]) (a0 : 0 ≤ a) (a1 : a ≤ 4611686018427387904)
    (hk : ∀ x s' H', 0 ≤ x → x ≤ 255 → Cel H' p [code, .int .i64 (a + 1), .int .u64 s'] → Off p H H' → K (.int .i64 x) H') : HT prg I.pspec_l00Src_next [p].toArray H K := by
 have hc := h0.le le
 have ho : oneCell code = true := h0.one
 refine R.pspec_l00Src_next ?_
 unfold F.pspec_l00Src_next
 refine jn_i (fun σ' H' => ∃ x, 0 ≤ x ∧ x ≤ 255 ∧ σ' 0 = p ∧ σ' 3 = .int .i64 x ∧ H' = H) (fun σ1 H1 hP => ?_) (fun J1 hJ1 => ?_)
 ·obtain ⟨x, x0, x1, g0, g3, rfl⟩ := hP
  rw [g0, g3]
  refine ob_i hp.nilC (ob_i (hp.fa 1) (ob_i (hp.ld 1 rfl) (ob_i (vInt_add (by omega) (by omega)) (ob_i hp.nilC (ob_i (hp.fa 1) ?_)))))
  refine hp.st (by simp) rfl rfl (fun H2 hp2 off2 => ?_)
  refine ob_i hp2.nilC (ob_i (hp2.fa 2) (ob_i (hp2.ld 2 rfl) (ob_i (vMulW _ _) (ob_i (vCIW _ _) (ob_i (vAddW _ _) (ob_i (vAddW _ _) (ob_i hp2.nilC (ob_i (hp2.fa 2) ?_))))))))
  refine hp2.st (by simp) rfl rfl (fun H3 hp3 off3 => ?_)
  refine ob_i hp3.nilC (ob_i (hp3.fa 1) (ob_i (hp3.ld 1 rfl) (ob_i hp3.nilC (ob_i (hp3.fa 0) (ob_i (hp3.ld 0 rfl) (ob_i h0.len (ob_i (vInt_leq _ _ _) ?_)))))))
  have off := off2.trans off3
  refine cnd_d (fun _ => hk x _ H3 x0 x1 hp3 off) (fun _ => ?_)
  refine ob_i hp3.nilC (ob_i (hp3.fa 2) (ob_i (hp3.ld 2 rfl) ?_))
  obtain ⟨y, hy⟩ := vShrW (IntKind.u64.wrap (IntKind.u64.wrap (IntKind.u64.wrap (s * 6364136223846793005) + IntKind.u64.wrap x) + 1442695040888963407)) (b := 40) (by omega)
  obtain ⟨z, hz, z0, z1⟩ := vAnd255 y
  refine ob_i hy (ob_i hz (ob_i (vCI_64 _ (by omega) (by omega)) ?_))
  exact hk z _ H3 z0 z1 hp3 off
 ·refine ob_i hp.nilC (ob_i (hp.fa 1) (ob_i (hp.ld 1 rfl) (ob_i hp.nilC (ob_i (hp.fa 0) (ob_i (hp.ld 0 rfl) (ob_i h0.len (ob_i (vInt_lss _ _ _) ?_)))))))
  refine cnd_d (fun hlt => ?_) (fun _ => hJ1 _ _ ⟨0, by omega, by omega, rfl, rfl, rfl⟩)
  have hm := hb _ (at_mem 0 l a0 hlt)
  refine ob_i hp.nilC (ob_i (hp.fa 0) (ob_i (hp.ld 0 rfl) (ob_i hp.nilC (ob_i (hp.fa 1) (ob_i (hp.ld 1 rfl) (ob_i (hc.ix a0 hlt) (ob_i (hc.ld 0 a0 hlt) (ob_i (vCI_64 _ (by omega) (by omega)) ?_))))))))
  exact hJ1 _ _ ⟨_, hm.1, hm.2, rfl, rfl, rfl⟩
theorem C.pspec_l00Src_pick {n : Int} (h0 : Sl eU H0 code l) (hb : bytP l) (hl : l.length ≤ 9223372036854775807) (le : Le H0 H) (np : Nw H0 p) (hp : Cel H p [code, .int .i64 a, .int .u64 s]) (a0 : 0 ≤ a) (a1 : a ≤ 4611686018427387000)
    (hk : ∀ x a' s' H', 0 ≤ x → (1 ≤ n → x < n) → a ≤ a' → a' ≤ a + 2 → Cel H' p [code, .int .i64 a', .int .u64 s'] → Off p H H' → K (.int .i64 x) H') : HT prg I.pspec_l00Src_pick [p, .int .i64 n].toArray H K := by
 refine R.pspec_l00Src_pick ?_
 unfold F.pspec_l00Src_pick
 refine ob_i (vInt_leq _ _ _) (cnd_d (fun h1 => hk 0 a s H (by omega) (by omega) (by omega) (by omega) hp (Off.of_le (Le.refl H))) (fun h1 => ?_))
 refine C.pspec_l00Src_next h0 hb hl le np hp a0 (by omega) (fun x s1 H1 x0 x1 hp1 off1 => ?_)
 refine ob_i (vInt_gtr _ _ _) (cnd_d (fun h2 => ?_) (fun h2 => ?_))
 ·refine ob_i (vInt_mul (by omega) (by omega)) ?_
  refine C.pspec_l00Src_next h0 hb hl (off1.le le np) np hp1 (by omega) (by omega) (fun y s2 H2 y0 y1 hp2 off2 => ?_)
  refine ob_i (vInt_add (by omega) (by omega)) (ob_i (vInt_remN (by omega) (by omega)) ?_)
  have r0 := Int.emod_nonneg (x * 256 + y) (b := n) (by omega)
  have r1 := Int.emod_lt_of_pos (x * 256 + y) (b := n) (by omega)
  refine hk _ _ _ H2 r0 (fun _ => r1) (by omega) (by omega) hp2 (off1.trans off2)
 ·refine ob_i (vInt_remN (by omega) (by omega)) ?_
  have r0 := Int.emod_nonneg x (b := n) (by omega)
  have r1 := Int.emod_lt_of_pos x (b := n) (by omega)
  exact hk _ _ _ H1 r0 (fun _ => r1) (by omega) (by omega) hp1 off1
theorem C.laws_b10At {k n : Int} (hc : Sl eU H code l) (hb : bytP l) (hl : l.length ≤ 9223372036854775807) (k0 : 0 ≤ k) (k1 : k ≤ 1000) (hk : ∀ x, 0 ≤ x → (1 ≤ n → x < n) → K (.int .i64 x) H) : HT prg I.laws_b10At [code, .int .i64 k, .int .i64 n].toArray H K := by
 refine R.laws_b10At ?_
 unfold F.laws_b10At
 refine ob_i (vInt_leq _ _ _) (cnd_d (fun h1 => hk 0 (by omega) (by omega)) (fun h1 => ?_))
 refine ob_i hc.len (ob_i (vInt_lss _ _ _) (cnd_d (fun h2 => ?_) (fun h2 => ?_)))
 ·have hm := hb _ (at_mem 0 l k0 h2)
  refine ob_i (hc.ix k0 h2) (ob_i (hc.ld 0 k0 h2) (ob_i (vCI_64 _ (by omega) (by omega)) (ob_i (vInt_remN (by omega) (by omega)) ?_)))
  exact hk _ (Int.emod_nonneg _ (by omega)) (fun _ => Int.emod_lt_of_pos _ (by omega))
 ·refine ob_i (vInt_mul (by omega) (by omega)) (ob_i (vInt_add (by omega) (by omega)) (ob_i (vInt_remN (by omega) (by omega)) ?_))
  exact hk _ (Int.emod_nonneg _ (by omega)) (fun _ => Int.emod_lt_of_pos _ (by omega))
end Go.Proofs.Ythmdmbbdjbhcoaa
/- From a contract over a whole heap to a call's end: what the statement asks. -/
namespace Go.Proofs.Ythmdmbbdjbhcoaa.HL
open Go.RowKit
/-- All of a world's blocks. -/
def whole (W : World) : Hp := fun b => W.heap[b]?
theorem whole_sub (W : World) : Sub (whole W) W := fun _ _ h => h

theorem calls_true {P : Program} {f : FuncId} {args : Array Value} {W : World} (h : HT P f args (whole W) (fun v H' => v = .bool true ∧ Le (whole W) H')) :
    Calls P f args W (fun e W' => e = .returned (.bool true) ∧ Below W.heap.size W W') := by
  refine (h W (whole_sub W)).mono ?_
  rintro e W' ⟨v, H', rfl, hs, fr, rfl, hle⟩
  refine ⟨rfl, fr.os, fr.tape, fr.output, fr.size, fun k hk => ?_⟩
  have h1 : whole W k = some W.heap[k] := by unfold whole; exact Array.getElem?_eq_getElem hk
  have h2 := hs k _ (hle k _ h1)
  rw [h2, Array.getElem?_eq_getElem hk]

/-- A row of numbers of the world, as the kit's rows tell it. -/
def IsRow (k : IntKind) (w : World) (a : Option Addr) (len cap : Nat) (zs : List Int) : Prop :=
  (a = none ∧ len = 0 ∧ cap = 0 ∧ zs = []) ∨
  ∃ x, a = some x ∧ len ≤ cap ∧ cap ≤ maxLen ∧ zs.length = cap ∧ (∀ i, i < zs.length → w.cell? (x.add i) = some (.int k (zs.getD i 0))) ∧ ∀ n ∈ zs, (Lit.int k n).wf = true

end Go.Proofs.Ythmdmbbdjbhcoaa.HL
/- A statement's bytes. -/
namespace Go.Proofs.Ythmdmbbdjbhcoaa.HL
theorem slU_of_row {W : World} {a : Option Addr} {len cap : Nat} {zs : List Int} (h : IsRow .u8 W a len cap zs) : Sl eU (whole W) (.slice a len cap) (zs.take len) := by
  rcases h with ⟨rfl, rfl, rfl, rfl⟩ | ⟨x, rfl, h1, _, h3, h4, _⟩
  · exact Sl.nil 0 none
  · have hlen : (zs.take len).length = len := by simp; omega
    refine ⟨some x, cap, by rw [hlen], by omega, fun i hi => ⟨x, rfl, ?_⟩⟩
    have hi' : i < zs.length := by simp at hi; omega
    have := h4 i hi'
    rw [List.getElem_take]
    rw [List.getD_eq_getElem?_getD, List.getElem?_eq_getElem hi'] at this
    exact this
theorem rowU_max {W : World} {a : Option Addr} {len cap : Nat} {zs : List Int} (h : IsRow .u8 W a len cap zs) : (zs.take len).length ≤ 9223372036854775807 := by
  rcases h with ⟨rfl, rfl, rfl, rfl⟩ | ⟨x, rfl, h1, h2, h3, _, _⟩
  · simp
  · have : maxLen = 9223372036854775807 := by decide
    simp; omega
theorem rowU_byt {W : World} {a : Option Addr} {len cap : Nat} {zs : List Int} (h : IsRow .u8 W a len cap zs) : bytP (zs.take len) := by
  rcases h with ⟨rfl, rfl, rfl, rfl⟩ | ⟨x, rfl, h1, h2, h3, _, hw⟩
  · intro y hy; simp at hy
  · intro y hy
    have := hw y (List.mem_of_mem_take hy)
    unfold Lit.wf at this
    simp [IntKind.min, IntKind.max, IntKind.signed, IntKind.bits] at this
    omega
end Go.Proofs.Ythmdmbbdjbhcoaa.HL
/- The law of cycles. -/
namespace Go.Proofs.Ythmdmbbdjbhcoaa
open HL
set_option maxRecDepth 100000
theorem snoc_all {l : List Int} {x : Int} {p : Int → Prop} (h : ∀ y ∈ l, p y) (hx : p x) : ∀ y ∈ l ++ [x], p y := fun y hy => by
  rcases List.mem_append.mp hy with hy | hy
  · exact h y hy
  · simp only [List.mem_singleton] at hy; subst hy; exact hx
theorem ints_eq {l m : List Int} (h : l.length = m.length) (ha : ∀ j : Nat, j < l.length → at_ 0 l (j : Int) = at_ 0 m (j : Int)) : l = m := by
  apply List.ext_getElem h
  intro j h1 h2
  have := ha j h1
  rw [at_eq 0 l h1, at_eq 0 m h2] at this
  exact this
theorem ints_snoc {l m : List Int} {i : Nat} (ha : ∀ j : Nat, j < i → at_ 0 l (j : Int) = at_ 0 m (j : Int)) (h : at_ 0 l (i : Int) = at_ 0 m (i : Int)) : ∀ j : Nat, j < i + 1 → at_ 0 l (j : Int) = at_ 0 m (j : Int) := fun j hj => by
  by_cases e : j = i
  · subst e; exact h
  · exact ha j (by omega)
def itR (st rc : Int) (T l : List Int) : Nat → List Int
  | 0 => l
  | n + 1 => stpL st rc T (itR st rc T l n)
theorem itR_ring {st rc : Int} {T l : List Int} (h : ruleP st rc T) (hl : ringP st l) : ∀ n, ringP st (itR st rc T l n)
  | 0 => hl
  | n + 1 => stpL_ring h (itR_ring h hl n)
theorem itR_len {st rc : Int} {T l : List Int} : ∀ n, (itR st rc T l n).length = l.length
  | 0 => rfl
  | n + 1 => by show (stpL st rc T _).length = _; rw [stpL_len, itR_len n]
theorem itR_add {st rc : Int} {T l : List Int} (a : Nat) : ∀ b, itR st rc T l (a + b) = itR st rc T (itR st rc T l a) b
  | 0 => rfl
  | b + 1 => by show stpL st rc T (itR st rc T l (a + b)) = _; rw [itR_add a b]; rfl
section
variable {st rc n : Int} {T l : List Int}
theorem num_lt (h : smlP st rc T n) (hl : ringP st l) (hn : (l.length : Int) = n) : 0 ≤ numL st l ∧ numL st l < pwr st n := by
  have hb := numL_bnd (b := st) (by have := h.1.1; omega) hl.1
  rw [show l.length = n.toNat by omega] at hb
  exact hb
/-- Steps of a ring are steps of its number. -/
theorem num_step (h : smlP st rc T n) (hl : ringP st l) (hn : (l.length : Int) = n) : ((nxF (nsL st rc T n) (numL st l).toNat : Nat) : Int) = numL st (stpL st rc T l) := by
  have hb := num_lt h hl hn
  have hp := sml_pw h
  have hlt : (numL st l).toNat < (nsL st rc T n).length := by rw [nsL_len]; omega
  rw [← nxF_at (nsL_nx h) hlt, at_eq 0 _ hlt]
  simp only [nsL, nsG, List.getElem_map, List.getElem_range, nsF]
  rw [Int.toNat_of_nonneg hb.1, show n.toNat = l.length by omega, digL_numL (by have := h.1.1; omega) hl.1]
theorem num_it (h : smlP st rc T n) (hl : ringP st l) (hn : (l.length : Int) = n) : ∀ k, ((itF (nxF (nsL st rc T n)) k (numL st l).toNat : Nat) : Int) = numL st (itR st rc T l k)
  | 0 => Int.toNat_of_nonneg (num_lt h hl hn).1
  | k + 1 => by
    have ih := num_it h hl hn k
    have hr := itR_ring h.1 hl k
    have hln : ((itR st rc T l k).length : Int) = n := by rw [itR_len]; exact hn
    show ((nxF (nsL st rc T n) (itF (nxF (nsL st rc T n)) k (numL st l).toNat) : Nat) : Int) = numL st (stpL st rc T (itR st rc T l k))
    rw [← num_step h hr hln, ← ih, Int.toNat_natCast]
theorem num_inj {a b : List Int} (hs : 1 ≤ st) (ha : ringP st a) (hb : ringP st b) (hl : a.length = b.length) (e : numL st a = numL st b) : a = b := by
  rw [← digL_numL hs ha.1, ← digL_numL hs hb.1, e, hl]
theorem per_on {F : Nat → Nat} {N x : Nat} (hF : ∀ x, x < N → F x < N) (hx : x < N) (h : perN F N x ≠ 0) : ∀ k, perN F N (itF F k x) ≠ 0
  | 0 => h
  | k + 1 => by
    have ih := per_on hF hx h k
    show perN F N (F (itF F k x)) ≠ 0
    rw [perN_next hF (itF_lt hF hx k) ih]; exact ih
theorem mxD_ge {nx : List Int} : ∀ {m s : Nat}, s < m → dpF nx s ≤ mxD nx m
  | 0, s, h => by omega
  | m + 1, s, h => by
    unfold mxD
    by_cases e : s = m
    · subst e; omega
    · have := mxD_ge (nx := nx) (show s < m by omega); omega
/-- Behind the depth each ring comes again, soon enough. -/
theorem deep_again (h : smlP st rc T n) (hl : ringP st l) (hn : (l.length : Int) = n) {D : Nat} (hD : D = mxD (nsL st rc T n) (nsL st rc T n).length) : ∃ p, 1 ≤ p ∧ p ≤ (pwr st n).toNat ∧ itR st rc T (itR st rc T l D) p = itR st rc T l D := by
  have hx := nsL_nx h
  have hb := num_lt h hl hn
  have hs : (numL st l).toNat < (nsL st rc T n).length := by rw [nsL_len]; omega
  have hge := mxD_ge (nx := nsL st rc T n) hs
  obtain ⟨_, d2, _⟩ := dpN_spec (nxF_lt hx) hs
  have hper : perN (nxF (nsL st rc T n)) (nsL st rc T n).length (itF (nxF (nsL st rc T n)) D (numL st l).toNat) ≠ 0 := by
    have := per_on (nxF_lt hx) (itF_lt (nxF_lt hx) hs _) d2 (D - dpF (nsL st rc T n) (numL st l).toNat)
    rw [← itF_add] at this
    unfold dpF at hge this
    rw [show D - dpN (nxF (nsL st rc T n)) (nsL st rc T n).length (numL st l).toNat + dpN (nxF (nsL st rc T n)) (nsL st rc T n).length (numL st l).toNat = D by omega] at this
    exact this
  obtain ⟨p1, p2, p3, _⟩ := perN_spec hper
  refine ⟨_, p1, by rw [nsL_len] at p2; rw [nsL_len]; exact p2, ?_⟩
  rw [← itF_add, Nat.add_comm] at p3
  have e1 := num_it h hl hn (D + perN (nxF (nsL st rc T n)) (nsL st rc T n).length (itF (nxF (nsL st rc T n)) D (numL st l).toNat))
  have e2 := num_it h hl hn D
  rw [p3, e2] at e1
  rw [← itR_add]
  exact num_inj (by have := h.1.1; omega) (itR_ring h.1 hl _) (itR_ring h.1 hl _) (by rw [itR_len, itR_len]) e1.symm
end
theorem img_put {nx : List Int} {t : Nat} (hx : nxP nx) (ht : t < nx.length) (h : ¬ (at_ false (imS nx t) (at_ 0 nx (t : Int))) = true) : (imS nx t).set (at_ 0 nx (t : Int)).toNat true = imS nx (t + 1) ∧ imN nx (t + 1) = imN nx t + 1 := by
  have hb := hx _ (at_mem 0 nx (i := (t : Int)) (by omega) (by omega))
  have hia := imS_at (nx := nx) (t := t) (y := (at_ 0 nx (t : Int)).toNat) (by omega)
  rw [Int.toNat_of_nonneg hb.1] at hia
  rw [hia, decide_eq_true_eq] at h
  exact ⟨imS_put ht rfl hb.1, imN_put hx ht h⟩
theorem img_skip {nx : List Int} {t : Nat} (hx : nxP nx) (ht : t < nx.length) (h : (at_ false (imS nx t) (at_ 0 nx (t : Int))) = true) : imS nx t = imS nx (t + 1) ∧ imN nx (t + 1) = imN nx t := by
  have hb := hx _ (at_mem 0 nx (i := (t : Int)) (by omega) (by omega))
  have hia := imS_at (nx := nx) (t := t) (y := (at_ 0 nx (t : Int)).toNat) (by omega)
  rw [Int.toNat_of_nonneg hb.1] at hia
  rw [hia, decide_eq_true_eq] at h
  have e := imS_skip ht h
  exact ⟨e, by unfold imN; rw [← e]⟩
theorem C.impl_ImagesOf {vt : Value} {st rc n : Int} {T : List Int}  {H : Hp} {K : Value → Hp → Prop} (hvt0 : Sl eI H vt T) (hS : smlP st rc T n) (k1 : T.length ≤ 9223372036854775807)
    (hk : ∀ H', Le H H' → K (.tuple #[(.int .i64 (imN (nsL st rc T n) (nsL st rc T n).length)), (.bool true)]) H') : HT prg I.impl_ImagesOf [(.agg #[(.int .i64 (st)), (.int .i64 (rc)), vt]), (.int .i64 (n))].toArray H K := by
 have lE := Le.refl H
 have hvt := hvt0
 refine R.impl_ImagesOf ?_
 unfold F.impl_ImagesOf
 have hr := hS.1
 have hr1 := hr.1
 have hr2 := hr.2.1
 have hpw := sml_pw hS
 obtain ⟨nx, hnx⟩ : ∃ x : List Int, x = nsL st rc T n := ⟨_, rfl⟩
 have hx : nxP nx := by rw [hnx]; exact nsL_nx hS
 have hnl : nx.length = (pwr st n).toNat := by rw [hnx]; exact nsL_len
 refine nw_i (fun p1 H2 op1 nn3 le4 => ?_)
 replace hvt := hvt.le le4
 replace lE := lE.trans le4
 replace op1 : Cel H2 p1 [(.int .i64 (st)), (.int .i64 (rc)), vt] := op1
 refine ob_i (op1.ldn rfl) ?_
 refine C.impl_small hvt (by first | omega | assumption) (fun   H5    le6 => ?_)
 replace op1 := op1.le le6
 replace hvt := hvt.le le6
 replace lE := lE.trans le6
 refine ob_nd (fun hc7 => ?_) (fun hc7 => ?_)
 ·skip
  refine cnd_f1 ?_
  refine ob_i (op1.fa 0) ?_
  refine ob_i (op1.ld 0 rfl) ?_
  refine C.impl_raised (by first | omega | assumption) (by first | omega | assumption) (by first | omega | assumption) (by first | omega | assumption) (fun   H8    le9 => ?_)
  replace op1 := op1.le le9
  replace hvt := hvt.le le9
  replace lE := lE.trans le9
  refine Own.mk_ (z := (false : Bool)) (by omega) (by omega) (by omega) (by omega) (fun vs H10 ovs nn11 le12 => ?_)
  have ap1Xvs : Apart p1 vs := op1.apart nn11
  have nvs : Nw H vs := nn11.le lE
  replace op1 := op1.le le12
  replace hvt := hvt.le le12
  replace lE := lE.trans le12
  refine jn_i (fun σ' H' => σ' 7 = (.int .i64 (imN nx nx.length)) ∧ Cel H' p1 [(.int .i64 (st)), (.int .i64 (rc)), vt] ∧ Own eB H' vs (imS nx nx.length) ∧ Le H H') (fun σ13 H13 hP => ?_) (fun J13 hJ13 => ?_)
  ·skip
   obtain ⟨g7L13, op1, ovs, lE⟩ := hP
   try simp only [g7L13]
   skip
   exact keq (K := K) (by rw [show ((imN (nsL st rc T n) (nsL st rc T n).length) : Int) = (imN nx nx.length) from by rw [hnx]]) (hk   _    lE)
  refine ob_i (op1.ldn rfl) ?_
  refine C.impl_Rule_steps hvt (by first | omega | assumption) (fun  u16 H14 ou16 nn17  le15 => ?_)
  have avsXu16 : Apart vs u16 := ovs.apart nn17
  replace op1 := op1.le le15
  replace ovs := ovs.le le15
  replace hvt := hvt.le le15
  replace lE := lE.trans le15
  rw [← hnx] at ou16
  refine ob_i (ou16.len) ?_
  refine ⟨fun n' σ' H' => ∃ t : Nat, n' = nx.length - t ∧ t ≤ nx.length ∧ σ' 6 = vs ∧ σ' 7 = (.int .i64 (imN nx t)) ∧ σ' 21 = u16 ∧ σ' 22 = (.int .i64 (((nx).length : Int))) ∧ σ' 23 = (.int .i64 ((t : Int))) ∧ Cel H' p1 [(.int .i64 (st)), (.int .i64 (rc)), vt] ∧ Own eB H' vs (imS nx t) ∧ Own eI H' u16 (nx) ∧ Le H H',
   ⟨_, 0, rfl, by omega, rfl, (congrArg (Value.int .i64) (imN_zero nx).symm), rfl, rfl, (congrArg (Value.int .i64) (by first | omega | rfl | (simp; done))), op1, (Own.cast (by rw [← imS_zero, hnl]) ovs), ou16, lE⟩, ?_⟩
  rintro n18 σ18 H18 ⟨t, rfl, htN, g6L18, g7L18, g21L18, g22L18, g23L18, op1, ovs, ou16, lE⟩
  have hvt := hvt0.le lE
  try simp only [g6L18, g7L18, g21L18, g22L18, g23L18]
  have hil := imS_len nx t
  have hib := imN_bnd nx t
  refine ob_i (vInt_lss _ _ _) ?_
  refine cnd_d (fun hg19 => ?_) (fun hg19 => ?_)
  ·skip
   have tt := hg19
   have hxb := hx _ (at_mem 0 nx (i := (t : Int)) (by omega) (by omega))
   refine ob_i (ou16.sl.ix (by omega) (by omega)) ?_
   refine ob_i (ou16.sl.ld 0 (by omega) (by omega)) ?_
   refine ob_i (ovs.sl.ix (by omega) (by omega)) ?_
   refine ob_i (ovs.sl.ld false (by omega) (by omega)) ?_
   refine ob_i (vUn_not _) ?_
   refine cnd_i (fun hg20 => ?_) (fun hg20 => ?_)
   ·skip
    refine ob_i (ovs.sl.ix (by omega) (by omega)) ?_
    refine ovs.st (x := true) (by omega) (by omega) rfl rfl (fun H21 ovs off22 => ?_)
    replace op1 := op1.off off22 ap1Xvs
    replace ou16 := ou16.off off22 avsXu16.symm
    replace hvt := hvt0.le (off22.le lE nvs)
    replace lE := off22.le lE nvs
    refine ob_i (vInt_add (by omega) (by omega)) ?_
    refine ob_i (vInt_add (by omega) (by omega)) ?_
    have hne : ¬ (at_ false (imS nx t) (at_ 0 nx (t : Int))) = true := by intro g; have g2 := hg20; rw [g] at g2; simp at g2
    have him := img_put hx (by omega) hne
    exact nxt (nx.length - (t + 1)) (by omega) ⟨t + 1, rfl, by omega, g6L18, (congrArg (Value.int .i64) (by first | omega | rfl | (simp; done))), g21L18, g22L18, (congrArg (Value.int .i64) (by first | omega | rfl | (simp; done))), op1, (Own.cast him.1 ovs), ou16, lE⟩
   ·skip
    refine ob_i (vInt_add (by omega) (by omega)) ?_
    have hye : (at_ false (imS nx t) (at_ 0 nx (t : Int))) = true := by have g2 := hg20; simpa using g2
    have him := img_skip hx (by omega) hye
    exact nxt (nx.length - (t + 1)) (by omega) ⟨t + 1, rfl, by omega, g6L18, (g7L18.trans (congrArg (Value.int .i64) (by first | omega | rfl | (simp; done)))), g21L18, g22L18, (congrArg (Value.int .i64) (by first | omega | rfl | (simp; done))), op1, (Own.cast him.1 ovs), ou16, lE⟩
  ·skip
   have tt := hg19
   obtain rfl : t = nx.length := by omega
   exact hJ13 _ _ ⟨(g7L18.trans (congrArg (Value.int .i64) (by first | omega | rfl | (simp; done)))), op1, ovs, lE⟩
 ·skip
  exact absurd hc7 (fun h => h hS)
theorem C.spec_l02Run {p vt va : Value} {m st rc : Int} {T : List Int} {l : List Int}  {H : Hp} {K : Value → Hp → Prop} (hp0 : Cel H p [(.int .i64 (st)), (.int .i64 (rc)), vt]) (hvt0 : Sl eI H vt T) (hva0 : Sl eI H va l) (hr : ruleP st rc T) (hg : ringP st l) (m0 : 0 ≤ m) (m1 : m ≤ 1000)
    (hk : ∀ u1 H', Own eI H' u1 (itR st rc T l (m : Int).toNat) → Nw H u1 → Le H H' → K u1 H') : HT prg I.spec_l02Run [p, va, (.int .i64 (m))].toArray H K := by
 have lE := Le.refl H
 have hp := hp0
 have hvt := hvt0
 have hva := hva0
 refine R.spec_l02Run ?_
 unfold F.spec_l02Run
 have hr1 := hr.1
 have hr2 := hr.2.1
 have hr3 := ruleP_len hr
 have hr4 := hr.2.2.2
 have hg2 := hg.2
 refine bS_nil (enc := eI) (fun u1 H2 ou1 nn3 kk4 le5 => ?_)
 replace hp := hp.le le5
 replace hvt := hvt.le le5
 replace hva := hva.le le5
 replace lE := lE.trans le5
 refine apd_nil ou1 kk4 hva (fun _ => rfl) (by omega) (by omega) (fun u9 H6 ou9 nn10 le11 => ?_)
 have au1Xu9 : Apart u1 u9 := ou1.apart nn10
 have nu9 : Nw H u9 := nn10.le lE
 replace ou1 := ou1.le le11
 replace hp := hp.le le11
 replace hvt := hvt.le le11
 replace lE := lE.trans le11
 refine jn_i (fun σ' H' => ∃ u, σ' 7 = u ∧ Own eI H' u1 ([]) ∧ Own eI H' u (itR st rc T l (m : Int).toNat) ∧ Nw H u ∧ Apart u1 u ∧ Le H H') (fun σ12 H12 hP => ?_) (fun J12 hJ12 => ?_)
 ·skip
  obtain ⟨u, g7L12, ou1, ou, nu, au1Xu, lE⟩ := hP
  try simp only [g7L12]
  skip
  exact hk  u _ ou nu  lE
 refine ⟨fun n' σ' H' => ∃ i : Nat, n' = (m : Int).toNat - i ∧ i ≤ (m : Int).toNat ∧ ∃ u, σ' 0 = p ∧ σ' 2 = (.int .i64 (m - (i : Int))) ∧ σ' 7 = u ∧ Own eI H' u1 ([]) ∧ Own eI H' u (itR st rc T l i) ∧ Nw H u ∧ Apart u1 u ∧ Le H H',
  ⟨_, 0, rfl, by omega, u9, rfl, (congrArg (Value.int .i64) (by first | omega | rfl | (simp; done))), rfl, ou1, (Own.cast (by first | rfl | (simp; done)) ou9), nu9, au1Xu9, lE⟩, ?_⟩
 rintro n13 σ13 H13 ⟨i, rfl, hiN, u, g0L13, g2L13, g7L13, ou1, ou, nu, au1Xu, lE⟩
 have hp := hp0.le lE
 have hvt := hvt0.le lE
 try simp only [g0L13, g2L13, g7L13]
 have hi := itR_ring hr hg i
 have hi2 := hi.2
 refine ob_i (vInt_gtr _ _ _) ?_
 refine cnd_d (fun hg14 => ?_) (fun hg14 => ?_)
 ·skip
  have ti := hg14
  refine C.spec_l02Step hp hvt ou.sl (by first | omega | assumption) (by first | omega | assumption) (by first | omega | assumption) (by exact hi.1) (fun  u17 H15 ou17 nn18  le16 => ?_)
  have au1Xu17 : Apart u1 u17 := ou1.apart nn18
  have nu17 : Nw H u17 := nn18.le lE
  replace ou1 := ou1.le le16
  replace lE := lE.trans le16
  refine ob_i (vInt_sub (by omega) (by omega)) ?_
  exact nxt ((m : Int).toNat - (i + 1)) (by omega) ⟨i + 1, rfl, by omega, u17, g0L13, (congrArg (Value.int .i64) (by first | omega | rfl | (simp; done))), rfl, ou1, ou17, nu17, au1Xu17, lE⟩
 ·skip
  have ti := hg14
  obtain rfl : i = (m : Int).toNat := by omega
  exact hJ12 _ _ ⟨u, g7L13, ou1, ou, nu, au1Xu, lE⟩
theorem C.spec_l02Can {p vt va : Value} {st rc : Int} {T : List Int} {l : List Int}  {H : Hp} {K : Value → Hp → Prop} (hp0 : Cel H p [(.int .i64 (st)), (.int .i64 (rc)), vt]) (hvt0 : Sl eI H vt T) (hva0 : Sl eI H va l) (hr : ruleP st rc T) (hg : ringP st l)
    (hk : ∀ H', Le H H' → K (.bool true) H') : HT prg I.spec_l02Can [p, va].toArray H K := by
 have lE := Le.refl H
 have hp := hp0
 have hvt := hvt0
 have hva := hva0
 refine R.spec_l02Can ?_
 unfold F.spec_l02Can
 have hr1 := hr.1
 have hr2 := hr.2.1
 have hr3 := ruleP_len hr
 have hr4 := hr.2.2.2
 have hg2 := hg.2
 refine C.spec_l02Is hp hvt (by first | omega | assumption) (fun   H1    le2 => ?_)
 replace hp := hp.le le2
 replace hva := hva.le le2
 replace lE := lE.trans le2
 by_cases hc3 : ruleP st rc T
 ·skip
  refine gop_e (decide_eq_true hc3) ?_
  refine gop_rt ?_
  refine gop_e (decide_eq_true hc3) ?_
  refine gop_rt ?_
  refine gop_e (decide_eq_true hc3) ?_
  refine gop_rt ?_
  refine ob_i (hp.nilC) ?_
  refine gop_e (decide_eq_true hc3) ?_
  refine gop_rt ?_
  refine ob_i (hp.fa 0) ?_
  refine gop_e (decide_eq_true hc3) ?_
  refine gop_rt ?_
  refine ob_i (hp.ld 0 rfl) ?_
  refine gop_e (decide_eq_true hc3) ?_
  refine gop_rt ?_
  refine C.spec_l02Ring hva (by first | omega | assumption) (by first | omega | assumption) (by first | omega | assumption) (fun   H4    le5 => ?_)
  replace lE := lE.trans le5
  refine ob_i (vPick_et (decide_eq_true hc3) _ _) ?_
  rw [decide_eq_true (show ringP st l from hg)]
  exact hk _ lE
 ·skip
  exact absurd hc3 (fun h => h hr)
theorem C.spec_RunRing {vt va : Value} {st rc m : Int} {T : List Int} {l : List Int}  {H : Hp} {K : Value → Hp → Prop} (hvt0 : Sl eI H vt T) (hva0 : Sl eI H va l) (hr : ruleP st rc T) (hg : ringP st l) (m0 : 0 ≤ m) (m1 : m ≤ 1000)
    (hk : ∀ u1 H', Own eI H' u1 (itR st rc T l (m : Int).toNat) → Nw H u1 → Le H H' → K (.tuple #[u1, (.bool true)]) H') : HT prg I.spec_RunRing [(.agg #[(.int .i64 (st)), (.int .i64 (rc)), vt]), va, (.int .i64 (m))].toArray H K := by
 have lE := Le.refl H
 have hvt := hvt0
 have hva := hva0
 refine R.spec_RunRing ?_
 unfold F.spec_RunRing
 have hr1 := hr.1
 have hr2 := hr.2.1
 have hr3 := ruleP_len hr
 have hr4 := hr.2.2.2
 refine nw_i (fun p1 H2 op1 nn3 le4 => ?_)
 replace hvt := hvt.le le4
 replace hva := hva.le le4
 replace lE := lE.trans le4
 replace op1 : Cel H2 p1 [(.int .i64 (st)), (.int .i64 (rc)), vt] := op1
 refine C.spec_l02Can op1 hvt hva (by first | omega | assumption) (by first | omega | assumption) (fun   H5    le6 => ?_)
 replace op1 := op1.le le6
 replace hvt := hvt.le le6
 replace hva := hva.le le6
 replace lE := lE.trans le6
 refine ob_i (a := .bool false) rfl ?_
 refine gop_rf ?_
 refine gop_rf ?_
 refine C.spec_l00In  ?_
 refine gop_rf ?_
 refine ob_nd (fun hc7 => ?_) (fun hc7 => ?_)
 ·skip
  refine ob_i (vPick_f _ _) ?_
  refine cnd_f1 ?_
  refine C.spec_l02Run op1 hvt hva (by first | omega | assumption) (by first | omega | assumption) (by first | omega | assumption) (by first | omega | assumption) (fun  u10 H8 ou10 nn11  le9 => ?_)
  have nu10 : Nw H u10 := nn11.le lE
  replace lE := lE.trans le9
  skip
  exact hk  u10 _ ou10 nu10  lE
 ·skip
  refine ob_i (vPick_f _ _) ?_
  refine cnd_t1 ?_
  exfalso; omega
theorem C.spec_StepRing {vt va : Value} {st rc : Int} {T : List Int} {l : List Int}  {H : Hp} {K : Value → Hp → Prop} (hvt0 : Sl eI H vt T) (hva0 : Sl eI H va l) (hr : ruleP st rc T) (hg : ringP st l)
    (hk : ∀ u1 H', Own eI H' u1 (stpL st rc T l) → Nw H u1 → Le H H' → K (.tuple #[u1, (.bool true)]) H') : HT prg I.spec_StepRing [(.agg #[(.int .i64 (st)), (.int .i64 (rc)), vt]), va].toArray H K := by
 have lE := Le.refl H
 have hvt := hvt0
 have hva := hva0
 refine R.spec_StepRing ?_
 unfold F.spec_StepRing
 have hr1 := hr.1
 have hr2 := hr.2.1
 have hr3 := ruleP_len hr
 have hr4 := hr.2.2.2
 have hg2 := hg.2
 have he := hg.1
 refine nw_i (fun p1 H2 op1 nn3 le4 => ?_)
 replace hvt := hvt.le le4
 replace hva := hva.le le4
 replace lE := lE.trans le4
 replace op1 : Cel H2 p1 [(.int .i64 (st)), (.int .i64 (rc)), vt] := op1
 refine C.spec_l02Can op1 hvt hva (by first | omega | assumption) (by first | omega | assumption) (fun   H5    le6 => ?_)
 replace op1 := op1.le le6
 replace hvt := hvt.le le6
 replace hva := hva.le le6
 replace lE := lE.trans le6
 refine ob_i (a := .bool false) rfl ?_
 refine cnd_f1 ?_
 refine C.spec_l02Step op1 hvt hva (by first | omega | assumption) (by first | omega | assumption) (by first | omega | assumption) (by first | omega | assumption) (fun  u9 H7 ou9 nn10  le8 => ?_)
 have nu9 : Nw H u9 := nn10.le lE
 replace lE := lE.trans le8
 skip
 exact hk  u9 _ ou9 nu9  lE
theorem C.laws_b10Ints {va vb : Value} {l : List Int} {m : List Int}  {H : Hp} {K : Value → Hp → Prop} (hva0 : Sl eI H va l) (hvb0 : Sl eI H vb m) (k1 : l.length ≤ 9223372036854775807)
    (hk : ∀ H', Le H H' → K (.bool (decide (l = m))) H') : HT prg I.laws_b10Ints [va, vb].toArray H K := by
 have lE := Le.refl H
 have hva := hva0
 have hvb := hvb0
 refine R.laws_b10Ints ?_
 unfold F.laws_b10Ints
 refine ob_i (hva.len) ?_
 refine ob_i (hvb.len) ?_
 refine ob_i (vInt_neq _ _ _) ?_
 refine cnd_d (fun hg1 => ?_) (fun hg1 => ?_)
 ·skip
  skip
  exact keq (K := K) (by rw [decide_eq_false (show ¬ (l = m) from by intro h; subst h; omega)]) (hk   _    lE)
 ·skip
  refine jn_i (fun σ' H' => Le H H' ∧ (∀ j : Nat, j < l.length → at_ 0 l (j : Int) = at_ 0 m (j : Int))) (fun σ2 H2 hP => ?_) (fun J2 hJ2 => ?_)
  ·skip
   obtain ⟨lE, ho0⟩ := hP
   skip
   exact keq (K := K) (by rw [decide_eq_true (show (l = m) from by exact ints_eq (by omega) ho0)]) (hk   _    lE)
  refine ob_i (hva.len) ?_
  refine ⟨fun n' σ' H' => ∃ i : Nat, n' = l.length - i ∧ i ≤ l.length ∧ σ' 0 = va ∧ σ' 1 = vb ∧ σ' 12 = (.int .i64 (((l).length : Int))) ∧ σ' 13 = (.int .i64 ((i : Int))) ∧ Le H H' ∧ (∀ j : Nat, j < i → at_ 0 l (j : Int) = at_ 0 m (j : Int)),
   ⟨_, 0, rfl, by omega, rfl, rfl, rfl, (congrArg (Value.int .i64) (by first | omega | rfl | (simp; done))), lE, (fun j hj => by omega)⟩, ?_⟩
  rintro n3 σ3 H3 ⟨i, rfl, hiN, g0L3, g1L3, g12L3, g13L3, lE, hm0⟩
  have hva := hva0.le lE
  have hvb := hvb0.le lE
  try simp only [g0L3, g1L3, g12L3, g13L3]
  refine ob_i (vInt_lss _ _ _) ?_
  refine cnd_d (fun hg4 => ?_) (fun hg4 => ?_)
  ·skip
   have ti := hg4
   refine ob_i (hva.ix (by omega) (by omega)) ?_
   refine ob_i (hva.ld 0 (by omega) (by omega)) ?_
   refine ob_i (hvb.ix (by omega) (by omega)) ?_
   refine ob_i (hvb.ld 0 (by omega) (by omega)) ?_
   refine ob_i (vInt_neq _ _ _) ?_
   refine cnd_d (fun hg5 => ?_) (fun hg5 => ?_)
   ·skip
    refine retK (K := K) (v' := (.bool false)) rfl ?_
    skip
    exact keq (K := K) (by rw [decide_eq_false (show ¬ (l = m) from by intro h; subst h; omega)]) (hk   _    lE)
   ·skip
    refine ob_i (vInt_add (by omega) (by omega)) ?_
    exact nxt (l.length - (i + 1)) (by omega) ⟨i + 1, rfl, by omega, g0L3, g1L3, g12L3, (congrArg (Value.int .i64) (by first | omega | rfl | (simp; done))), lE, (ints_snoc hm0 (Decidable.not_not.mp hg5))⟩
  ·skip
   have ti := hg4
   exact hJ2 _ _ ⟨lE, (by rw [show l.length = i by omega]; exact hm0)⟩
theorem C.spec_B10Rule {vy : Value} {rc : Int} {l : List Int}  {H : Hp} {K : Value → Hp → Prop} (hvy0 : Sl eU H vy l) (hb_vy : bytP l) (hl_vy : l.length ≤ 9223372036854775807) (r0 : 0 ≤ rc) (r1 : rc ≤ 1)
    (hk : ∀ (lT : List Int), (ruleP 2 rc lT) → ∀ u1 H', Own eI H' u1 lT → Nw H u1 → Le H H' → K (.agg #[(.int .i64 (2)), (.int .i64 (rc)), u1]) H') : HT prg I.spec_B10Rule [vy, (.int .i64 (rc))].toArray H K := by
 have lE := Le.refl H
 have hvy := hvy0
 refine R.spec_B10Rule ?_
 unfold F.spec_B10Rule
 have pb := pwr_bnd (b := 2) (n := 2 * rc + 1) (by omega) (by omega) (by omega)
 refine nw_i (fun p1 H2 op1 nn3 le4 => ?_)
 have np1 : Nw H p1 := nn3.le lE
 replace hvy := hvy.le le4
 replace lE := lE.trans le4
 replace op1 : Cel H2 p1 [(.int .i64 (0)), (.int .i64 (0)), (.slice none 0 0)] := op1
 refine C.spec_l00From hvy (fun z H5 oz nn6 le7 => ?_)
 have ap1Xz : Apart p1 z := op1.apart nn6
 have nz : Nw H z := nn6.le lE
 replace op1 := op1.le le7
 replace hvy := hvy.le le7
 replace lE := lE.trans le7
 replace oz : Cel H5 z [vy, (.int .i64 (0)), (.int .u64 (0))] := oz
 refine R.spec_l07DrawTwoX ?_
 unfold F.spec_l07DrawTwoX
 refine nw_i (fun q0 H8 oq0 nn9 le10 => ?_)
 have ap1Xq0 : Apart p1 q0 := op1.apart nn9
 have azXq0 : Apart z q0 := oz.apart nn9
 have nq0 : Nw H q0 := nn9.le lE
 replace op1 := op1.le le10
 replace oz := oz.le le10
 replace hvy := hvy.le le10
 replace lE := lE.trans le10
 replace oq0 : Cel H8 q0 [(.int .i64 (0)), (.int .i64 (0)), (.slice none 0 0)] := oq0
 refine ob_i (a := (.agg #[(.int .i64 (2)), (.int .i64 (rc)), (.slice none 0 0)])) (by rfl) ?_
 refine nw_i (fun q H11 oq nn12 le13 => ?_)
 have ap1Xq : Apart p1 q := op1.apart nn12
 have azXq : Apart z q := oz.apart nn12
 have aq0Xq : Apart q0 q := oq0.apart nn12
 have nq : Nw H q := nn12.le lE
 replace op1 := op1.le le13
 replace oz := oz.le le13
 replace oq0 := oq0.le le13
 replace hvy := hvy.le le13
 replace lE := lE.trans le13
 replace oq : Cel H11 q [(.int .i64 (0)), (.int .i64 (0)), (.slice none 0 0)] := oq
 refine oq.stn (ws := [(.int .i64 (2)), (.int .i64 (rc)), (.slice none 0 0)]) rfl rfl (oc1 rfl (oc1 rfl (oc1 rfl oc0))) (fun H14 oq off15 => ?_)
 replace op1 := op1.off off15 ap1Xq
 replace oz := oz.off off15 azXq
 replace oq0 := oq0.off off15 aq0Xq
 replace hvy := hvy0.le (off15.le lE nq)
 replace lE := off15.le lE nq
 replace oq : Cel H14 q [(.int .i64 (2)), (.int .i64 (rc)), (.slice none 0 0)] := oq
 refine jn_i (fun σ' H' => ∃ u, ∃ lu, σ' 4 = q0 ∧ σ' 5 = q ∧ Cel H' p1 [(.int .i64 (0)), (.int .i64 (0)), (.slice none 0 0)] ∧ Cel H' q0 [(.int .i64 (0)), (.int .i64 (0)), (.slice none 0 0)] ∧ Cel H' q [(.int .i64 (2)), (.int .i64 (rc)), u] ∧ Own eI H' u (lu) ∧ Nw H u ∧ Apart p1 u ∧ Apart q0 u ∧ Apart q u ∧ Le H H' ∧ (lu.length : Int) = pwr 2 (2 * rc + 1) ∧ (∀ x ∈ lu, 0 ≤ x ∧ x ≤ 1)) (fun σ16 H16 hP => ?_) (fun J16 hJ16 => ?_)
 ·skip
  obtain ⟨u, lu, g4L16, g5L16, op1, oq0, oq, ou, nu, ap1Xu, aq0Xu, aqXu, lE, hln, hLa⟩ := hP
  have hvy := hvy0.le lE
  try simp only [g4L16, g5L16]
  refine ob_i (oq.ldn rfl) ?_
  refine oq0.stn (ws := [(.int .i64 (2)), (.int .i64 (rc)), u]) rfl rfl (oc1 rfl (oc1 rfl (oc1 ou.one oc0))) (fun H17 oq0 off18 => ?_)
  replace op1 := op1.off off18 ap1Xq0
  replace ou := ou.off off18 aq0Xu.symm
  replace hvy := hvy0.le (off18.le lE nq0)
  replace lE := off18.le lE nq0
  replace oq0 : Cel H17 q0 [(.int .i64 (2)), (.int .i64 (rc)), u] := oq0
  refine ob_i (oq0.ldn rfl) ?_
  refine op1.stn (ws := [(.int .i64 (2)), (.int .i64 (rc)), u]) rfl rfl (oc1 rfl (oc1 rfl (oc1 ou.one oc0))) (fun H19 op1 off20 => ?_)
  replace ou := ou.off off20 ap1Xu.symm
  replace hvy := hvy0.le (off20.le lE np1)
  replace lE := off20.le lE np1
  replace op1 : Cel H19 p1 [(.int .i64 (2)), (.int .i64 (rc)), u] := op1
  refine ob_i (op1.ldn rfl) ?_
  skip
  exact hk  lu (by exact ⟨Or.inl rfl, ⟨by omega, by omega⟩, hln, hLa⟩) u _ ou nu  lE
 refine ob_i (vInt_mul (by omega) (by omega)) ?_
 refine ob_i (vInt_add (by omega) (by omega)) ?_
 refine C.spec_l03Power (by first | omega | assumption) (by first | omega | assumption) (by first | omega | assumption) (by first | omega | assumption) (fun   H21    le22 => ?_)
 replace op1 := op1.le le22
 replace oz := oz.le le22
 replace oq0 := oq0.le le22
 replace oq := oq.le le22
 replace hvy := hvy.le le22
 replace lE := lE.trans le22
 refine ⟨fun n' σ' H' => ∃ i : Nat, n' = (pwr 2 (2 * rc + 1)).toNat - i ∧ i ≤ (pwr 2 (2 * rc + 1)).toNat ∧ ∃ u, ∃ lu, ∃ ats, ∃ sd, σ' 0 = z ∧ σ' 4 = q0 ∧ σ' 5 = q ∧ σ' 6 = (.int .i64 (pwr 2 (2 * rc + 1) - (i : Int))) ∧ Cel H' p1 [(.int .i64 (0)), (.int .i64 (0)), (.slice none 0 0)] ∧ Cel H' z [vy, (.int .i64 (ats)), (.int .u64 (sd))] ∧ Cel H' q0 [(.int .i64 (0)), (.int .i64 (0)), (.slice none 0 0)] ∧ Cel H' q [(.int .i64 (2)), (.int .i64 (rc)), u] ∧ Own eI H' u (lu) ∧ Nw H u ∧ Apart p1 u ∧ Apart z u ∧ Apart q0 u ∧ Apart q u ∧ Le H H' ∧ lu.length = i ∧ (∀ x ∈ lu, 0 ≤ x ∧ x ≤ 1) ∧ 0 ≤ ats ∧ ats ≤ 2 * (i : Int),
  ⟨_, 0, rfl, by omega, _, [], 0, 0, rfl, rfl, rfl, (congrArg (Value.int .i64) (by first | omega | rfl | (simp; done))), op1, oz, oq0, oq, (Own.cast (by first | rfl | (simp; done)) (Own.nil_of none)), (fun b hb => by simp [bk] at hb), (fun b _ hb => by simp [bk] at hb), (fun b _ hb => by simp [bk] at hb), (fun b _ hb => by simp [bk] at hb), (fun b _ hb => by simp [bk] at hb), lE, rfl, (by simp), ⟨by omega, by omega⟩⟩, ?_⟩
 rintro n23 σ23 H23 ⟨i, rfl, hiN, u, lu, ats, sd, g0L23, g4L23, g5L23, g6L23, op1, oz, oq0, oq, ou, nu, ap1Xu, azXu, aq0Xu, aqXu, lE, hln, hLa, hat⟩
 have hvy := hvy0.le lE
 try simp only [g0L23, g4L23, g5L23, g6L23]
 refine ob_i (vInt_gtr _ _ _) ?_
 refine cnd_d (fun hg24 => ?_) (fun hg24 => ?_)
 ·skip
  have ti := hg24
  refine ⟨?_, ?_⟩
  ·skip
   refine ob_i (oq.fa 2) ?_
   refine ob_i (oq.ld 2 rfl) ?_
   refine C.pspec_l00Src_pick hvy0 hb_vy hl_vy lE nz oz (by omega) (by omega) (fun x25 at26 sd27 H28 xp30 xq31 ap32 aq33 oz off29 => ?_)
   replace xq31 := xq31 (by omega)
   replace op1 := op1.off off29 ap1Xz
   replace oq0 := oq0.off off29 azXq0.symm
   replace oq := oq.off off29 azXq.symm
   replace ou := ou.off off29 azXu.symm
   replace hvy := hvy0.le (off29.le lE nz)
   replace lE := off29.le lE nz
   replace oz : Cel H28 z [vy, (.int .i64 (at26)), (.int .u64 (sd27))] := oz
   refine bS_i (enc := eI) (l := [x25]) (by omega) rfl (by kernel_rfl) (fun u34 H35 ou34 nn36 le38 => ?_)
   replace op1 := op1.le le38
   replace oz := oz.le le38
   replace oq0 := oq0.le le38
   replace oq := oq.le le38
   replace ou := ou.le le38
   replace hvy := hvy.le le38
   replace lE := lE.trans le38
   refine apd_any ou ou34.sl (fun _ => rfl) (by omega) (by first | omega | (simp only [List.length_cons, List.length_nil, List.length_append, List.length_replicate, List.length_map, List.length_range]; omega)) (fun u42 H39 ou42 off40 hb41 => ?_)
   have ap1Xu42 : Apart p1 u42 := Apart.ap2 op1.known ap1Xu hb41
   have azXu42 : Apart z u42 := Apart.ap2 oz.known azXu hb41
   have aq0Xu42 : Apart q0 u42 := Apart.ap2 oq0.known aq0Xu hb41
   have aqXu42 : Apart q u42 := Apart.ap2 oq.known aqXu hb41
   have nu42 : Nw H u42 := Nw.ap2 nu lE hb41
   replace op1 := op1.off off40 ap1Xu
   replace oz := oz.off off40 azXu
   replace oq0 := oq0.off off40 aq0Xu
   replace oq := oq.off off40 aqXu
   replace hvy := hvy0.le (off40.le lE nu)
   replace lE := off40.le lE nu
   refine ob_i (oq.fa 2) ?_
   refine oq.st (by simp) ou42.one ou42.cells (fun H43 oq off44 => ?_)
   replace op1 := op1.off off44 ap1Xq
   replace oz := oz.off off44 azXq
   replace oq0 := oq0.off off44 aq0Xq
   replace ou42 := ou42.off off44 aqXu42.symm
   replace hvy := hvy0.le (off44.le lE nq)
   replace lE := off44.le lE nq
   replace oq : Cel H43 q [(.int .i64 (2)), (.int .i64 (rc)), u42] := oq
   refine ob_i (vInt_sub (by omega) (by omega)) ?_
   exact nxt ((pwr 2 (2 * rc + 1)).toNat - (i + 1)) (by omega) ⟨i + 1, rfl, by omega, u42, (lu ++ ([x25])), (at26), (sd27), g0L23, g4L23, g5L23, (congrArg (Value.int .i64) (by first | omega | rfl | (simp; done))), op1, oz, oq0, oq, ou42, nu42, ap1Xu42, azXu42, aq0Xu42, aqXu42, lE, (by rw [List.length_append, hln]; rfl), (snoc_all hLa (by omega)), ⟨by omega, by omega⟩⟩
  ·skip
   refine ob_i (oq.fa 2) ?_
   refine C.pspec_l00Src_pick hvy0 hb_vy hl_vy lE nz oz (by omega) (by omega) (fun x45 at46 sd47 H48 xp50 xq51 ap52 aq53 oz off49 => ?_)
   replace xq51 := xq51 (by omega)
   replace op1 := op1.off off49 ap1Xz
   replace oq0 := oq0.off off49 azXq0.symm
   replace oq := oq.off off49 azXq.symm
   replace ou := ou.off off49 azXu.symm
   replace hvy := hvy0.le (off49.le lE nz)
   replace lE := off49.le lE nz
   replace oz : Cel H48 z [vy, (.int .i64 (at46)), (.int .u64 (sd47))] := oz
   refine ob_i (oq.ld 2 rfl) ?_
   refine bS_i (enc := eI) (l := [x45]) (by omega) rfl (by kernel_rfl) (fun u54 H55 ou54 nn56 le58 => ?_)
   replace op1 := op1.le le58
   replace oz := oz.le le58
   replace oq0 := oq0.le le58
   replace oq := oq.le le58
   replace ou := ou.le le58
   replace hvy := hvy.le le58
   replace lE := lE.trans le58
   refine apd_any ou ou54.sl (fun _ => rfl) (by omega) (by first | omega | (simp only [List.length_cons, List.length_nil, List.length_append, List.length_replicate, List.length_map, List.length_range]; omega)) (fun u62 H59 ou62 off60 hb61 => ?_)
   have ap1Xu62 : Apart p1 u62 := Apart.ap2 op1.known ap1Xu hb61
   have azXu62 : Apart z u62 := Apart.ap2 oz.known azXu hb61
   have aq0Xu62 : Apart q0 u62 := Apart.ap2 oq0.known aq0Xu hb61
   have aqXu62 : Apart q u62 := Apart.ap2 oq.known aqXu hb61
   have nu62 : Nw H u62 := Nw.ap2 nu lE hb61
   replace op1 := op1.off off60 ap1Xu
   replace oz := oz.off off60 azXu
   replace oq0 := oq0.off off60 aq0Xu
   replace oq := oq.off off60 aqXu
   replace hvy := hvy0.le (off60.le lE nu)
   replace lE := off60.le lE nu
   refine ob_i (oq.fa 2) ?_
   refine oq.st (by simp) ou62.one ou62.cells (fun H63 oq off64 => ?_)
   replace op1 := op1.off off64 ap1Xq
   replace oz := oz.off off64 azXq
   replace oq0 := oq0.off off64 aq0Xq
   replace ou62 := ou62.off off64 aqXu62.symm
   replace hvy := hvy0.le (off64.le lE nq)
   replace lE := off64.le lE nq
   replace oq : Cel H63 q [(.int .i64 (2)), (.int .i64 (rc)), u62] := oq
   refine ob_i (vInt_sub (by omega) (by omega)) ?_
   exact nxt ((pwr 2 (2 * rc + 1)).toNat - (i + 1)) (by omega) ⟨i + 1, rfl, by omega, u62, (lu ++ ([x45])), (at46), (sd47), g0L23, g4L23, g5L23, (congrArg (Value.int .i64) (by first | omega | rfl | (simp; done))), op1, oz, oq0, oq, ou62, nu62, ap1Xu62, azXu62, aq0Xu62, aqXu62, lE, (by rw [List.length_append, hln]; rfl), (snoc_all hLa (by omega)), ⟨by omega, by omega⟩⟩
 ·skip
  have ti := hg24
  exact hJ16 _ _ ⟨u, _, g4L23, g5L23, op1, oq0, oq, ou, nu, ap1Xu, aq0Xu, aqXu, lE, (by omega), hLa⟩
theorem C.spec_B10Ring {vy : Value} {st n : Int} {l : List Int}  {H : Hp} {K : Value → Hp → Prop} (hvy0 : Sl eU H vy l) (hb_vy : bytP l) (hl_vy : l.length ≤ 9223372036854775807) (s0 : 2 ≤ st) (s1 : st ≤ 3) (n0 : 1 ≤ n) (n1 : n ≤ 64)
    (hk : ∀ (ls : List Int), ((ls.length : Int) = n ∧ ringP st ls) → ∀ u1 H', Own eI H' u1 ls → Nw H u1 → Le H H' → K u1 H') : HT prg I.spec_B10Ring [vy, (.int .i64 (st)), (.int .i64 (n))].toArray H K := by
 have lE := Le.refl H
 have hvy := hvy0
 refine R.spec_B10Ring ?_
 unfold F.spec_B10Ring
 refine C.spec_l00From hvy (fun z H1 oz nn2 le3 => ?_)
 have nz : Nw H z := nn2.le lE
 replace hvy := hvy.le le3
 replace lE := lE.trans le3
 replace oz : Cel H1 z [vy, (.int .i64 (0)), (.int .u64 (0))] := oz
 refine bS_nil (enc := eI) (fun u4 H5 ou4 nn6 kk7 le8 => ?_)
 have azXu4 : Apart z u4 := oz.apart nn6
 have nu4 : Nw H u4 := nn6.le lE
 replace oz := oz.le le8
 replace hvy := hvy.le le8
 replace lE := lE.trans le8
 refine jn_i (fun σ' H' => ∃ u, ∃ lu, σ' 8 = u ∧ Own eI H' u (lu) ∧ Nw H u ∧ Le H H' ∧ (lu.length : Int) = n ∧ (∀ x ∈ lu, 0 ≤ x ∧ x ≤ st - 1)) (fun σ9 H9 hP => ?_) (fun J9 hJ9 => ?_)
 ·skip
  obtain ⟨u, lu, g8L9, ou, nu, lE, hln, hLa⟩ := hP
  try simp only [g8L9]
  skip
  exact hk  lu (by exact ⟨hln, hLa, by omega, by omega⟩) u _ ou nu  lE
 refine ⟨fun n' σ' H' => ∃ i : Nat, n' = n.toNat - i ∧ i ≤ n.toNat ∧ ∃ u, ∃ lu, ∃ ats, ∃ sd, σ' 1 = (.int .i64 (st)) ∧ σ' 2 = (.int .i64 (n - (i : Int))) ∧ σ' 7 = z ∧ σ' 8 = u ∧ Cel H' z [vy, (.int .i64 (ats)), (.int .u64 (sd))] ∧ Own eI H' u (lu) ∧ Nw H u ∧ Apart z u ∧ Le H H' ∧ lu.length = i ∧ (∀ x ∈ lu, 0 ≤ x ∧ x ≤ st - 1) ∧ 0 ≤ ats ∧ ats ≤ 2 * (i : Int),
  ⟨_, 0, rfl, by omega, u4, [], 0, 0, rfl, (congrArg (Value.int .i64) (by first | omega | rfl | (simp; done))), rfl, rfl, oz, (Own.cast (by first | rfl | (simp; done)) ou4), nu4, azXu4, lE, rfl, (by simp), ⟨by omega, by omega⟩⟩, ?_⟩
 rintro n10 σ10 H10 ⟨i, rfl, hiN, u, lu, ats, sd, g1L10, g2L10, g7L10, g8L10, oz, ou, nu, azXu, lE, hln, hLa, hat⟩
 have hvy := hvy0.le lE
 try simp only [g1L10, g2L10, g7L10, g8L10]
 refine ob_i (vInt_gtr _ _ _) ?_
 refine cnd_d (fun hg11 => ?_) (fun hg11 => ?_)
 ·skip
  have ti := hg11
  refine C.pspec_l00Src_pick hvy0 hb_vy hl_vy lE nz oz (by omega) (by omega) (fun x12 at13 sd14 H15 xp17 xq18 ap19 aq20 oz off16 => ?_)
  replace xq18 := xq18 (by omega)
  replace ou := ou.off off16 azXu.symm
  replace hvy := hvy0.le (off16.le lE nz)
  replace lE := off16.le lE nz
  replace oz : Cel H15 z [vy, (.int .i64 (at13)), (.int .u64 (sd14))] := oz
  refine bS_i (enc := eI) (l := [x12]) (by omega) rfl (by kernel_rfl) (fun u21 H22 ou21 nn23 le25 => ?_)
  replace oz := oz.le le25
  replace ou := ou.le le25
  replace hvy := hvy.le le25
  replace lE := lE.trans le25
  refine apd_any ou ou21.sl (fun _ => rfl) (by omega) (by first | omega | (simp only [List.length_cons, List.length_nil, List.length_append, List.length_replicate, List.length_map, List.length_range]; omega)) (fun u29 H26 ou29 off27 hb28 => ?_)
  have azXu29 : Apart z u29 := Apart.ap2 oz.known azXu hb28
  have nu29 : Nw H u29 := Nw.ap2 nu lE hb28
  replace oz := oz.off off27 azXu
  replace hvy := hvy0.le (off27.le lE nu)
  replace lE := off27.le lE nu
  refine ob_i (vInt_sub (by omega) (by omega)) ?_
  exact nxt (n.toNat - (i + 1)) (by omega) ⟨i + 1, rfl, by omega, u29, (lu ++ ([x12])), (at13), (sd14), g1L10, (congrArg (Value.int .i64) (by first | omega | rfl | (simp; done))), g7L10, rfl, oz, ou29, nu29, azXu29, lE, (by rw [List.length_append, hln]; rfl), (snoc_all hLa (by omega)), ⟨by omega, by omega⟩⟩
 ·skip
  have ti := hg11
  exact hJ9 _ _ ⟨u, _, g8L10, ou, nu, lE, (by omega), hLa⟩
theorem C.laws_b10Long {vy vm : Value} {l : List Int} {m : List Int}  {H : Hp} {K : Value → Hp → Prop} (hvy0 : Sl eU H vy l) (hvm0 : Sl eU H vm m)
    (hk : ∀ H', Le H H' → K (.bool (decide (1048576 < l.length ∨ 1048576 < m.length))) H') : HT prg I.laws_b10Long [vy, vm].toArray H K := by
 have lE := Le.refl H
 have hvy := hvy0
 have hvm := hvm0
 refine R.laws_b10Long ?_
 unfold F.laws_b10Long
 refine ob_i (hvy.len) ?_
 refine ob_i (vInt_gtr _ _ _) ?_
 by_cases hc1 : 1048576 < (((l).length : Int))
 ·skip
  refine gop_e (decide_eq_true hc1) ?_
  refine gop_st ?_
  refine gop_e (decide_eq_true hc1) ?_
  refine gop_st ?_
  refine gop_e (decide_eq_true hc1) ?_
  refine gop_st ?_
  refine ob_i (vPick_et (decide_eq_true hc1) _ _) ?_
  skip
  exact keq (K := K) (by rw [decide_eq_true (show (1048576 < l.length ∨ 1048576 < m.length) from by omega)]) (hk   _    lE)
 ·skip
  refine gop_e (decide_eq_false hc1) ?_
  refine gop_rf ?_
  refine gop_e (decide_eq_false hc1) ?_
  refine gop_rf ?_
  refine ob_i (hvm.len) ?_
  refine gop_e (decide_eq_false hc1) ?_
  refine gop_rf ?_
  refine ob_i (vInt_gtr _ _ _) ?_
  refine ob_i (vPick_ef (decide_eq_false hc1) _ _) ?_
  skip
  exact keq (K := K) (by rw [show decide (1048576 < (((m).length : Int))) = decide (1048576 < l.length ∨ 1048576 < m.length) from decide_eq_decide.mpr (by omega)]) (hk   _    lE)
theorem C.iDep_ok {vt : Value} {st rc n : Int} {T : List Int}  {H : Hp} {K : Value → Hp → Prop} (hvt0 : Sl eI H vt T) (k1 : T.length ≤ 9223372036854775807) (hP : smlP st rc T n)
    (hk : ∀ H', Le H H' → K (.tuple #[(.int .i64 (((mxD (nsL st rc T n) (nsL st rc T n).length : Nat) : Int))), (.bool true)]) H') : HT prg I.impl_DepthOf [(.agg #[(.int .i64 (st)), (.int .i64 (rc)), vt]), (.int .i64 (n))].toArray H K :=
  C.impl_DepthOf hvt0 k1 (fun  H'    le => by simp only [selI_t hP, decide_eq_true hP]; exact hk  H'    le)
theorem C.sDep_ok {vt : Value} {st rc n : Int} {T : List Int}  {H : Hp} {K : Value → Hp → Prop} (hvt0 : Sl eI H vt T) (k1 : T.length ≤ 9223372036854775807) (hP : smlP st rc T n)
    (hk : ∀ H', Le H H' → K (.tuple #[(.int .i64 (((mxD (nsL st rc T n) (nsL st rc T n).length : Nat) : Int))), (.bool true)]) H') : HT prg I.spec_DepthOf [(.agg #[(.int .i64 (st)), (.int .i64 (rc)), vt]), (.int .i64 (n))].toArray H K :=
  C.spec_DepthOf hvt0 k1 (fun  H'    le => by simp only [selI_t hP, decide_eq_true hP]; exact hk  H'    le)
theorem C.iCyc_ok {vt : Value} {st rc n : Int} {T : List Int}  {H : Hp} {K : Value → Hp → Prop} (hvt0 : Sl eI H vt T) (k1 : T.length ≤ 9223372036854775807) (hP : smlP st rc T n)
    (hk : ∀ u1 H', Own eI H' u1 (csL st rc T n) → Nw H u1 → Le H H' → K (.tuple #[u1, (.int .i64 (posC (cyL (nsL st rc T n)))), (.bool true)]) H') : HT prg I.impl_CyclesOf [(.agg #[(.int .i64 (st)), (.int .i64 (rc)), vt]), (.int .i64 (n))].toArray H K :=
  C.impl_CyclesOf hvt0 k1 (fun u1 H' ou1 nu1  le => by rw [selL_t hP] at ou1; simp only [selI_t hP, decide_eq_true hP]; exact hk u1 H' ou1 nu1  le)
theorem C.sCyc_ok {vt : Value} {st rc n : Int} {T : List Int}  {H : Hp} {K : Value → Hp → Prop} (hvt0 : Sl eI H vt T) (k1 : T.length ≤ 9223372036854775807) (hP : smlP st rc T n)
    (hk : ∀ u1 H', Own eI H' u1 (csL st rc T n) → Nw H u1 → Le H H' → K (.tuple #[u1, (.int .i64 (posC (cyL (nsL st rc T n)))), (.bool true)]) H') : HT prg I.spec_CyclesOf [(.agg #[(.int .i64 (st)), (.int .i64 (rc)), vt]), (.int .i64 (n))].toArray H K :=
  C.spec_CyclesOf hvt0 k1 (fun u1 H' ou1 nu1  le => by rw [selL_t hP] at ou1; simp only [selI_t hP, decide_eq_true hP]; exact hk u1 H' ou1 nu1  le)
theorem HL.vInt_shl1 {k : IntKind} {n : Int} (h0 : 0 ≤ n) (h1 : n ≤ 62) : vInt .shl (.int .i64 1) (.int k n) = some (.int .i64 ((2 ^ n.toNat : Nat) : Int)) := by
  simp only [vInt, if_pos h0, Int.one_mul]
  have h2 : min n.toNat IntKind.i64.bits = n.toNat := by
    have : IntKind.i64.bits = 64 := rfl
    omega
  have h3 : (2 : Nat) ^ n.toNat ≤ 2 ^ 62 := Nat.pow_le_pow_right (by omega) (by omega)
  have e : (2 : Int) ^ n.toNat = ((2 ^ n.toNat : Nat) : Int) := by rw [Int.natCast_pow]; rfl
  have h4 : ((2 ^ n.toNat : Nat) : Int) ≤ ((2 ^ 62 : Nat) : Int) := Int.ofNat_le.mpr h3
  have h5 : (0 : Int) ≤ ((2 ^ n.toNat : Nat) : Int) := Int.natCast_nonneg _
  have h6 : ((2 ^ 62 : Nat) : Int) = 4611686018427387904 := by decide
  rw [h2, e, wrap64 (Int.le_trans (by decide) h5) (Int.lt_of_le_of_lt h4 (by rw [h6]; decide))]
/-- A power of 2. -/
def pw (n : Int) : Nat := 2 ^ n.toNat
theorem pw_pwr {n : Int} (h : 0 ≤ n) : ((pw n : Nat) : Int) = pwr 2 n := by
  unfold pw pwr
  rw [Int.natCast_pow]; rfl
theorem pw_small {n : Int} (h : n ≤ 12) : pw n ≤ 4096 := by
  have e : ∀ k : Fin 13, (2 : Nat) ^ (k : Nat) ≤ 4096 := by decide
  unfold pw
  exact e ⟨n.toNat, by omega⟩
theorem pwr7 {n : Int} (h : n ≤ 7) : pwr 2 n ≤ 128 := by
  have e : ∀ k : Fin 8, (2 : Int) ^ (k : Nat) ≤ 128 := by decide
  unfold pwr
  exact e ⟨n.toNat, by omega⟩
theorem no_again {st rc : Int} {T d : List Int} {m : Nat} (h : ∀ j, 0 < j → j ≤ m → itR st rc T d j ≠ d) (hp : ∃ p, 1 ≤ p ∧ p ≤ m ∧ itR st rc T d p = d) : False := by
  obtain ⟨p, p1, p2, p3⟩ := hp
  exact h p (by omega) p2 p3
theorem no_snoc {st rc : Int} {T d : List Int} {m : Nat} (h : ∀ j, 0 < j → j ≤ m → itR st rc T d j ≠ d) (hn : itR st rc T d (m + 1) ≠ d) : ∀ j, 0 < j → j ≤ m + 1 → itR st rc T d j ≠ d := fun j j0 hj => by
  by_cases e : j = m + 1
  · subst e; exact hn
  · exact h j j0 (by omega)
set_option maxHeartbeats 4000000 in
theorem C.laws_FnCycles {vy vm : Value} {l : List Int} {mm : List Int}  {H : Hp} {K : Value → Hp → Prop} (hvy0 : Sl eU H vy l) (hvm0 : Sl eU H vm mm) (hb_vy : bytP l) (hl_vy : l.length ≤ 9223372036854775807) (hb_vm : bytP mm) (hl_vm : mm.length ≤ 9223372036854775807)
    (hk : ∀ H', Le H H' → K (.bool true) H') : HT prg I.laws_FnCycles [vy, vm].toArray H K := by
 have lE := Le.refl H
 have hvy := hvy0
 have hvm := hvm0
 refine R.laws_FnCycles ?_
 unfold F.laws_FnCycles
 refine C.laws_b10Long hvy hvm (fun   H1    le2 => ?_)
 replace hvy := hvy.le le2
 replace hvm := hvm.le le2
 replace lE := lE.trans le2
 refine cnd_d (fun hg3 => ?_) (fun hg3 => ?_)
 ·skip
  skip
  exact hk   _    lE
 ·skip
  refine C.spec_B10Rule hvy (by first | omega | assumption) (by first | omega | assumption) (by first | omega | assumption) (by first | omega | assumption) (fun  lT hlT u6 H4 ou6 nn7  le5 => ?_)
  replace hvy := hvy.le le5
  replace hvm := hvm.le le5
  replace lE := lE.trans le5
  have hT2 := hlT.2.1
  have hTl := ruleP_len hlT
  refine nw_i (fun p8 H9 op8 nn10 le11 => ?_)
  have au6Xp8 : Apart u6 p8 := ou6.apart nn10
  have np8 : Nw H p8 := nn10.le lE
  replace ou6 := ou6.le le11
  replace hvy := hvy.le le11
  replace hvm := hvm.le le11
  replace lE := lE.trans le11
  replace op8 : Cel H9 p8 [(.int .i64 (0)), (.int .i64 (0)), (.slice none 0 0)] := op8
  refine op8.stn (ws := [(.int .i64 (2)), (.int .i64 (1)), u6]) rfl rfl (oc1 rfl (oc1 rfl (oc1 ou6.one oc0))) (fun H12 op8 off13 => ?_)
  replace ou6 := ou6.off off13 au6Xp8
  replace hvy := hvy0.le (off13.le lE np8)
  replace hvm := hvm0.le (off13.le lE np8)
  replace lE := off13.le lE np8
  replace op8 : Cel H12 p8 [(.int .i64 (2)), (.int .i64 (1)), u6] := op8
  refine C.laws_b10At (k := 0) (n := 5) hvm hb_vm hl_vm (by omega) (by omega) (fun x14 xp15 xq16 => ?_)
  replace xq16 := xq16 (by omega)
  refine ob_i (vInt_add (by omega) (by omega)) ?_
  obtain ⟨n, hn⟩ : ∃ x : Int, x = 3 + x14 := ⟨_, rfl⟩
  rw [← hn]
  refine ob_i (op8.ldn rfl) ?_
  have hsm : smlP 2 1 lT n := ⟨hlT, by omega, by rw [if_pos rfl]; omega⟩
  have hpw := sml_pw hsm
  have hcl := csL_len hsm
  obtain ⟨nx, hnx⟩ : ∃ x : List Int, x = (nsL 2 1 lT n) := ⟨_, rfl⟩
  have hx : nxP nx := by rw [hnx]; exact nsL_nx hsm
  have hnl : nx.length = (pwr 2 n).toNat := by rw [hnx]; exact nsL_len
  have hcs : csL 2 1 lT n = csG (cntK (cyL nx)) (nx.length + 1) := by rw [hnx]; rfl
  have hcl2 : (csL 2 1 lT n).length = 2 * (kyL (cntK (cyL nx)) (nx.length + 1)).length := by rw [hcs]; exact csG_len2
  have hkl := kyL_len (cntK (cyL nx)) (nx.length + 1)
  have hci : posC (cyL (nsL 2 1 lT n)) ≤ imN (nsL 2 1 lT n) (nsL 2 1 lT n).length := by rw [← hnx]; exact cyc_images hx
  have hpb := posC_bnd (cyL (nsL 2 1 lT n))
  have hsmA : smK (cntK (cyL nx)) (kyL (cntK (cyL nx)) (nx.length + 1)) = posC (cyL (nsL 2 1 lT n)) := by rw [← hnx]; exact smK_all nx
  have hcyl : (cyL (nsL 2 1 lT n)).length = nx.length := by rw [← hnx]; exact cyL_len nx
  have hmx := mxD_le (nx := (nsL 2 1 lT n)) (by rw [← hnx]; exact hx) (s := (nsL 2 1 lT n).length) (Nat.le_refl _)
  have hnl2 : (nsL 2 1 lT n).length = nx.length := by rw [hnx]
  have hpwn : ((pw n : Nat) : Int) = pwr 2 n := pw_pwr (by omega)
  have hpwl : pw n ≤ 4096 := pw_small (by omega)
  have hpw7 := pwr7 (n := n) (by omega)
  have hcyl2 := cyL_len nx
  refine C.iCyc_ok ou6.sl (by first | omega | assumption) (by exact hsm) (fun  u19 H17 ou19 nn20  le18 => ?_)
  replace ou6 := ou6.le le18
  replace op8 := op8.le le18
  replace hvm := hvm.le le18
  replace lE := lE.trans le18
  refine ob_i (vExt_30 _ _ _) ?_
  refine ob_i (vExt_31 _ _ _) ?_
  refine ob_i (vExt_32 _ _ _) ?_
  refine ob_i (op8.ldn rfl) ?_
  refine C.sCyc_ok ou6.sl (by first | omega | assumption) (by exact hsm) (fun  u23 H21 ou23 nn24  le22 => ?_)
  replace ou6 := ou6.le le22
  replace op8 := op8.le le22
  replace ou19 := ou19.le le22
  replace hvm := hvm.le le22
  replace lE := lE.trans le22
  refine ob_i (vExt_30 _ _ _) ?_
  refine ob_i (vExt_31 _ _ _) ?_
  refine ob_i (vExt_32 _ _ _) ?_
  refine ob_i (op8.ldn rfl) ?_
  refine C.iDep_ok ou6.sl (by first | omega | assumption) (by exact hsm) (fun   H25    le26 => ?_)
  replace ou6 := ou6.le le26
  replace op8 := op8.le le26
  replace ou19 := ou19.le le26
  replace ou23 := ou23.le le26
  replace hvm := hvm.le le26
  replace lE := lE.trans le26
  refine ob_i (vExt_20 _ _) ?_
  refine ob_i (vExt_21 _ _) ?_
  refine ob_i (op8.ldn rfl) ?_
  refine C.sDep_ok ou6.sl (by first | omega | assumption) (by exact hsm) (fun   H27    le28 => ?_)
  replace ou6 := ou6.le le28
  replace op8 := op8.le le28
  replace ou19 := ou19.le le28
  replace ou23 := ou23.le le28
  replace hvm := hvm.le le28
  replace lE := lE.trans le28
  refine ob_i (vExt_20 _ _) ?_
  refine ob_i (vExt_21 _ _) ?_
  refine ob_i (op8.ldn rfl) ?_
  refine C.impl_ImagesOf ou6.sl (by exact hsm) (by first | omega | assumption) (fun   H29    le30 => ?_)
  replace ou6 := ou6.le le30
  replace op8 := op8.le le30
  replace ou19 := ou19.le le30
  replace ou23 := ou23.le le30
  replace hvm := hvm.le le30
  replace lE := lE.trans le30
  refine ob_i (vExt_20 _ _) ?_
  refine ob_i (vExt_21 _ _) ?_
  refine ob_i (a := .bool false) rfl ?_
  refine gop_rf ?_
  refine gop_rf ?_
  refine ob_i (a := .bool false) rfl ?_
  refine ob_i (vPick_f _ _) ?_
  refine gop_rf ?_
  refine gop_rf ?_
  refine ob_i (a := .bool false) rfl ?_
  refine ob_i (vPick_f _ _) ?_
  refine gop_rf ?_
  refine gop_rf ?_
  refine ob_i (a := .bool false) rfl ?_
  refine ob_i (vPick_f _ _) ?_
  refine gop_rf ?_
  refine gop_rf ?_
  refine ob_i (a := .bool false) rfl ?_
  refine ob_i (vPick_f _ _) ?_
  refine gop_rf ?_
  refine gop_rf ?_
  refine gop_rf ?_
  refine C.laws_b10Ints ou19.sl ou23.sl (by first | omega | (rw [stpL_len]; omega)) (fun   H31    le32 => ?_)
  replace ou6 := ou6.le le32
  replace op8 := op8.le le32
  replace ou19 := ou19.le le32
  replace ou23 := ou23.le le32
  replace hvm := hvm.le le32
  replace lE := lE.trans le32
  refine gop_rf ?_
  refine ob_nd (fun hc33 => ?_) (fun hc33 => ?_)
  ·skip
   refine ob_i (vPick_f _ _) ?_
   refine gop_rf ?_
   refine gop_rf ?_
   refine gop_rf ?_
   refine ob_i (vInt_neq _ _ _) ?_
   refine ob_i (vPick_f _ _) ?_
   by_cases hc34 : (posC (cyL (nsL 2 1 lT n))) ≠ (posC (cyL (nsL 2 1 lT n)))
   ·skip
    refine gop_e (decide_eq_true hc34) ?_
    refine gop_st ?_
    refine gop_e (decide_eq_true hc34) ?_
    refine gop_st ?_
    refine gop_e (decide_eq_true hc34) ?_
    refine gop_st ?_
    refine ob_i (vPick_et (decide_eq_true hc34) _ _) ?_
    refine gop_st ?_
    refine gop_st ?_
    refine gop_st ?_
    refine gop_st ?_
    refine ob_i (vPick_t _ _) ?_
    refine gop_st ?_
    refine gop_st ?_
    refine gop_st ?_
    refine ob_i (vPick_t _ _) ?_
    refine cnd_t1 ?_
    exfalso
    first | omega | exact absurd rfl hc34 | exact hc34 (by rw [hat.1, hat.2]; exact hrow.2.2) | exact no_again hno hag
   ·skip
    refine gop_e (decide_eq_false hc34) ?_
    refine gop_rf ?_
    refine gop_e (decide_eq_false hc34) ?_
    refine gop_rf ?_
    refine gop_e (decide_eq_false hc34) ?_
    refine gop_rf ?_
    refine ob_i (vInt_neq _ _ _) ?_
    refine ob_i (vPick_ef (decide_eq_false hc34) _ _) ?_
    by_cases hc35 : (((mxD (nsL 2 1 lT n) (nsL 2 1 lT n).length : Nat) : Int)) ≠ (((mxD (nsL 2 1 lT n) (nsL 2 1 lT n).length : Nat) : Int))
    ·skip
     refine gop_e (decide_eq_true hc35) ?_
     refine gop_st ?_
     refine gop_e (decide_eq_true hc35) ?_
     refine gop_st ?_
     refine gop_e (decide_eq_true hc35) ?_
     refine gop_st ?_
     refine gop_e (decide_eq_true hc35) ?_
     refine gop_st ?_
     refine ob_i (vPick_et (decide_eq_true hc35) _ _) ?_
     refine gop_st ?_
     refine gop_st ?_
     refine gop_st ?_
     refine ob_i (vPick_t _ _) ?_
     refine cnd_t1 ?_
     exfalso
     first | omega | exact absurd rfl hc35 | exact hc35 (by rw [hat.1, hat.2]; exact hrow.2.2) | exact no_again hno hag
    ·skip
     refine gop_e (decide_eq_false hc35) ?_
     refine gop_rf ?_
     refine gop_e (decide_eq_false hc35) ?_
     refine gop_rf ?_
     refine ob_i (ou19.len) ?_
     refine gop_e (decide_eq_false hc35) ?_
     refine gop_rf ?_
     refine ob_i (vInt_remN (by omega) (by omega)) ?_
     refine gop_e (decide_eq_false hc35) ?_
     refine gop_rf ?_
     refine ob_i (vInt_neq _ _ _) ?_
     refine ob_i (vPick_ef (decide_eq_false hc35) _ _) ?_
     by_cases hc36 : ((((csL 2 1 lT n).length : Int)) % 2) ≠ 0
     ·skip
      refine gop_e (decide_eq_true hc36) ?_
      refine gop_st ?_
      refine gop_e (decide_eq_true hc36) ?_
      refine gop_st ?_
      refine gop_e (decide_eq_true hc36) ?_
      refine gop_st ?_
      refine ob_i (vPick_et (decide_eq_true hc36) _ _) ?_
      refine cnd_t1 ?_
      exfalso
      first | omega | exact absurd rfl hc36 | exact hc36 (by rw [hat.1, hat.2]; exact hrow.2.2) | exact no_again hno hag
     ·skip
      refine gop_e (decide_eq_false hc36) ?_
      refine gop_rf ?_
      refine gop_e (decide_eq_false hc36) ?_
      refine gop_rf ?_
      refine gop_e (decide_eq_false hc36) ?_
      refine gop_rf ?_
      refine ob_i (vInt_gtr _ _ _) ?_
      refine ob_i (vPick_ef (decide_eq_false hc36) _ _) ?_
      refine cnd_d (fun hg37 => ?_) (fun hg37 => ?_)
      ·skip
       exfalso
       first | omega | exact absurd rfl hg37 | exact hg37 (by rw [hat.1, hat.2]; exact hrow.2.2) | exact no_again hno hag
      ·skip
       refine jn_i (fun σ' H' => σ' 1 = vm ∧ σ' 5 = p8 ∧ σ' 6 = (.int .i64 (n)) ∧ σ' 8 = (.int .i64 (posC (cyL (nsL 2 1 lT n)))) ∧ σ' 13 = (.int .i64 (((mxD (nsL 2 1 lT n) (nsL 2 1 lT n).length : Nat) : Int))) ∧ σ' 19 = (.int .i64 (posC (cyL (nsL 2 1 lT n)))) ∧ Own eI H' u6 (lT) ∧ Cel H' p8 [(.int .i64 (2)), (.int .i64 (1)), u6] ∧ Own eI H' u19 (csL 2 1 lT n) ∧ Own eI H' u23 (csL 2 1 lT n) ∧ Le H H') (fun σ38 H38 hP => ?_) (fun J38 hJ38 => ?_)
       ·skip
        obtain ⟨g1L38, g5L38, g6L38, g8L38, g13L38, g19L38, ou6, op8, ou19, ou23, lE⟩ := hP
        have hvm := hvm0.le lE
        try simp only [g1L38, g5L38, g6L38, g8L38, g13L38, g19L38]
        refine C.spec_B10Ring hvm (by first | omega | assumption) (by first | omega | assumption) (by first | omega | assumption) (by first | omega | assumption) (by first | omega | assumption) (by first | omega | assumption) (fun  ls hls u41 H39 ou41 nn42  le40 => ?_)
        replace ou6 := ou6.le le40
        replace op8 := op8.le le40
        replace ou19 := ou19.le le40
        replace ou23 := ou23.le le40
        replace lE := lE.trans le40
        have hag := deep_again hsm hls.2 hls.1 (D := ((mxD (nsL 2 1 lT n) (nsL 2 1 lT n).length : Nat) : Int).toNat) (by rw [Int.toNat_natCast])
        have hdr := itR_ring hlT hls.2 ((mxD (nsL 2 1 lT n) (nsL 2 1 lT n).length : Nat) : Int).toNat
        have hdl := itR_len (st := 2) (rc := 1) (T := lT) (l := ls) ((mxD (nsL 2 1 lT n) (nsL 2 1 lT n).length : Nat) : Int).toNat
        have hdr2 := hdr.2
        refine ob_i (op8.ldn rfl) ?_
        refine C.spec_RunRing ou6.sl ou41.sl (by exact hlT) (by exact hls.2) (by first | omega | assumption) (by first | omega | assumption) (fun  vd H43 ovd nn45  le44 => ?_)
        have au6Xvd : Apart u6 vd := ou6.apart nn45
        have ap8Xvd : Apart p8 vd := op8.apart nn45
        have au19Xvd : Apart u19 vd := ou19.apart nn45
        have au23Xvd : Apart u23 vd := ou23.apart nn45
        have au41Xvd : Apart u41 vd := ou41.apart nn45
        replace ou6 := ou6.le le44
        replace op8 := op8.le le44
        replace ou19 := ou19.le le44
        replace ou23 := ou23.le le44
        replace ou41 := ou41.le le44
        replace lE := lE.trans le44
        replace ovd := ovd.ro
        refine ob_i (vExt_20 _ _) ?_
        refine ob_i (vExt_21 _ _) ?_
        refine ob_i (vInt_neq _ _ _) ?_
        refine gop_e (decide_eq_false hc34) ?_
        refine gop_rf ?_
        refine gop_e (decide_eq_false hc34) ?_
        refine gop_rf ?_
        refine ob_i (a := .bool false) rfl ?_
        refine ob_i (vPick_ef (decide_eq_false hc34) _ _) ?_
        refine cnd_f1 ?_
        refine jn_i (fun σ' H' => Own eI H' u6 (lT) ∧ Cel H' p8 [(.int .i64 (2)), (.int .i64 (1)), u6] ∧ Own eI H' u19 (csL 2 1 lT n) ∧ Own eI H' u23 (csL 2 1 lT n) ∧ Own eI H' u41 (ls) ∧ Ro eI H' vd (itR 2 1 lT ls ((((mxD (nsL 2 1 lT n) (nsL 2 1 lT n).length : Nat) : Int)) : Int).toNat) ∧ Le H H' ∧ (∀ j, 0 < j → j ≤ pw n → itR 2 1 lT (itR 2 1 lT ls ((mxD (nsL 2 1 lT n) (nsL 2 1 lT n).length : Nat) : Int).toNat) j ≠ (itR 2 1 lT ls ((mxD (nsL 2 1 lT n) (nsL 2 1 lT n).length : Nat) : Int).toNat))) (fun σ46 H46 hP => ?_) (fun J46 hJ46 => ?_)
        ·skip
         obtain ⟨ou6, op8, ou19, ou23, ou41, ovd, lE, hno⟩ := hP
         exfalso
         first | omega | exact absurd rfl hg37 | exact hg37 (by rw [hat.1, hat.2]; exact hrow.2.2) | exact no_again hno hag
        refine ⟨fun n' σ' H' => ∃ k : Nat, n' = pw n - k ∧ k ≤ pw n ∧ ∃ vw, σ' 5 = p8 ∧ σ' 6 = (.int .i64 (n)) ∧ σ' 22 = vd ∧ σ' 24 = vw ∧ σ' 25 = (.int .i64 ((k : Int))) ∧ Own eI H' u6 (lT) ∧ Cel H' p8 [(.int .i64 (2)), (.int .i64 (1)), u6] ∧ Own eI H' u19 (csL 2 1 lT n) ∧ Own eI H' u23 (csL 2 1 lT n) ∧ Own eI H' u41 (ls) ∧ Ro eI H' vd (itR 2 1 lT ls ((((mxD (nsL 2 1 lT n) (nsL 2 1 lT n).length : Nat) : Int)) : Int).toNat) ∧ Ro eI H' vw (itR 2 1 lT (itR 2 1 lT ls ((mxD (nsL 2 1 lT n) (nsL 2 1 lT n).length : Nat) : Int).toNat) k) ∧ Apart u6 vw ∧ Apart p8 vw ∧ Apart u19 vw ∧ Apart u23 vw ∧ Apart u41 vw ∧ Le H H' ∧ (∀ j, 0 < j → j ≤ k → itR 2 1 lT (itR 2 1 lT ls ((mxD (nsL 2 1 lT n) (nsL 2 1 lT n).length : Nat) : Int).toNat) j ≠ (itR 2 1 lT ls ((mxD (nsL 2 1 lT n) (nsL 2 1 lT n).length : Nat) : Int).toNat)),
         ⟨_, 0, rfl, by omega, vd, g5L38, g6L38, rfl, rfl, (congrArg (Value.int .i64) (by first | omega | rfl | (simp; done))), ou6, op8, ou19, ou23, ou41, ovd, (Ro.cast (by rfl) ovd), au6Xvd, ap8Xvd, au19Xvd, au23Xvd, au41Xvd, lE, (fun j h1 h2 => by omega)⟩, ?_⟩
        rintro n47 σ47 H47 ⟨k, rfl, hkN, vw, g5L47, g6L47, g22L47, g24L47, g25L47, ou6, op8, ou19, ou23, ou41, ovd, ovw, au6Xvw, ap8Xvw, au19Xvw, au23Xvw, au41Xvw, lE, hno⟩
        try simp only [g5L47, g6L47, g22L47, g24L47, g25L47]
        have hir := itR_ring hlT hdr k
        have hir2 := hir.2
        have hil := itR_len (st := 2) (rc := 1) (T := lT) (l := (itR 2 1 lT ls ((mxD (nsL 2 1 lT n) (nsL 2 1 lT n).length : Nat) : Int).toNat)) k
        refine ob_i (a := .int .i64 ((pw (n) : Nat) : Int)) (vInt_shl1 (by omega) (by omega)) ?_
        refine ob_i (vInt_lss _ _ _) ?_
        refine cnd_d (fun hg48 => ?_) (fun hg48 => ?_)
        ·skip
         have tk := hg48
         refine ob_i (op8.ldn rfl) ?_
         refine C.spec_StepRing ou6.sl ovw.sl (by exact hlT) (by exact hir) (fun  u51 H49 ou51 nn52  le50 => ?_)
         have au6Xu51 : Apart u6 u51 := ou6.apart nn52
         have ap8Xu51 : Apart p8 u51 := op8.apart nn52
         have au19Xu51 : Apart u19 u51 := ou19.apart nn52
         have au23Xu51 : Apart u23 u51 := ou23.apart nn52
         have au41Xu51 : Apart u41 u51 := ou41.apart nn52
         replace ou6 := ou6.le le50
         replace op8 := op8.le le50
         replace ou19 := ou19.le le50
         replace ou23 := ou23.le le50
         replace ou41 := ou41.le le50
         replace ovd := ovd.le le50
         replace lE := lE.trans le50
         replace ou51 := ou51.ro
         refine ob_i (vExt_20 _ _) ?_
         refine ob_i (vExt_21 _ _) ?_
         refine ob_i (a := .bool false) rfl ?_
         refine cnd_f1 ?_
         refine C.laws_b10Ints ou51.sl ovd.sl (by first | omega | (rw [stpL_len]; omega)) (fun   H53    le54 => ?_)
         replace ou6 := ou6.le le54
         replace op8 := op8.le le54
         replace ou19 := ou19.le le54
         replace ou23 := ou23.le le54
         replace ou41 := ou41.le le54
         replace ovd := ovd.le le54
         replace ou51 := ou51.le le54
         replace lE := lE.trans le54
         refine cnd_d (fun hg55 => ?_) (fun hg55 => ?_)
         ·skip
          refine retK (K := K) (v' := (.bool true)) rfl ?_
          skip
          exact hk   _    lE
         ·skip
          refine ob_i (vInt_add (by omega) (by omega)) ?_
          exact nxt (pw n - (k + 1)) (by omega) ⟨k + 1, rfl, by omega, u51, g5L47, g6L47, g22L47, rfl, (congrArg (Value.int .i64) (by first | omega | rfl | (simp; done))), ou6, op8, ou19, ou23, ou41, ovd, (Ro.cast rfl ou51), au6Xu51, ap8Xu51, au19Xu51, au23Xu51, au41Xu51, lE, (no_snoc hno hg55)⟩
        ·skip
         have tk := hg48
         exact hJ46 _ _ ⟨ou6, op8, ou19, ou23, ou41, ovd, lE, (fun j h1 h2 => hno j h1 (by omega))⟩
       refine ⟨fun n' σ' H' => ∃ t : Nat, n' = (kyL (cntK (cyL nx)) (nx.length + 1)).length - t ∧ t ≤ (kyL (cntK (cyL nx)) (nx.length + 1)).length ∧ σ' 1 = vm ∧ σ' 5 = p8 ∧ σ' 6 = (.int .i64 (n)) ∧ σ' 7 = u19 ∧ σ' 8 = (.int .i64 (posC (cyL (nsL 2 1 lT n)))) ∧ σ' 13 = (.int .i64 (((mxD (nsL 2 1 lT n) (nsL 2 1 lT n).length : Nat) : Int))) ∧ σ' 19 = (.int .i64 (smK (cntK (cyL nx)) ((kyL (cntK (cyL nx)) (nx.length + 1)).take t))) ∧ σ' 20 = (.int .i64 (2 * (t : Int))) ∧ Own eI H' u6 (lT) ∧ Cel H' p8 [(.int .i64 (2)), (.int .i64 (1)), u6] ∧ Own eI H' u19 (csL 2 1 lT n) ∧ Own eI H' u23 (csL 2 1 lT n) ∧ Le H H',
        ⟨_, 0, rfl, by omega, rfl, rfl, rfl, rfl, rfl, rfl, rfl, (congrArg (Value.int .i64) (by first | omega | rfl | (simp; done))), ou6, op8, ou19, ou23, lE⟩, ?_⟩
       rintro n56 σ56 H56 ⟨t, rfl, htN, g1L56, g5L56, g6L56, g7L56, g8L56, g13L56, g19L56, g20L56, ou6, op8, ou19, ou23, lE⟩
       try simp only [g7L56, g19L56, g20L56]
       have hsb := smK_bnd (c := (cntK (cyL nx))) (b := 6561) (fun k => by have := cnt_bnd (cyL nx) k; rw [cyL_len] at this; omega) ((kyL (cntK (cyL nx)) (nx.length + 1)).take t)
       have hsl : (((kyL (cntK (cyL nx)) (nx.length + 1)).take t).length : Int) ≤ 6562 := by rw [List.length_take]; omega
       refine ob_i (vInt_add (by omega) (by omega)) ?_
       refine ob_i (ou19.len) ?_
       refine ob_i (vInt_lss _ _ _) ?_
       refine cnd_d (fun hg57 => ?_) (fun hg57 => ?_)
       ·skip
        have tt := hg57
        obtain ⟨kk, hkk, hk0, hkm⟩ := ky_pos (c := (cntK (cyL nx))) (m := nx.length + 1) (t := t) (by omega)
        have hrow := cyc_row hx hk0
        have hat := csG_at (c := (cntK (cyL nx))) (m := nx.length + 1) (t := t) (by omega)
        rw [← hcs, hkk, Int.toNat_natCast] at hat
        have hcb := cnt_bnd (cyL nx) kk
        have hst := smK_take (c := (cntK (cyL nx))) (l := (kyL (cntK (cyL nx)) (nx.length + 1))) (t := t) (by omega)
        rw [hkk, Int.toNat_natCast] at hst
        refine ob_i (ou19.sl.ix (by omega) (by omega)) ?_
        refine ob_i (ou19.sl.ld 0 (by omega) (by omega)) ?_
        refine ob_i (vInt_lss _ _ _) ?_
        by_cases hc58 : (at_ 0 (csL 2 1 lT n) (2 * (t : Int))) < 1
        ·skip
         refine gop_e (decide_eq_true hc58) ?_
         refine gop_st ?_
         refine gop_e (decide_eq_true hc58) ?_
         refine gop_st ?_
         refine gop_e (decide_eq_true hc58) ?_
         refine gop_st ?_
         refine gop_e (decide_eq_true hc58) ?_
         refine gop_st ?_
         refine gop_e (decide_eq_true hc58) ?_
         refine gop_st ?_
         refine gop_e (decide_eq_true hc58) ?_
         refine gop_st ?_
         refine gop_e (decide_eq_true hc58) ?_
         refine gop_st ?_
         refine gop_e (decide_eq_true hc58) ?_
         refine gop_st ?_
         refine gop_e (decide_eq_true hc58) ?_
         refine gop_st ?_
         refine gop_e (decide_eq_true hc58) ?_
         refine gop_st ?_
         refine ob_i (vPick_et (decide_eq_true hc58) _ _) ?_
         refine gop_st ?_
         refine gop_st ?_
         refine gop_st ?_
         refine gop_st ?_
         refine gop_st ?_
         refine gop_st ?_
         refine gop_st ?_
         refine gop_st ?_
         refine gop_st ?_
         refine gop_st ?_
         refine gop_st ?_
         refine ob_i (vPick_t _ _) ?_
         refine cnd_t1 ?_
         refine retK (K := K) (v' := (.bool false)) rfl ?_
         exfalso
         first | omega | exact absurd rfl hc58 | exact hc58 (by rw [hat.1, hat.2]; exact hrow.2.2) | exact no_again hno hag
        ·skip
         refine gop_e (decide_eq_false hc58) ?_
         refine gop_rf ?_
         refine gop_e (decide_eq_false hc58) ?_
         refine gop_rf ?_
         refine gop_e (decide_eq_false hc58) ?_
         refine gop_rf ?_
         refine ob_i (vInt_add (by omega) (by omega)) ?_
         refine gop_e (decide_eq_false hc58) ?_
         refine gop_rf ?_
         refine ob_i (ou19.sl.ix (by omega) (by omega)) ?_
         refine gop_e (decide_eq_false hc58) ?_
         refine gop_rf ?_
         refine ob_i (ou19.sl.ld 0 (by omega) (by omega)) ?_
         refine gop_e (decide_eq_false hc58) ?_
         refine gop_rf ?_
         refine gop_e (decide_eq_false hc58) ?_
         refine gop_rf ?_
         refine gop_e (decide_eq_false hc58) ?_
         refine gop_rf ?_
         refine ob_i (ou19.sl.ix (by omega) (by omega)) ?_
         refine gop_e (decide_eq_false hc58) ?_
         refine gop_rf ?_
         refine ob_i (ou19.sl.ld 0 (by omega) (by omega)) ?_
         refine gop_e (decide_eq_false hc58) ?_
         refine gop_rf ?_
         refine ob_i (vInt_lss _ _ _) ?_
         refine ob_i (vPick_ef (decide_eq_false hc58) _ _) ?_
         by_cases hc59 : (at_ 0 (csL 2 1 lT n) ((2 * (t : Int)) + 1)) < (at_ 0 (csL 2 1 lT n) (2 * (t : Int)))
         ·skip
          refine gop_e (decide_eq_true hc59) ?_
          refine gop_st ?_
          refine gop_e (decide_eq_true hc59) ?_
          refine gop_st ?_
          refine gop_e (decide_eq_true hc59) ?_
          refine gop_st ?_
          refine gop_e (decide_eq_true hc59) ?_
          refine gop_st ?_
          refine gop_e (decide_eq_true hc59) ?_
          refine gop_st ?_
          refine gop_e (decide_eq_true hc59) ?_
          refine gop_st ?_
          refine gop_e (decide_eq_true hc59) ?_
          refine gop_st ?_
          refine gop_e (decide_eq_true hc59) ?_
          refine gop_st ?_
          refine gop_e (decide_eq_true hc59) ?_
          refine gop_st ?_
          refine gop_e (decide_eq_true hc59) ?_
          refine gop_st ?_
          refine gop_e (decide_eq_true hc59) ?_
          refine gop_st ?_
          refine ob_i (vPick_et (decide_eq_true hc59) _ _) ?_
          refine cnd_t1 ?_
          refine retK (K := K) (v' := (.bool false)) rfl ?_
          exfalso
          first | omega | exact absurd rfl hc59 | exact hc59 (by rw [hat.1, hat.2]; exact hrow.2.2) | exact no_again hno hag
         ·skip
          refine gop_e (decide_eq_false hc59) ?_
          refine gop_rf ?_
          refine gop_e (decide_eq_false hc59) ?_
          refine gop_rf ?_
          refine gop_e (decide_eq_false hc59) ?_
          refine gop_rf ?_
          refine ob_i (vInt_add (by omega) (by omega)) ?_
          refine gop_e (decide_eq_false hc59) ?_
          refine gop_rf ?_
          refine ob_i (ou19.sl.ix (by omega) (by omega)) ?_
          refine gop_e (decide_eq_false hc59) ?_
          refine gop_rf ?_
          refine ob_i (ou19.sl.ld 0 (by omega) (by omega)) ?_
          refine gop_e (decide_eq_false hc59) ?_
          refine gop_rf ?_
          refine gop_e (decide_eq_false hc59) ?_
          refine gop_rf ?_
          refine gop_e (decide_eq_false hc59) ?_
          refine gop_rf ?_
          refine ob_i (ou19.sl.ix (by omega) (by omega)) ?_
          refine gop_e (decide_eq_false hc59) ?_
          refine gop_rf ?_
          refine ob_i (ou19.sl.ld 0 (by omega) (by omega)) ?_
          refine gop_e (decide_eq_false hc59) ?_
          refine gop_rf ?_
          have rm60 := And.intro (Int.emod_nonneg (at_ 0 (csL 2 1 lT n) ((2 * (t : Int)) + 1)) (b := at_ 0 (csL 2 1 lT n) (2 * (t : Int))) (by omega)) (Int.emod_lt_of_pos (at_ 0 (csL 2 1 lT n) ((2 * (t : Int)) + 1)) (b := at_ 0 (csL 2 1 lT n) (2 * (t : Int))) (by omega))
          refine ob_i (vInt_remN (by omega) (by omega)) ?_
          refine gop_e (decide_eq_false hc59) ?_
          refine gop_rf ?_
          refine ob_i (vInt_neq _ _ _) ?_
          refine ob_i (vPick_ef (decide_eq_false hc59) _ _) ?_
          refine cnd_d (fun hg61 => ?_) (fun hg61 => ?_)
          ·skip
           refine retK (K := K) (v' := (.bool false)) rfl ?_
           exfalso
           first | omega | exact absurd rfl hg61 | exact hg61 (by rw [hat.1, hat.2]; exact hrow.2.2) | exact no_again hno hag
          ·skip
           refine ob_i (vInt_add (by omega) (by omega)) ?_
           refine ob_i (ou19.sl.ix (by omega) (by omega)) ?_
           refine ob_i (ou19.sl.ld 0 (by omega) (by omega)) ?_
           refine ob_i (vInt_add (by omega) (by omega)) ?_
           refine ob_i (vInt_add (by omega) (by omega)) ?_
           exact nxt ((kyL (cntK (cyL nx)) (nx.length + 1)).length - (t + 1)) (by omega) ⟨t + 1, rfl, by omega, g1L56, g5L56, g6L56, g7L56, g8L56, g13L56, (congrArg (Value.int .i64) (by omega)), (congrArg (Value.int .i64) (by first | omega | rfl | (simp; done))), ou6, op8, ou19, ou23, lE⟩
       ·skip
        have tt := hg57
        exact hJ38 _ _ ⟨g1L56, g5L56, g6L56, g8L56, g13L56, (g19L56.trans (congrArg (Value.int .i64) (by rw [List.take_of_length_le (by omega)]; exact hsmA))), ou6, op8, ou19, ou23, lE⟩
  ·skip
   refine ob_i (vPick_f _ _) ?_
   refine gop_st ?_
   refine gop_st ?_
   refine gop_st ?_
   refine ob_i (vPick_t _ _) ?_
   refine gop_st ?_
   refine gop_st ?_
   refine gop_st ?_
   refine ob_i (vPick_t _ _) ?_
   refine gop_st ?_
   refine gop_st ?_
   refine gop_st ?_
   refine gop_st ?_
   refine ob_i (vPick_t _ _) ?_
   refine gop_st ?_
   refine gop_st ?_
   refine gop_st ?_
   refine ob_i (vPick_t _ _) ?_
   refine cnd_t1 ?_
   exfalso
   first | omega | exact absurd rfl hc33 | exact hc33 (by rw [hat.1, hat.2]; exact hrow.2.2) | exact no_again hno hag
theorem L.FnCycles {vy vm : Value} {l m : List Int} {H : Hp} {K : Value → Hp → Prop} (h0 : Sl eU H vy l) (h1 : Sl eU H vm m) (l0 : l.length ≤ 9223372036854775807) (l1 : m.length ≤ 9223372036854775807) (b0 : bytP l) (b1 : bytP m) (hk : ∀ H', Le H H' → K (.bool true) H') : HT prg I.laws_FnCycles [vy, vm].toArray H K :=
  C.laws_FnCycles h0 h1 b0 l0 b1 l1 hk
end Go.Proofs.Ythmdmbbdjbhcoaa
