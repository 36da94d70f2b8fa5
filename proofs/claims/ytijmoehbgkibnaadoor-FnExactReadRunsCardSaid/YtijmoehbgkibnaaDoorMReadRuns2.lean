/- Several texts in one. -/
import Derived.Test.YtijmoehbgkibnaaDoorMReadRuns1
import Derived.Test.YtijmoehbgkibnaaDoorMReadRuns0
import Derived.Test.YtijmoehbgkibnaaDoorG0
import Derived.Below
import Derived.WalkKit
import Derived.ProofKit
import Derived.Test.YtijmoehbgkibnaaDoorRows
import Derived.Handed
import Derived.Stop.LaidErr
import Derived.Lib.LaidTab
import Derived.LaidHandle
set_option linter.unusedVariables false
/- Texts that are no field: the program and the reference say no. -/
namespace Go.Proofs.YtijmoehbgkibnaaDoor
open HL
set_option maxRecDepth 100000
attribute [local irreducible] vStr
attribute [local irreducible] Go.Lib.cut Go.Lib.trimSuffix Go.Lib.hasSuffix Go.Lib.indexAny Go.Lib.split
open Go.RowKit (Below)
theorem indexAny_ge (s t : List UInt8) : -1 ≤ Go.Lib.indexAny s t ∧ Go.Lib.indexAny s t < s.length := by
  refine ⟨Go.Lib.indexAny_ge t s, ?_⟩
  induction s with
  | nil => unfold Go.Lib.indexAny; simp
  | cons b l ih =>
    unfold Go.Lib.indexAny
    simp only [List.length_cons]
    split
    · omega
    · split <;> omega
theorem C.indexAny_any {s : List UInt8} {H : Hp} {K : Value → Hp → Prop} (hs : s.length ≤ 1000000) (hk : ∀ x : Int, -1 ≤ x → x < s.length → K (.int .i64 x) H) : HT prg I.strings_IndexAny [vS s, vS [98, 111]].toArray H K :=
  HT_below fun w hw => by
    by_cases h8 : s.length ≤ 8
    · have h := indexAny_bo_short lays_ia (tS s) w (by rw [tS_size]; exact h8)
      rw [ia_num] at h
      refine h.mono fun e w' ⟨x, he, hx, hb⟩ => ⟨_, he, hb, hk x hx.1 hx.2⟩
    · have h := indexAny_long_calls ia_zero (tS s) (tS [98, 111]) w (by decide) (by rw [tS_size]; omega) (by rw [tS_size]; omega) (by decide) (fun j b hj => by
        have hm := List.mem_of_getElem? hj
        rw [tS_data] at hm
        simp only [List.mem_cons, List.not_mem_nil, or_false] at hm
        rcases hm with rfl | rfl <;> decide)
      refine h.mono fun e w' ⟨he, hn⟩ => ⟨_, he, hn ▸ (Below.alloc (Below.alloc (Below.refl _ w) (Nat.le_refl _) _) (Below.alloc (Below.refl _ w) (Nat.le_refl _) _).size _), ?_⟩
      have hb := indexAny_ge s [98, 111]
      exact hk _ hb.1 hb.2
theorem below_get {H : Hp} {w : World} (hw : Sub H w) (hv : VR H) : (∃ t p, w.cell? ⟨gSyn, 0, none⟩ = some (.iface t p)) ∧ (∃ t p, w.cell? ⟨gRan, 0, none⟩ = some (.iface t p)) := ⟨(hv w hw).2.1, (hv w hw).2.2.1⟩
theorem C.parse_any {s : List UInt8} {H : Hp} {K : Value → Hp → Prop} (hs : s.length ≤ 1000000) (hv : VR H) (hk1 : ∀ n : Int, -9223372036854775808 ≤ n → n ≤ 9223372036854775807 → K (.tuple #[.int .i64 n, .nilIface]) H) (hk2 : ∀ (n : Int) (q : Value), -9223372036854775808 ≤ n → n ≤ 9223372036854775807 → K (.tuple #[.int .i64 n, .iface tErr q]) H) :
    HT prg I.strconv_ParseInt [vS s, .int .i64 10, .int .i64 64].toArray H K :=
  HT_below fun w hw => by
    obtain ⟨⟨t1, p1, h1⟩, t2, p2, h2⟩ := below_get hw hv
    cases h : Go.Lib.parseIntB 64 s with
    | ok v =>
      have hb := Go.Lib.parseIntB_bounds h
      rw [show ((2 ^ (64 - 1) : Nat) : Int) = 9223372036854775808 by decide] at hb
      refine (parse_ok_calls (tS s) (by rw [tS_size]; omega) v h w).mono fun e w' ⟨he, hn⟩ => ?_
      have hk := hk1 v (by omega) (by omega)
      rcases hn with hn | ⟨t, hn⟩
      · exact ⟨_, he, hn ▸ Below.refl _ _, hk⟩
      · exact ⟨_, he, hn ▸ below_bytes w 5 t, hk⟩
    | range =>
      refine (parse_ran_calls (tS s) (by rw [tS_size]; omega) h _ w h2 (.inr ⟨_, _, rfl⟩)).mono fun e w' ⟨q, he, hb⟩ => ⟨_, he, hb, hk2 _ q ?_ ?_⟩
      · unfold Go.Lib.intSat; split <;> decide
      · unfold Go.Lib.intSat; split <;> decide
    | _ => exact (parse_syn_calls (tS s) (by rw [tS_size]; omega) (by show noNum (Go.Lib.parseIntB 64 s) = true; rw [h]; rfl) _ w h1 (.inr ⟨_, _, rfl⟩)).mono fun e w' ⟨q, he, hb⟩ => ⟨_, he, hb, hk2 0 q (by omega) (by omega)⟩
theorem C.dec_any {n : Int} {H : Hp} {K : Value → Hp → Prop} (h0 : -1000000000000000 ≤ n) (h1 : n ≤ 1000000000000000) (hv : VR H) (hk : ∀ t : List UInt8, K (vS t) H) : HT prg I.impl_Decimal [.int .i64 n].toArray H K := by
 refine R.impl_Decimal ?_
 unfold F.impl_Decimal
 refine HT_below fun w hw => ?_
 refine (format_calls n (by omega) (by omega) w (hv w hw).2.2.2).mono fun e w' ⟨he, k, os, hn⟩ => ⟨_, he, hn ▸ below_grow w k os, hk _⟩
theorem C.read_any {s : List UInt8} {H : Hp} {K : Value → Hp → Prop} (hs : s.length ≤ 1000000) (hv : VR H) (hk : ∀ (n : Int) (b : Bool), -1000000000000000 ≤ n → n ≤ 1000000000000000 → K (.tuple #[.int .i64 n, .bool b]) H) : HT prg I.impl_ReadDecimal [vS s].toArray H K := by
 refine R.impl_ReadDecimal ?_
 unfold F.impl_ReadDecimal
 refine C.parse_any hs hv (fun n n0 n1 => ?_) (fun n q n0 n1 => ?_)
 ·refine ob_i (vExt_20 _ _) ?_
  refine ob_i (vExt_21 _ _) ?_
  refine ob_i (a := .bool false) (by kernel_rfl) ?_
  refine gop_rf ?_
  refine gop_rf ?_
  refine C.impl_isValue ?_
  by_cases hg : -1000000000000000 ≤ n ∧ n ≤ 1000000000000000
  ·rw [decide_eq_true hg]
   refine gop_rf ?_
   refine ob_i (a := .bool false) rfl ?_
   refine ob_i (vPick_f _ _) ?_
   refine gop_rf ?_
   refine gop_rf ?_
   refine C.dec_any hg.1 hg.2 hv (fun t => ?_)
   refine gop_rf ?_
   refine gop_rf ?_
   refine ob_i (vStr_neq _ _) ?_
   refine ob_i (vPick_f _ _) ?_
   refine cnd_d (fun _ => hk 0 false (by omega) (by omega)) (fun _ => hk n true hg.1 hg.2)
  ·rw [decide_eq_false hg]
   refine gop_rf ?_
   refine ob_i (a := .bool true) rfl ?_
   refine ob_i (vPick_f _ _) ?_
   refine gop_st ?_
   refine gop_st ?_
   refine gop_st ?_
   refine gop_st ?_
   refine ob_i (vPick_t _ _) ?_
   exact cnd_t1 (hk 0 false (by omega) (by omega))
 ·refine ob_i (vExt_20 _ _) ?_
  refine ob_i (vExt_21 _ _) ?_
  refine ob_i (a := .bool true) (by kernel_rfl) ?_
  refine gop_st ?_
  refine gop_st ?_
  refine gop_st ?_
  refine ob_i (vPick_t _ _) ?_
  refine gop_st ?_
  refine gop_st ?_
  refine gop_st ?_
  refine gop_st ?_
  refine ob_i (vPick_t _ _) ?_
  exact cnd_t1 (hk 0 false (by omega) (by omega))
theorem cut_len (s : List UInt8) (c : UInt8) : (Go.Lib.cut s [c]).1.length ≤ s.length ∧ (Go.Lib.cut s [c]).2.1.length ≤ s.length := by
  unfold Go.Lib.cut
  split
  · simp only [List.length_take, List.length_drop]; omega
  · simp
theorem trim_len (s : List UInt8) (c : UInt8) : (Go.Lib.trimSuffix s [c]).length ≤ s.length := by
  unfold Go.Lib.trimSuffix
  split
  · simp only [List.length_take]; omega
  · omega
theorem spK_len (c : UInt8) : ∀ (k : Nat) (s : List UInt8), (Go.Lib.splitK [c] 0 k s).length ≤ k + 1 ∧ ∀ x ∈ Go.Lib.splitK [c] 0 k s, x.length ≤ s.length
  | 0, s => by simp [Go.Lib.splitK]
  | k + 1, s => by
    unfold Go.Lib.splitK
    split
    · simp
    · have hd : (s.drop ((Go.Lib.index s [c]).toNat + [c].length)).length ≤ s.length := by rw [List.length_drop]; omega
      generalize s.drop ((Go.Lib.index s [c]).toNat + [c].length) = s2 at hd
      have ih := spK_len c k s2
      refine ⟨by simp only [List.length_cons]; omega, fun x hx => ?_⟩
      rcases List.mem_cons.mp hx with rfl | hx
      · simp only [List.length_take]; omega
      · have := ih.2 x hx
        omega
theorem sp_len (s : List UInt8) (c : UInt8) : (spT s c).length ≤ s.length + 1 ∧ ∀ x ∈ spT s c, x.length ≤ s.length := by
  unfold spT Go.Lib.split
  have h := spK_len c (Go.Lib.count s [c]) s
  have hc : Go.Lib.count s [c] ≤ s.length := by rw [Go.Lib.count_one]; exact List.count_le_length
  exact ⟨by omega, h.2⟩
theorem dgX_nn {s : List UInt8} {p : Int} (h : digP s p) : 0 ≤ dgX s p := by
  unfold dgX dgC
  rw [if_pos h]
  obtain ⟨_, a, b⟩ := h
  by_cases h2 : digP s (p + 1)
  · rw [if_pos h2]
    obtain ⟨_, a2, b2⟩ := h2
    rw [if_neg (by omega)]
    simp only [dgV, Int.natCast_zero, Int.add_zero, Int.natCast_one]; omega
  · rw [if_neg h2, if_neg (by omega)]
    simp only [dgV, Int.natCast_zero, Int.add_zero]; omega
theorem C.readRow_any {c : Int} {t0 : List UInt8}  {H : Hp} {K : Value → Hp → Prop} (ht : t0.length ≤ 1200) (c0 : 1 ≤ c) (c1 : c ≤ 24) (hv : VR H)
    (hk1 : True → ∀ H', Le H H' → K (.tuple #[(.slice none 0 0), (.bool false)]) H')
    (hk2 : True → ∀ (lo : List Int), ((lo.length : Int) = c) → ∀ u1 H', Own eI H' u1 lo → Nw H u1 → Le H H' → K (.tuple #[u1, (.bool true)]) H') : HT prg I.impl_readRow [(vS (t0)), (.int .i64 (c))].toArray H K := by
 have lE := Le.refl H
 refine R.impl_readRow ?_
 unfold F.impl_readRow
 refine bS_nil (enc := eI) (fun u1 H2 ou1 nn3 kk4 le5 => ?_)
 have nu1 : Nw H u1 := nn3.le lE
 replace lE := lE.trans le5
 refine jn_i (fun σ' H' => ∃ u, ∃ lx : List Int, σ' 1 = (.int .i64 (c)) ∧ σ' 6 = u ∧ Own eI H' u (lx) ∧ Nw H u ∧ Le H H' ∧ lx.length ≤ 28800) (fun σ6 H6 hP => ?_) (fun J6 hJ6 => ?_)
 ·skip
  obtain ⟨u, lx, g1L6, g6L6, ou, nu, lE, ho0⟩ := hP
  try simp only [g1L6, g6L6]
  refine ob_i (ou.len) ?_
  refine ob_i (vInt_gtr _ _ _) ?_
  refine cnd_d (fun hg7 => ?_) (fun hg7 => ?_)
  ·skip
   skip
   exact hk1 (by trivial)  _    lE
  ·skip
   refine ob_i (ou.len) ?_
   refine ob_i (vInt_sub (by omega) (by omega)) ?_
   refine apm_any (x0 := (0 : Int)) ou rfl (by omega) (by omega) (by first | omega | (simp only [List.length_append, List.length_cons, List.length_nil, List.length_take, List.length_drop]; omega)) (fun u11 H8 ou11 off9 hb10 => ?_)
   have nu11 : Nw H u11 := Nw.ap2 nu lE hb10
   replace lE := off9.le lE nu
   skip
   exact hk2 (by trivial) (lx ++ List.replicate (c - (((lx).length : Int)) : Int).toNat 0) (by simp only [List.length_append, List.length_replicate]; omega) u11 _ ou11 nu11  lE
 refine ⟨fun n' σ' H' => ∃ i : Nat, n' = t0.length - i ∧ i ≤ t0.length ∧ ∃ u, ∃ tx : List UInt8, ∃ lx : List Int, σ' 0 = (vS (tx)) ∧ σ' 1 = (.int .i64 (c)) ∧ σ' 6 = u ∧ Own eI H' u (lx) ∧ Nw H u ∧ Le H H' ∧ tx.length + i ≤ t0.length ∧ lx.length ≤ 24 * i,
  ⟨_, 0, rfl, by omega, u1, t0, [], rfl, rfl, rfl, (Own.cast (by first | rfl | (simp; done)) ou1), nu1, lE, (by omega), (by simp)⟩, ?_⟩
 rintro n12 σ12 H12 ⟨i, rfl, hiN, u, tx, lx, g0L12, g1L12, g6L12, ou, nu, lE, hm0, hm1⟩
 try simp only [g0L12, g1L12, g6L12]
 refine ob_i (vStr_neq (tx) (([] : List UInt8))) ?_
 refine cnd_d (fun hg13 => ?_) (fun hg13 => ?_)
 ·skip
  have ti := hg13
  refine C.indexAny_any (by omega) (fun x14 xa15 xb16 => ?_)
  refine ob_i (vInt_lss _ _ _) ?_
  refine cnd_d (fun hg17 => ?_) (fun hg17 => ?_)
  ·skip
   refine retK (K := K) (v' := (.tuple #[(.slice none 0 0), (.bool false)])) rfl ?_
   skip
   exact hk1 (by trivial)  _    lE
  ·skip
   refine jn_i (fun σ' H' => ∃ kk : Int, σ' 0 = (vS (tx)) ∧ σ' 1 = (.int .i64 (c)) ∧ σ' 6 = u ∧ σ' 7 = (.int .i64 (x14)) ∧ σ' 8 = (.int .i64 (kk)) ∧ Own eI H' u (lx) ∧ Le H H' ∧ (1 ≤ kk ∧ kk ≤ 24)) (fun σ18 H18 hP => ?_) (fun J18 hJ18 => ?_)
   ·skip
    obtain ⟨kk, g0L18, g1L18, g6L18, g7L18, g8L18, ou, lE, hkk⟩ := hP
    try simp only [g0L18, g6L18, g7L18, g8L18]
    refine jn_i (fun σ' H' => ∃ u, ∃ ly : List Int, σ' 0 = (vS (tx)) ∧ σ' 1 = (.int .i64 (c)) ∧ σ' 6 = u ∧ σ' 7 = (.int .i64 (x14)) ∧ Own eI H' u (ly) ∧ Nw H u ∧ Le H H' ∧ ly.length ≤ lx.length + 24) (fun σ19 H19 hP => ?_) (fun J19 hJ19 => ?_)
    ·skip
     obtain ⟨u, ly, g0L19, g1L19, g6L19, g7L19, ou, nu, lE, hly2⟩ := hP
     try simp only [g0L19, g7L19]
     refine ob_i (vInt_add (by omega) (by omega)) ?_
     refine ob_i (vSlS_lo (a := tx) (by omega) (by first | omega | (simp only [List.length_append, List.length_cons, List.length_nil, List.length_take, List.length_drop]; omega))) ?_
     exact nxt (t0.length - (i + 1)) (by omega) ⟨i + 1, rfl, by omega, u, ((tx).drop (x14 + 1 : Int).toNat), (ly), rfl, g1L19, g6L19, ou, nu, lE, (by first | omega | (simp only [List.length_append, List.length_drop, List.length_singleton]; omega)), (by first | omega | (simp only [List.length_append, List.length_drop, List.length_singleton]; omega))⟩
    refine ⟨fun n' σ' H' => ∃ j : Nat, n' = kk.toNat - j ∧ j ≤ kk.toNat ∧ ∃ u, ∃ ly : List Int, σ' 0 = (vS (tx)) ∧ σ' 1 = (.int .i64 (c)) ∧ σ' 6 = u ∧ σ' 7 = (.int .i64 (x14)) ∧ σ' 36 = (.int .i64 (kk)) ∧ σ' 37 = (.int .i64 ((j : Int))) ∧ Own eI H' u (ly) ∧ Nw H u ∧ Le H H' ∧ ly.length = lx.length + j,
     ⟨_, 0, rfl, by omega, u, lx, g0L18, g1L18, g6L18, g7L18, rfl, (congrArg (Value.int .i64) (by first | omega | rfl | (simp; done))), (Own.cast (by first | rfl | (simp; done)) ou), nu, lE, (by omega)⟩, ?_⟩
    rintro n20 σ20 H20 ⟨j, rfl, hjN, u, ly, g0L20, g1L20, g6L20, g7L20, g36L20, g37L20, ou, nu, lE, hly⟩
    try simp only [g0L20, g6L20, g7L20, g36L20, g37L20]
    refine ob_i (vInt_lss _ _ _) ?_
    refine cnd_d (fun hg21 => ?_) (fun hg21 => ?_)
    ·skip
     have tj := hg21
     refine ob_i (vIndexS_t (a := tx) (by omega) (by first | omega | (simp only [List.length_append, List.length_cons, List.length_nil, List.length_take, List.length_drop]; omega))) ?_
     refine ob_i (vInt_eql _ _ _) ?_
     refine R.impl_bit ?_
     unfold F.impl_bit
     refine cnd_d (fun hg22 => ?_) (fun hg22 => ?_)
     ·skip
      refine bS_i (enc := eI) (l := [(1 : Int)]) (by omega) rfl (by kernel_rfl) (fun u23 H24 ou23 nn25 le27 => ?_)
      replace ou := ou.le le27
      replace lE := lE.trans le27
      refine apd_any ou ou23.sl (fun _ => rfl) (by omega) (by first | omega | (simp only [List.length_cons, List.length_nil, List.length_append, List.length_replicate, List.length_map, List.length_range]; omega)) (fun u31 H28 ou31 off29 hb30 => ?_)
      have nu31 : Nw H u31 := Nw.ap2 nu lE hb30
      replace lE := off29.le lE nu
      refine ob_i (vInt_add (by omega) (by omega)) ?_
      exact nxt (kk.toNat - (j + 1)) (by omega) ⟨j + 1, rfl, by omega, u31, (ly ++ ([(1 : Int)])), g0L20, g1L20, rfl, g7L20, g36L20, (congrArg (Value.int .i64) (by first | omega | rfl | (simp; done))), ou31, nu31, lE, (by first | omega | (simp only [List.length_append, List.length_drop, List.length_singleton]; omega))⟩
     ·skip
      refine bS_i (enc := eI) (l := [(0 : Int)]) (by omega) rfl (by kernel_rfl) (fun u32 H33 ou32 nn34 le36 => ?_)
      replace ou := ou.le le36
      replace lE := lE.trans le36
      refine apd_any ou ou32.sl (fun _ => rfl) (by omega) (by first | omega | (simp only [List.length_cons, List.length_nil, List.length_append, List.length_replicate, List.length_map, List.length_range]; omega)) (fun u40 H37 ou40 off38 hb39 => ?_)
      have nu40 : Nw H u40 := Nw.ap2 nu lE hb39
      replace lE := off38.le lE nu
      refine ob_i (vInt_add (by omega) (by omega)) ?_
      exact nxt (kk.toNat - (j + 1)) (by omega) ⟨j + 1, rfl, by omega, u40, (ly ++ ([(0 : Int)])), g0L20, g1L20, rfl, g7L20, g36L20, (congrArg (Value.int .i64) (by first | omega | rfl | (simp; done))), ou40, nu40, lE, (by first | omega | (simp only [List.length_append, List.length_drop, List.length_singleton]; omega))⟩
    ·skip
     have tj := hg21
     exact hJ19 _ _ ⟨u, ly, g0L20, g1L20, g6L20, g7L20, ou, nu, lE, (by omega)⟩
   refine ob_i (vInt_gtr _ _ _) ?_
   refine cnd_d (fun hg41 => ?_) (fun hg41 => ?_)
   ·skip
    refine ob_i (vSlS_hi (a := tx) (by omega) (by first | omega | (simp only [List.length_append, List.length_cons, List.length_nil, List.length_take, List.length_drop]; omega))) ?_
    refine C.read_any (by first | omega | (simp only [List.length_take]; omega)) (hv.le lE) (fun n42 b43 na44 nb45 => ?_)
    refine ob_i (vExt_20 _ _) ?_
    refine ob_i (vExt_21 _ _) ?_
    refine ob_i (vUn_not _) ?_
    by_cases hc46 : (!(b43)) = true
    ·skip
     refine gop_e (hc46) ?_
     refine gop_st ?_
     refine gop_e (hc46) ?_
     refine gop_st ?_
     refine gop_e (hc46) ?_
     refine gop_st ?_
     refine gop_e (hc46) ?_
     refine gop_st ?_
     refine ob_i (vPick_et (hc46) _ _) ?_
     refine cnd_t1 ?_
     refine retK (K := K) (v' := (.tuple #[(.slice none 0 0), (.bool false)])) rfl ?_
     skip
     exact hk1 (by trivial)  _    lE
    ·skip
     refine gop_e (eq_false_of_ne_true hc46) ?_
     refine gop_rf ?_
     refine gop_e (eq_false_of_ne_true hc46) ?_
     refine gop_rf ?_
     refine gop_e (eq_false_of_ne_true hc46) ?_
     refine gop_rf ?_
     refine C.impl_within  ?_
     refine gop_e (eq_false_of_ne_true hc46) ?_
     refine gop_rf ?_
     refine ob_nd (fun hc47 => ?_) (fun hc47 => ?_)
     ·skip
      refine ob_i (vPick_ef (eq_false_of_ne_true hc46) _ _) ?_
      refine cnd_f1 ?_
      exact hJ18 _ _ ⟨(n42), g0L12, g1L12, g6L12, rfl, rfl, ou, lE, (by omega)⟩
     ·skip
      refine ob_i (vPick_ef (eq_false_of_ne_true hc46) _ _) ?_
      refine cnd_t1 ?_
      refine retK (K := K) (v' := (.tuple #[(.slice none 0 0), (.bool false)])) rfl ?_
      skip
      exact hk1 (by trivial)  _    lE
   ·skip
    exact hJ18 _ _ ⟨(1), g0L12, g1L12, g6L12, rfl, rfl, ou, lE, (by omega)⟩
 ·skip
  have ti := hg13
  exact hJ6 _ _ ⟨u, (lx), g1L12, g6L12, ou, nu, lE, (by omega)⟩
theorem C.readRuns_no {s : List UInt8}  {H : Hp} {K : Value → Hp → Prop} (hno : ∀ (r c : Int) (l : List Int), fieldN 1 r c l → s.length ≤ 1200 → fieldT r c l ≠ s) (hv : VR H)
    (hk : ∀ H', Le H H' → K (.tuple #[(.agg #[(.int .i64 (0)), (.int .i64 (0)), (.slice none 0 0)]), (.bool false)]) H') : HT prg I.impl_ReadRuns [(vS (s))].toArray H K := by
 have lE := Le.refl H
 refine R.impl_ReadRuns ?_
 unfold F.impl_ReadRuns
 refine nw_i (fun p1 H2 op1 nn3 le4 => ?_)
 have np1 : Nw H p1 := nn3.le lE
 replace lE := lE.trans le4
 replace op1 : Cel H2 p1 [(.int .i64 (0)), (.int .i64 (0)), (.slice none 0 0)] := op1
 refine ob_i (vLenS_t (s)) ?_
 refine ob_i (vInt_gtr _ _ _) ?_
 refine cnd_d (fun hg5 => ?_) (fun hg5 => ?_)
 ·skip
  refine ob_i (a := (.agg #[(.int .i64 (0)), (.int .i64 (0)), (.slice none 0 0)])) (by rfl) ?_
  refine op1.stn (ws := [(.int .i64 (0)), (.int .i64 (0)), (.slice none 0 0)]) rfl rfl (oc1 rfl (oc1 rfl (oc1 rfl oc0))) (fun H6 op1 off7 => ?_)
  replace lE := off7.le lE np1
  replace op1 : Cel H6 p1 [(.int .i64 (0)), (.int .i64 (0)), (.slice none 0 0)] := op1
  refine ob_i (op1.ldn rfl) ?_
  skip
  exact hk   _    lE
 ·skip
  have cl8 := cut_len (s) 58
  refine C.strings_Cut (by omega) (hv.le lE) ?_
  refine ob_i (vExt_30 _ _ _) ?_
  refine ob_i (vExt_31 _ _ _) ?_
  refine ob_i (vExt_32 _ _ _) ?_
  have cl9 := cut_len ((Go.Lib.cut (s) [58]).1) 44
  refine C.strings_Cut (by omega) (hv.le lE) ?_
  refine ob_i (vExt_30 _ _ _) ?_
  refine ob_i (vExt_31 _ _ _) ?_
  refine ob_i (vExt_32 _ _ _) ?_
  refine C.read_any (by first | omega | (simp only [List.length_take]; omega)) (hv.le lE) (fun c b10 na11 nb12 => ?_)
  refine ob_i (vExt_20 _ _) ?_
  refine ob_i (vExt_21 _ _) ?_
  refine C.read_any (by first | omega | (simp only [List.length_take]; omega)) (hv.le lE) (fun r b13 na14 nb15 => ?_)
  refine ob_i (vExt_20 _ _) ?_
  refine ob_i (vExt_21 _ _) ?_
  have cl16 := trim_len ((Go.Lib.cut (s) [58]).2.1) 33
  refine C.strings_CutSuffix (by omega) ?_
  refine ob_i (vExt_20 _ _) ?_
  refine ob_i (vExt_21 _ _) ?_
  refine ob_i (vUn_not _) ?_
  by_cases hc17 : (!(b10)) = true
  ·skip
   refine gop_e (hc17) ?_
   refine gop_st ?_
   refine gop_e (hc17) ?_
   refine gop_st ?_
   refine ob_i (vPick_et (hc17) _ _) ?_
   refine gop_st ?_
   refine gop_st ?_
   refine ob_i (vPick_t _ _) ?_
   refine gop_st ?_
   refine gop_st ?_
   refine gop_st ?_
   refine ob_i (vPick_t _ _) ?_
   refine gop_st ?_
   refine gop_st ?_
   refine gop_st ?_
   refine ob_i (vPick_t _ _) ?_
   refine cnd_t1 ?_
   refine ob_i (a := (.agg #[(.int .i64 (0)), (.int .i64 (0)), (.slice none 0 0)])) (by rfl) ?_
   refine op1.stn (ws := [(.int .i64 (0)), (.int .i64 (0)), (.slice none 0 0)]) rfl rfl (oc1 rfl (oc1 rfl (oc1 rfl oc0))) (fun H18 op1 off19 => ?_)
   replace lE := off19.le lE np1
   replace op1 : Cel H18 p1 [(.int .i64 (0)), (.int .i64 (0)), (.slice none 0 0)] := op1
   refine ob_i (op1.ldn rfl) ?_
   skip
   exact hk   _    lE
  ·skip
   refine gop_e (eq_false_of_ne_true hc17) ?_
   refine gop_rf ?_
   refine gop_e (eq_false_of_ne_true hc17) ?_
   refine gop_rf ?_
   refine ob_i (vUn_not _) ?_
   refine ob_i (vPick_ef (eq_false_of_ne_true hc17) _ _) ?_
   by_cases hc20 : (!(b13)) = true
   ·skip
    refine gop_e (hc20) ?_
    refine gop_st ?_
    refine gop_e (hc20) ?_
    refine gop_st ?_
    refine ob_i (vPick_et (hc20) _ _) ?_
    refine gop_st ?_
    refine gop_st ?_
    refine gop_st ?_
    refine ob_i (vPick_t _ _) ?_
    refine gop_st ?_
    refine gop_st ?_
    refine gop_st ?_
    refine ob_i (vPick_t _ _) ?_
    refine cnd_t1 ?_
    refine ob_i (a := (.agg #[(.int .i64 (0)), (.int .i64 (0)), (.slice none 0 0)])) (by rfl) ?_
    refine op1.stn (ws := [(.int .i64 (0)), (.int .i64 (0)), (.slice none 0 0)]) rfl rfl (oc1 rfl (oc1 rfl (oc1 rfl oc0))) (fun H21 op1 off22 => ?_)
    replace lE := off22.le lE np1
    replace op1 : Cel H21 p1 [(.int .i64 (0)), (.int .i64 (0)), (.slice none 0 0)] := op1
    refine ob_i (op1.ldn rfl) ?_
    skip
    exact hk   _    lE
   ·skip
    refine gop_e (eq_false_of_ne_true hc20) ?_
    refine gop_rf ?_
    refine gop_e (eq_false_of_ne_true hc20) ?_
    refine gop_rf ?_
    refine ob_i (vUn_not _) ?_
    refine ob_i (vPick_ef (eq_false_of_ne_true hc20) _ _) ?_
    by_cases hc23 : (!(Go.Lib.hasSuffix ((Go.Lib.cut (s) [58]).2.1) [33])) = true
    ·skip
     refine gop_e (hc23) ?_
     refine gop_st ?_
     refine gop_e (hc23) ?_
     refine gop_st ?_
     refine gop_e (hc23) ?_
     refine gop_st ?_
     refine ob_i (vPick_et (hc23) _ _) ?_
     refine gop_st ?_
     refine gop_st ?_
     refine gop_st ?_
     refine ob_i (vPick_t _ _) ?_
     refine cnd_t1 ?_
     refine ob_i (a := (.agg #[(.int .i64 (0)), (.int .i64 (0)), (.slice none 0 0)])) (by rfl) ?_
     refine op1.stn (ws := [(.int .i64 (0)), (.int .i64 (0)), (.slice none 0 0)]) rfl rfl (oc1 rfl (oc1 rfl (oc1 rfl oc0))) (fun H24 op1 off25 => ?_)
     replace lE := off25.le lE np1
     replace op1 : Cel H24 p1 [(.int .i64 (0)), (.int .i64 (0)), (.slice none 0 0)] := op1
     refine ob_i (op1.ldn rfl) ?_
     skip
     exact hk   _    lE
    ·skip
     refine gop_e (eq_false_of_ne_true hc23) ?_
     refine gop_rf ?_
     refine gop_e (eq_false_of_ne_true hc23) ?_
     refine gop_rf ?_
     refine C.impl_isSide  ?_
     refine gop_e (eq_false_of_ne_true hc23) ?_
     refine gop_rf ?_
     refine ob_nd (fun hc26 => ?_) (fun hc26 => ?_)
     ·skip
      refine ob_i (vPick_ef (eq_false_of_ne_true hc23) _ _) ?_
      refine gop_rf ?_
      refine gop_rf ?_
      refine C.impl_isSide  ?_
      refine gop_rf ?_
      refine ob_nd (fun hc27 => ?_) (fun hc27 => ?_)
      ·skip
       refine ob_i (vPick_f _ _) ?_
       refine cnd_f1 ?_
       refine ob_i (a := (.agg #[(.int .i64 (r)), (.int .i64 (c)), (.slice none 0 0)])) (by rfl) ?_
       refine nw_i (fun pf H28 opf nn29 le30 => ?_)
       have ap1Xpf : Apart p1 pf := op1.apart nn29
       have npf : Nw H pf := nn29.le lE
       replace op1 := op1.le le30
       replace lE := lE.trans le30
       replace opf : Cel H28 pf [(.int .i64 (0)), (.int .i64 (0)), (.slice none 0 0)] := opf
       refine opf.stn (ws := [(.int .i64 (r)), (.int .i64 (c)), (.slice none 0 0)]) rfl rfl (oc1 rfl (oc1 rfl (oc1 rfl oc0))) (fun H31 opf off32 => ?_)
       replace op1 := op1.off off32 ap1Xpf
       replace lE := off32.le lE npf
       replace opf : Cel H31 pf [(.int .i64 (r)), (.int .i64 (c)), (.slice none 0 0)] := opf
       refine jn_i (fun σ' H' => ∃ u, ∃ lx : List Int, σ' 0 = (vS (s)) ∧ σ' 2 = p1 ∧ σ' 15 = pf ∧ Cel H' p1 [(.int .i64 (0)), (.int .i64 (0)), (.slice none 0 0)] ∧ Cel H' pf [(.int .i64 (r)), (.int .i64 (c)), u] ∧ Own eI H' u (lx) ∧ Nw H u ∧ Apart p1 u ∧ Apart pf u ∧ Le H H' ∧ lx.length ≤ 28824) (fun σ33 H33 hP => ?_) (fun J33 hJ33 => ?_)
       ·skip
        obtain ⟨u, lx, g0L33, g2L33, g15L33, op1, opf, ou, nu, ap1Xu, apfXu, lE, ho0⟩ := hP
        try simp only [g0L33, g2L33, g15L33]
        refine ob_i (opf.ldn rfl) ?_
        refine C.impl_isPlain ou.sl (by first | omega | assumption) (fun   H34    le35 => ?_)
        replace op1 := op1.le le35
        replace opf := opf.le le35
        replace ou := ou.le le35
        replace lE := lE.trans le35
        refine ob_nd (fun hc36 => ?_) (fun hc36 => ?_)
        ·skip
         refine gop_rf ?_
         refine ob_i (opf.ldn rfl) ?_
         refine gop_rf ?_
         refine C.impl_Field_text ou.sl (by assumption) (fun   H37    le38 => ?_)
         replace op1 := op1.le le38
         replace lE := lE.trans le38
         refine gop_rf ?_
         refine gop_rf ?_
         refine ob_i (vStr_neq (fieldT r c lx) (s)) ?_
         refine ob_i (vPick_f _ _) ?_
         refine cnd_d (fun hg39 => ?_) (fun hg39 => ?_)
         ·skip
          refine ob_i (a := (.agg #[(.int .i64 (0)), (.int .i64 (0)), (.slice none 0 0)])) (by rfl) ?_
          refine op1.stn (ws := [(.int .i64 (0)), (.int .i64 (0)), (.slice none 0 0)]) rfl rfl (oc1 rfl (oc1 rfl (oc1 rfl oc0))) (fun H40 op1 off41 => ?_)
          replace lE := off41.le lE np1
          replace op1 : Cel H40 p1 [(.int .i64 (0)), (.int .i64 (0)), (.slice none 0 0)] := op1
          refine ob_i (op1.ldn rfl) ?_
          skip
          exact hk   _    lE
         ·skip
          exact absurd hg39 (fun h => h (hno _ _ _ (by assumption) (by omega)))
        ·skip
         refine gop_st ?_
         refine gop_st ?_
         refine gop_st ?_
         refine gop_st ?_
         refine ob_i (vPick_t _ _) ?_
         refine cnd_t1 ?_
         refine ob_i (a := (.agg #[(.int .i64 (0)), (.int .i64 (0)), (.slice none 0 0)])) (by rfl) ?_
         refine op1.stn (ws := [(.int .i64 (0)), (.int .i64 (0)), (.slice none 0 0)]) rfl rfl (oc1 rfl (oc1 rfl (oc1 rfl oc0))) (fun H42 op1 off43 => ?_)
         replace lE := off43.le lE np1
         replace op1 : Cel H42 p1 [(.int .i64 (0)), (.int .i64 (0)), (.slice none 0 0)] := op1
         refine ob_i (op1.ldn rfl) ?_
         skip
         exact hk   _    lE
       refine C.strings_Split (by omega) (hv.le lE) (fun u44 H45 ou44 nn46 le47 => ?_)
       obtain ⟨sl1, sl2⟩ := sp_len (Go.Lib.trimSuffix ((Go.Lib.cut (s) [58]).2.1) [33]) 36
       generalize spT (Go.Lib.trimSuffix ((Go.Lib.cut (s) [58]).2.1) [33]) 36 = ps at ou44 sl1 sl2
       have apfXu44 : Apart pf u44 := opf.apart nn46
       replace op1 := op1.le le47
       replace opf := opf.le le47
       replace lE := lE.trans le47
       refine ob_i (ou44.len) ?_
       refine ⟨fun n' σ' H' => ∃ i : Nat, n' = ps.length - i ∧ i ≤ ps.length ∧ ∃ u, ∃ lx : List Int, σ' 0 = (vS (s)) ∧ σ' 2 = p1 ∧ σ' 10 = (.int .i64 (c)) ∧ σ' 15 = pf ∧ σ' 76 = u44 ∧ σ' 77 = (.int .i64 (((ps).length : Int))) ∧ σ' 78 = (.int .i64 ((i : Int))) ∧ Cel H' p1 [(.int .i64 (0)), (.int .i64 (0)), (.slice none 0 0)] ∧ Cel H' pf [(.int .i64 (r)), (.int .i64 (c)), u] ∧ Own vS H' u44 (ps) ∧ Own eI H' u (lx) ∧ Nw H u ∧ Apart p1 u ∧ Apart pf u ∧ Apart u44 u ∧ Le H H' ∧ lx.length ≤ 24 * i,
        ⟨_, 0, rfl, by omega, _, [], rfl, rfl, rfl, rfl, rfl, rfl, (congrArg (Value.int .i64) (by first | omega | rfl | (simp; done))), op1, opf, ou44, (Own.cast (by first | rfl | (simp; done)) (Own.nil_of none)), (fun b hb => by simp [bk] at hb), (fun b _ hb => by simp [bk] at hb), (fun b _ hb => by simp [bk] at hb), (fun b _ hb => by simp [bk] at hb), lE, (by simp)⟩, ?_⟩
       rintro n48 σ48 H48 ⟨i, rfl, hiN, u, lx, g0L48, g2L48, g10L48, g15L48, g76L48, g77L48, g78L48, op1, opf, ou44, ou, nu, ap1Xu, apfXu, au44Xu, lE, hm0⟩
       try simp only [g2L48, g10L48, g15L48, g76L48, g77L48, g78L48]
       refine ob_i (vInt_lss _ _ _) ?_
       refine cnd_d (fun hg49 => ?_) (fun hg49 => ?_)
       ·skip
        have ti := hg49
        refine ob_i (ou44.sl.ix (by omega) (by omega)) ?_
        refine ob_i (ou44.sl.ld [] (by omega) (by omega)) ?_
        refine C.readRow_any (by have := sl2 _ (at_mem [] ps (i := (i : Int)) (by omega) (by omega)); omega) (by first | omega | assumption) (by first | omega | assumption) (by exact hv.le lE) (fun hc50  H51    le52 => ?_) (fun hc53 ls54 hls54 u57 H55 ou57 nn58  le56 => ?_)
        ·skip
         replace op1 := op1.le le52
         replace lE := lE.trans le52
         refine ob_i (vExt_20 _ _) ?_
         refine ob_i (vExt_21 _ _) ?_
         refine ob_i (a := .bool true) rfl ?_
         refine cnd_t1 ?_
         refine ob_i (a := (.agg #[(.int .i64 (0)), (.int .i64 (0)), (.slice none 0 0)])) (by rfl) ?_
         refine op1.stn (ws := [(.int .i64 (0)), (.int .i64 (0)), (.slice none 0 0)]) rfl rfl (oc1 rfl (oc1 rfl (oc1 rfl oc0))) (fun H59 op1 off60 => ?_)
         replace lE := off60.le lE np1
         replace op1 : Cel H59 p1 [(.int .i64 (0)), (.int .i64 (0)), (.slice none 0 0)] := op1
         show ob (vLoadN 3 (σ48 2) H59) (fun w0 => K (.tuple #[w0, (.bool false)]) H59)
         rw [g2L48]
         refine ob_i (op1.ldn rfl) ?_
         skip
         exact hk   _    lE
        ·skip
         replace op1 := op1.le le56
         replace opf := opf.le le56
         replace ou44 := ou44.le le56
         replace ou := ou.le le56
         replace lE := lE.trans le56
         refine ob_i (vExt_20 _ _) ?_
         refine ob_i (vExt_21 _ _) ?_
         refine ob_i (a := .bool false) rfl ?_
         refine cnd_f1 ?_
         refine ob_i (opf.fa 2) ?_
         refine ob_i (opf.ld 2 rfl) ?_
         refine apd_any ou ou57.sl (fun _ => rfl) (by omega) (by first | omega | (simp only [List.length_cons, List.length_nil, List.length_append, List.length_replicate, List.length_map, List.length_range]; omega)) (fun u64 H61 ou64 off62 hb63 => ?_)
         have ap1Xu64 : Apart p1 u64 := Apart.ap2 op1.known ap1Xu hb63
         have apfXu64 : Apart pf u64 := Apart.ap2 opf.known apfXu hb63
         have au44Xu64 : Apart u44 u64 := Apart.ap2 ou44.known au44Xu hb63
         have nu64 : Nw H u64 := Nw.ap2 nu lE hb63
         replace op1 := op1.off off62 ap1Xu
         replace opf := opf.off off62 apfXu
         replace ou44 := ou44.off off62 au44Xu
         replace lE := off62.le lE nu
         refine ob_i (opf.fa 2) ?_
         refine opf.st (by simp) ou64.one ou64.cells (fun H65 opf off66 => ?_)
         replace op1 := op1.off off66 ap1Xpf
         replace ou44 := ou44.off off66 apfXu44.symm
         replace ou64 := ou64.off off66 apfXu64.symm
         replace lE := off66.le lE npf
         replace opf : Cel H65 pf [(.int .i64 (r)), (.int .i64 (c)), u64] := opf
         refine ob_i (vInt_add (by omega) (by omega)) ?_
         exact nxt (ps.length - (i + 1)) (by omega) ⟨i + 1, rfl, by omega, u64, (lx ++ ls54), g0L48, g2L48, g10L48, g15L48, g76L48, g77L48, (congrArg (Value.int .i64) (by first | omega | rfl | (simp; done))), op1, opf, ou44, ou64, nu64, ap1Xu64, apfXu64, au44Xu64, lE, (by first | omega | (simp only [List.length_append, List.length_drop, List.length_singleton]; omega))⟩
       ·skip
        have ti := hg49
        exact hJ33 _ _ ⟨u, lx, g0L48, g2L48, g15L48, op1, opf, ou, nu, ap1Xu, apfXu, lE, (by omega)⟩
      ·skip
       refine ob_i (vPick_f _ _) ?_
       refine cnd_t1 ?_
       refine ob_i (a := (.agg #[(.int .i64 (0)), (.int .i64 (0)), (.slice none 0 0)])) (by rfl) ?_
       refine op1.stn (ws := [(.int .i64 (0)), (.int .i64 (0)), (.slice none 0 0)]) rfl rfl (oc1 rfl (oc1 rfl (oc1 rfl oc0))) (fun H67 op1 off68 => ?_)
       replace lE := off68.le lE np1
       replace op1 : Cel H67 p1 [(.int .i64 (0)), (.int .i64 (0)), (.slice none 0 0)] := op1
       refine ob_i (op1.ldn rfl) ?_
       skip
       exact hk   _    lE
     ·skip
      refine ob_i (vPick_ef (eq_false_of_ne_true hc23) _ _) ?_
      refine gop_st ?_
      refine gop_st ?_
      refine gop_st ?_
      refine ob_i (vPick_t _ _) ?_
      refine cnd_t1 ?_
      refine ob_i (a := (.agg #[(.int .i64 (0)), (.int .i64 (0)), (.slice none 0 0)])) (by rfl) ?_
      refine op1.stn (ws := [(.int .i64 (0)), (.int .i64 (0)), (.slice none 0 0)]) rfl rfl (oc1 rfl (oc1 rfl (oc1 rfl oc0))) (fun H69 op1 off70 => ?_)
      replace lE := off70.le lE np1
      replace op1 : Cel H69 p1 [(.int .i64 (0)), (.int .i64 (0)), (.slice none 0 0)] := op1
      refine ob_i (op1.ldn rfl) ?_
      skip
      exact hk   _    lE
theorem ix_ltY {a b r c : Int} (a0 : 0 ≤ a) (a1 : a < r) (b0 : 0 ≤ b) (b1 : b < c) : 0 ≤ a * c ∧ a * c + b < r * c := by
  have := Int.mul_nonneg a0 (show (0 : Int) ≤ c by omega)
  have := Int.mul_le_mul (a := a) (b := c) (c := r - 1) (d := c) (by omega) (by omega) (by omega) (by omega)
  rw [Int.sub_mul] at this
  omega
theorem ix_leY {a b : Int} (a0 : 0 ≤ a) (a1 : a ≤ 24) (b0 : 0 ≤ b) (b1 : b ≤ 24) : 0 ≤ a * b ∧ a * b ≤ 576 := by
  have := Int.mul_nonneg a0 b0
  have := Int.mul_le_mul a1 b1 b0 (by omega)
  omega
theorem zero_field {r c : Int} (hr : 1 ≤ r ∧ r ≤ 24) (hc : 1 ≤ c ∧ c ≤ 24) : fieldN 1 r c (List.replicate (r.toNat * c.toNat) 0) := by
  refine ⟨⟨hr, hc⟩, ?_, fun x hx => by have := (List.mem_replicate.mp hx).2; omega⟩
  rw [List.length_replicate, Int.natCast_mul, Int.toNat_of_nonneg (by omega), Int.toNat_of_nonneg (by omega)]
theorem one_field {r c : Int} {l : List Int} {i : Nat} (h : fieldN 1 r c l) : fieldN 1 r c (l.set i 1) := by
  refine ⟨h.1, by rw [List.length_set]; exact h.2.1, fun x hx => ?_⟩
  rcases List.mem_or_eq_of_mem_set hx with hx | hx
  · exact h.2.2 x hx
  · omega
set_option maxHeartbeats 4000000 in
theorem C.sReadRuns_no {s : List UInt8}  {H : Hp} {K : Value → Hp → Prop} (hno : ∀ (r c : Int) (l : List Int), fieldN 1 r c l → s.length ≤ 1200 → fieldT r c l ≠ s)
    (hk : ∀ H', Le H H' → K (.tuple #[(.agg #[(.int .i64 (0)), (.int .i64 (0)), (.slice none 0 0)]), (.bool false)]) H') : HT prg I.spec_ReadRuns [(vS (s))].toArray H K := by
 have lE := Le.refl H
 refine R.spec_ReadRuns ?_
 unfold F.spec_ReadRuns
 refine nw_i (fun p1 H2 op1 nn3 le4 => ?_)
 have np1 : Nw H p1 := nn3.le lE
 replace lE := lE.trans le4
 replace op1 : Cel H2 p1 [(.int .i64 (0)), (.int .i64 (0)), (.slice none 0 0)] := op1
 refine ob_i (vLenS_t (s)) ?_
 refine ob_i (vInt_gtr _ _ _) ?_
 refine cnd_d (fun hg5 => ?_) (fun hg5 => ?_)
 ·skip
  refine ob_i (a := (.agg #[(.int .i64 (0)), (.int .i64 (0)), (.slice none 0 0)])) (by rfl) ?_
  refine op1.stn (ws := [(.int .i64 (0)), (.int .i64 (0)), (.slice none 0 0)]) rfl rfl (oc1 rfl (oc1 rfl (oc1 rfl oc0))) (fun H6 op1 off7 => ?_)
  replace lE := off7.le lE np1
  replace op1 : Cel H6 p1 [(.int .i64 (0)), (.int .i64 (0)), (.slice none 0 0)] := op1
  refine ob_i (op1.ldn rfl) ?_
  skip
  exact hk   _    lE
 ·skip
  have dx7 := dgX_bnd s (0)
  have dc7 := dgC_in (s := s) (p := 0) (by omega)
  refine C.spec_l05Digits (by first | omega | assumption) (by first | omega | assumption) (by first | omega | assumption) (fun   H9    le10 => ?_)
  replace op1 := op1.le le10
  replace lE := lE.trans le10
  refine ob_i (vExt_20 _ _) ?_
  obtain ⟨c, hc⟩ : ∃ x : Int, x = dgX s 0 := ⟨_, rfl⟩
  rw [← hc]
  refine ob_i (vExt_21 _ _) ?_
  refine ob_i (vLenS_t (s)) ?_
  refine ob_i (vInt_geq _ _ _) ?_
  by_cases hc11 : (((s).length : Int)) ≤ (0 + (dgC s 0 : Int))
  ·skip
   refine gop_e (decide_eq_true hc11) ?_
   refine gop_st ?_
   refine gop_e (decide_eq_true hc11) ?_
   refine gop_st ?_
   refine gop_e (decide_eq_true hc11) ?_
   refine gop_st ?_
   refine gop_e (decide_eq_true hc11) ?_
   refine gop_st ?_
   refine ob_i (vPick_et (decide_eq_true hc11) _ _) ?_
   refine cnd_t1 ?_
   refine ob_i (a := (.agg #[(.int .i64 (0)), (.int .i64 (0)), (.slice none 0 0)])) (by rfl) ?_
   refine op1.stn (ws := [(.int .i64 (0)), (.int .i64 (0)), (.slice none 0 0)]) rfl rfl (oc1 rfl (oc1 rfl (oc1 rfl oc0))) (fun H12 op1 off13 => ?_)
   replace lE := off13.le lE np1
   replace op1 : Cel H12 p1 [(.int .i64 (0)), (.int .i64 (0)), (.slice none 0 0)] := op1
   refine ob_i (op1.ldn rfl) ?_
   skip
   exact hk   _    lE
  ·skip
   refine gop_e (decide_eq_false hc11) ?_
   refine gop_rf ?_
   refine gop_e (decide_eq_false hc11) ?_
   refine gop_rf ?_
   refine gop_e (decide_eq_false hc11) ?_
   refine gop_rf ?_
   refine ob_i (vIndexS_t (a := s) (by omega) (by first | omega | (simp only [List.length_append, List.length_cons, List.length_nil, List.length_take, List.length_drop]; omega))) ?_
   refine gop_e (decide_eq_false hc11) ?_
   refine gop_rf ?_
   refine ob_i (vInt_neq _ _ _) ?_
   refine ob_i (vPick_ef (decide_eq_false hc11) _ _) ?_
   refine cnd_d (fun hg14 => ?_) (fun hg14 => ?_)
   ·skip
    refine ob_i (a := (.agg #[(.int .i64 (0)), (.int .i64 (0)), (.slice none 0 0)])) (by rfl) ?_
    refine op1.stn (ws := [(.int .i64 (0)), (.int .i64 (0)), (.slice none 0 0)]) rfl rfl (oc1 rfl (oc1 rfl (oc1 rfl oc0))) (fun H15 op1 off16 => ?_)
    replace lE := off16.le lE np1
    replace op1 : Cel H15 p1 [(.int .i64 (0)), (.int .i64 (0)), (.slice none 0 0)] := op1
    refine ob_i (op1.ldn rfl) ?_
    skip
    exact hk   _    lE
   ·skip
    refine ob_i (vInt_add (by omega) (by omega)) ?_
    have dx16 := dgX_bnd s ((0 + (dgC s 0 : Int)) + 1)
    have dc16 := dgC_in (s := s) (p := (0 + (dgC s 0 : Int)) + 1) (by omega)
    refine C.spec_l05Digits (by first | omega | assumption) (by first | omega | assumption) (by first | omega | assumption) (fun   H18    le19 => ?_)
    replace op1 := op1.le le19
    replace lE := lE.trans le19
    refine ob_i (vExt_20 _ _) ?_
    obtain ⟨r, hr⟩ : ∃ x : Int, x = dgX s ((0 + (dgC s 0 : Int)) + 1) := ⟨_, rfl⟩
    rw [← hr]
    refine ob_i (vExt_21 _ _) ?_
    refine ob_i (vLenS_t (s)) ?_
    refine ob_i (vInt_geq _ _ _) ?_
    by_cases hc20 : (((s).length : Int)) ≤ (((0 + (dgC s 0 : Int)) + 1) + (dgC s ((0 + (dgC s 0 : Int)) + 1) : Int))
    ·skip
     refine gop_e (decide_eq_true hc20) ?_
     refine gop_st ?_
     refine gop_e (decide_eq_true hc20) ?_
     refine gop_st ?_
     refine gop_e (decide_eq_true hc20) ?_
     refine gop_st ?_
     refine gop_e (decide_eq_true hc20) ?_
     refine gop_st ?_
     refine ob_i (vPick_et (decide_eq_true hc20) _ _) ?_
     refine gop_st ?_
     refine gop_st ?_
     refine gop_st ?_
     refine ob_i (vPick_t _ _) ?_
     refine gop_st ?_
     refine gop_st ?_
     refine gop_st ?_
     refine ob_i (vPick_t _ _) ?_
     refine cnd_t1 ?_
     refine ob_i (a := (.agg #[(.int .i64 (0)), (.int .i64 (0)), (.slice none 0 0)])) (by rfl) ?_
     refine op1.stn (ws := [(.int .i64 (0)), (.int .i64 (0)), (.slice none 0 0)]) rfl rfl (oc1 rfl (oc1 rfl (oc1 rfl oc0))) (fun H21 op1 off22 => ?_)
     replace lE := off22.le lE np1
     replace op1 : Cel H21 p1 [(.int .i64 (0)), (.int .i64 (0)), (.slice none 0 0)] := op1
     refine ob_i (op1.ldn rfl) ?_
     skip
     exact hk   _    lE
    ·skip
     refine gop_e (decide_eq_false hc20) ?_
     refine gop_rf ?_
     refine gop_e (decide_eq_false hc20) ?_
     refine gop_rf ?_
     refine gop_e (decide_eq_false hc20) ?_
     refine gop_rf ?_
     refine ob_i (vIndexS_t (a := s) (by omega) (by first | omega | (simp only [List.length_append, List.length_cons, List.length_nil, List.length_take, List.length_drop]; omega))) ?_
     refine gop_e (decide_eq_false hc20) ?_
     refine gop_rf ?_
     refine ob_i (vInt_neq _ _ _) ?_
     refine ob_i (vPick_ef (decide_eq_false hc20) _ _) ?_
     by_cases hc23 : (((at_ 0 (s) (((0 + (dgC s 0 : Int)) + 1) + (dgC s ((0 + (dgC s 0 : Int)) + 1) : Int))).toNat : Int)) ≠ 58
     ·skip
      refine gop_e (decide_eq_true hc23) ?_
      refine gop_st ?_
      refine gop_e (decide_eq_true hc23) ?_
      refine gop_st ?_
      refine gop_e (decide_eq_true hc23) ?_
      refine gop_st ?_
      refine ob_i (vPick_et (decide_eq_true hc23) _ _) ?_
      refine gop_st ?_
      refine gop_st ?_
      refine gop_st ?_
      refine ob_i (vPick_t _ _) ?_
      refine cnd_t1 ?_
      refine ob_i (a := (.agg #[(.int .i64 (0)), (.int .i64 (0)), (.slice none 0 0)])) (by rfl) ?_
      refine op1.stn (ws := [(.int .i64 (0)), (.int .i64 (0)), (.slice none 0 0)]) rfl rfl (oc1 rfl (oc1 rfl (oc1 rfl oc0))) (fun H24 op1 off25 => ?_)
      replace lE := off25.le lE np1
      replace op1 : Cel H24 p1 [(.int .i64 (0)), (.int .i64 (0)), (.slice none 0 0)] := op1
      refine ob_i (op1.ldn rfl) ?_
      skip
      exact hk   _    lE
     ·skip
      refine gop_e (decide_eq_false hc23) ?_
      refine gop_rf ?_
      refine gop_e (decide_eq_false hc23) ?_
      refine gop_rf ?_
      refine C.spec_l00In  ?_
      refine gop_e (decide_eq_false hc23) ?_
      refine gop_rf ?_
      refine ob_nd (fun hc26 => ?_) (fun hc26 => ?_)
      ·skip
       refine ob_i (vPick_ef (decide_eq_false hc23) _ _) ?_
       refine gop_rf ?_
       refine gop_rf ?_
       refine C.spec_l00In  ?_
       refine gop_rf ?_
       refine ob_nd (fun hc27 => ?_) (fun hc27 => ?_)
       ·skip
        refine ob_i (vPick_f _ _) ?_
        refine cnd_f1 ?_
        refine C.spec_l04New (by first | omega | assumption) (by first | omega | assumption) (by first | omega | assumption) (by first | omega | assumption) (fun  z H28 oz nn30  le29 => ?_)
        have ap1Xz : Apart p1 z := op1.apart nn30
        have nz : Nw H z := nn30.le lE
        replace op1 := op1.le le29
        replace lE := lE.trans le29
        refine nw_i (fun pf H31 opf nn32 le33 => ?_)
        have ap1Xpf : Apart p1 pf := op1.apart nn32
        have azXpf : Apart z pf := oz.apart nn32
        have npf : Nw H pf := nn32.le lE
        replace op1 := op1.le le33
        replace oz := oz.le le33
        replace lE := lE.trans le33
        replace opf : Cel H31 pf [(.int .i64 (0)), (.int .i64 (0)), (.slice none 0 0)] := opf
        refine opf.stn (ws := [(.int .i64 (r)), (.int .i64 (c)), z]) rfl rfl (oc1 rfl (oc1 rfl (oc1 oz.one oc0))) (fun H34 opf off35 => ?_)
        replace op1 := op1.off off35 ap1Xpf
        replace oz := oz.off off35 azXpf
        replace lE := off35.le lE npf
        replace opf : Cel H34 pf [(.int .i64 (r)), (.int .i64 (c)), z] := opf
        refine jn_i (fun σ' H' => ∃ lx : List Int, σ' 2 = p1 ∧ Cel H' p1 [(.int .i64 (0)), (.int .i64 (0)), (.slice none 0 0)] ∧ Own eI H' z (lx) ∧ Cel H' pf [(.int .i64 (r)), (.int .i64 (c)), z] ∧ Le H H') (fun σ36 H36 hP => ?_) (fun J36 hJ36 => ?_)
        ·skip
         obtain ⟨lx, g2L36, op1, oz, opf, lE⟩ := hP
         try simp only [g2L36]
         refine ob_i (a := (.agg #[(.int .i64 (0)), (.int .i64 (0)), (.slice none 0 0)])) (by rfl) ?_
         refine op1.stn (ws := [(.int .i64 (0)), (.int .i64 (0)), (.slice none 0 0)]) rfl rfl (oc1 rfl (oc1 rfl (oc1 rfl oc0))) (fun H37 op1 off38 => ?_)
         replace lE := off38.le lE np1
         replace op1 : Cel H37 p1 [(.int .i64 (0)), (.int .i64 (0)), (.slice none 0 0)] := op1
         refine ob_i (op1.ldn rfl) ?_
         skip
         exact hk   _    lE
        refine ob_i (vInt_add (by omega) (by omega)) ?_
        refine ⟨fun n' σ' H' => ∃ t : Nat, n' = s.length - t ∧ t ≤ s.length ∧ ∃ p : Int, ∃ row : Int, ∃ col : Int, ∃ lx : List Int, σ' 0 = (vS (s)) ∧ σ' 2 = p1 ∧ σ' 4 = (.int .i64 (c)) ∧ σ' 5 = (.int .i64 (p)) ∧ σ' 6 = (.int .i64 (r)) ∧ σ' 8 = pf ∧ σ' 9 = (.int .i64 (row)) ∧ σ' 10 = (.int .i64 (col)) ∧ Cel H' p1 [(.int .i64 (0)), (.int .i64 (0)), (.slice none 0 0)] ∧ Own eI H' z (lx) ∧ Cel H' pf [(.int .i64 (r)), (.int .i64 (c)), z] ∧ Le H H' ∧ (t : Int) ≤ p ∧ (0 ≤ row ∧ row ≤ t) ∧ (0 ≤ col ∧ col ≤ 100 * (t : Int)) ∧ fieldN 1 r c lx,
         ⟨_, 0, rfl, by omega, _, 0, 0, _, rfl, rfl, rfl, rfl, rfl, rfl, rfl, rfl, op1, by simpa using oz, opf, lE, (by omega), ⟨by omega, by omega⟩, ⟨by omega, by omega⟩, (zero_field (by assumption) (by assumption))⟩, ?_⟩
        rintro n39 σ39 H39 ⟨t, rfl, htN, p, row, col, lx, g0L39, g2L39, g4L39, g5L39, g6L39, g8L39, g9L39, g10L39, op1, oz, opf, lE, hm0, hm1, hm2, hfx⟩
        try simp only [g0L39, g2L39, g4L39, g5L39, g6L39, g8L39, g9L39, g10L39]
        have hsd := hfx.1
        have hlx := hfx.2.1
        have l1x := fieldN_len hfx
        refine ob_i (vLenS_t (s)) ?_
        refine ob_i (vInt_lss _ _ _) ?_
        refine cnd_d (fun hg40 => ?_) (fun hg40 => ?_)
        ·skip
         have tt := hg40
         refine jn_i (fun σ' H' => ∃ q3 : Int, ∃ row2 : Int, ∃ col2 : Int, ∃ lx2 : List Int, σ' 0 = (vS (s)) ∧ σ' 2 = p1 ∧ σ' 4 = (.int .i64 (c)) ∧ σ' 5 = (.int .i64 (q3)) ∧ σ' 6 = (.int .i64 (r)) ∧ σ' 8 = pf ∧ σ' 9 = (.int .i64 (row2)) ∧ σ' 10 = (.int .i64 (col2)) ∧ Cel H' p1 [(.int .i64 (0)), (.int .i64 (0)), (.slice none 0 0)] ∧ Own eI H' z (lx2) ∧ Cel H' pf [(.int .i64 (r)), (.int .i64 (c)), z] ∧ Le H H' ∧ (p ≤ q3 ∧ q3 < s.length) ∧ (0 ≤ row2 ∧ row2 ≤ row + 1) ∧ (0 ≤ col2 ∧ col2 ≤ col + 99) ∧ fieldN 1 r c lx2) (fun σ41 H41 hP => ?_) (fun J41 hJ41 => ?_)
         ·skip
          obtain ⟨q3, row2, col2, lx2, g0L41, g2L41, g4L41, g5L41, g6L41, g8L41, g9L41, g10L41, op1, oz, opf, lE, hq3, hr2, hc2, hf2⟩ := hP
          try simp only [g2L41, g5L41]
          refine ob_i (vInt_add (by omega) (by omega)) ?_
          exact nxt (s.length - (t + 1)) (by omega) ⟨t + 1, rfl, by omega, (q3 + 1), (row2), (col2), lx2, g0L41, g2L41, g4L41, (congrArg (Value.int .i64) (by first | omega | rfl | (simp; done))), g6L41, g8L41, (g9L41.trans (congrArg (Value.int .i64) (by first | omega | rfl | (simp; done)))), (g10L41.trans (congrArg (Value.int .i64) (by first | omega | rfl | (simp; done)))), op1, oz, opf, lE, (by omega), ⟨by omega, by omega⟩, ⟨by omega, by omega⟩, hf2⟩
         refine jn_i (fun σ' H' => ∃ q : Int, ∃ n : Int, σ' 0 = (vS (s)) ∧ σ' 2 = p1 ∧ σ' 4 = (.int .i64 (c)) ∧ σ' 5 = (.int .i64 (q)) ∧ σ' 6 = (.int .i64 (r)) ∧ σ' 8 = pf ∧ σ' 9 = (.int .i64 (row)) ∧ σ' 10 = (.int .i64 (col)) ∧ σ' 11 = (.int .i64 (n)) ∧ Cel H' p1 [(.int .i64 (0)), (.int .i64 (0)), (.slice none 0 0)] ∧ Own eI H' z (lx) ∧ Cel H' pf [(.int .i64 (r)), (.int .i64 (c)), z] ∧ Le H H' ∧ (p ≤ q ∧ q < s.length) ∧ (0 ≤ n ∧ n ≤ 99)) (fun σ42 H42 hP => ?_) (fun J42 hJ42 => ?_)
         ·skip
          obtain ⟨q, n, g0L42, g2L42, g4L42, g5L42, g6L42, g8L42, g9L42, g10L42, g11L42, op1, oz, opf, lE, hq, hn⟩ := hP
          try simp only [g0L42, g2L42, g4L42, g5L42, g6L42, g8L42, g9L42, g10L42, g11L42]
          refine ob_i (vIndexS_t (a := s) (by omega) (by first | omega | (simp only [List.length_append, List.length_cons, List.length_nil, List.length_take, List.length_drop]; omega))) ?_
          refine ob_i (vInt_eql _ _ _) ?_
          refine cnd_d (fun hg43 => ?_) (fun hg43 => ?_)
          ·skip
           refine ob_i (vInt_add (by omega) (by omega)) ?_
           exact hJ41 _ _ ⟨(q), (row + 1), (0), (lx), g0L42, g2L42, g4L42, g5L42, g6L42, g8L42, rfl, rfl, op1, oz, opf, lE, ⟨by omega, by omega⟩, ⟨by omega, by omega⟩, ⟨by omega, by omega⟩, (by assumption)⟩
          ·skip
           refine ob_i (vInt_eql _ _ _) ?_
           refine cnd_d (fun hg44 => ?_) (fun hg44 => ?_)
           ·skip
            refine ⟨fun n' σ' H' => ∃ j : Nat, n' = n.toNat - j ∧ j ≤ n.toNat ∧ ∃ ly : List Int, σ' 0 = (vS (s)) ∧ σ' 2 = p1 ∧ σ' 4 = (.int .i64 (c)) ∧ σ' 5 = (.int .i64 (q)) ∧ σ' 6 = (.int .i64 (r)) ∧ σ' 8 = pf ∧ σ' 9 = (.int .i64 (row)) ∧ σ' 10 = (.int .i64 (col + (j : Int))) ∧ σ' 11 = (.int .i64 (n)) ∧ σ' 14 = (.int .i64 ((j : Int))) ∧ Cel H' p1 [(.int .i64 (0)), (.int .i64 (0)), (.slice none 0 0)] ∧ Own eI H' z (ly) ∧ Cel H' pf [(.int .i64 (r)), (.int .i64 (c)), z] ∧ Le H H' ∧ fieldN 1 r c ly,
             ⟨_, 0, rfl, by omega, lx, g0L42, g2L42, g4L42, g5L42, g6L42, g8L42, g9L42, (g10L42.trans (congrArg (Value.int .i64) (by first | omega | rfl | (simp; done)))), g11L42, (congrArg (Value.int .i64) (by first | omega | rfl | (simp; done))), op1, oz, opf, lE, hfx⟩, ?_⟩
            rintro n45 σ45 H45 ⟨j, rfl, hjN, ly, g0L45, g2L45, g4L45, g5L45, g6L45, g8L45, g9L45, g10L45, g11L45, g14L45, op1, oz, opf, lE, hfy⟩
            try simp only [g2L45, g4L45, g6L45, g8L45, g9L45, g10L45, g11L45, g14L45]
            have hly := hfy.2.1
            have l1y := fieldN_len hfy
            refine ob_i (vInt_lss _ _ _) ?_
            refine cnd_d (fun hg46 => ?_) (fun hg46 => ?_)
            ·skip
             have tj := hg46
             refine ob_i (vInt_geq _ _ _) ?_
             by_cases hc47 : r ≤ row
             ·skip
              refine gop_e (decide_eq_true hc47) ?_
              refine gop_st ?_
              refine gop_e (decide_eq_true hc47) ?_
              refine gop_st ?_
              refine gop_e (decide_eq_true hc47) ?_
              refine gop_st ?_
              refine ob_i (vPick_et (decide_eq_true hc47) _ _) ?_
              refine cnd_t1 ?_
              refine ob_i (a := (.agg #[(.int .i64 (0)), (.int .i64 (0)), (.slice none 0 0)])) (by rfl) ?_
              refine op1.stn (ws := [(.int .i64 (0)), (.int .i64 (0)), (.slice none 0 0)]) rfl rfl (oc1 rfl (oc1 rfl (oc1 rfl oc0))) (fun H48 op1 off49 => ?_)
              replace lE := off49.le lE np1
              replace op1 : Cel H48 p1 [(.int .i64 (0)), (.int .i64 (0)), (.slice none 0 0)] := op1
              show ob (vLoadN 3 (σ45 2) H48) (fun w0 => K (.tuple #[w0, (.bool false)]) H48)
              rw [g2L45]
              refine ob_i (op1.ldn rfl) ?_
              skip
              exact hk   _    lE
             ·skip
              refine gop_e (decide_eq_false hc47) ?_
              refine gop_rf ?_
              refine gop_e (decide_eq_false hc47) ?_
              refine gop_rf ?_
              refine gop_e (decide_eq_false hc47) ?_
              refine gop_rf ?_
              refine ob_i (vInt_geq _ _ _) ?_
              refine ob_i (vPick_ef (decide_eq_false hc47) _ _) ?_
              refine cnd_d (fun hg50 => ?_) (fun hg50 => ?_)
              ·skip
               refine ob_i (a := (.agg #[(.int .i64 (0)), (.int .i64 (0)), (.slice none 0 0)])) (by rfl) ?_
               refine op1.stn (ws := [(.int .i64 (0)), (.int .i64 (0)), (.slice none 0 0)]) rfl rfl (oc1 rfl (oc1 rfl (oc1 rfl oc0))) (fun H51 op1 off52 => ?_)
               replace lE := off52.le lE np1
               replace op1 : Cel H51 p1 [(.int .i64 (0)), (.int .i64 (0)), (.slice none 0 0)] := op1
               show ob (vLoadN 3 (σ45 2) H51) (fun w0 => K (.tuple #[w0, (.bool false)]) H51)
               rw [g2L45]
               refine ob_i (op1.ldn rfl) ?_
               skip
               exact hk   _    lE
              ·skip
               have ix := ix_ltY (a := row) (b := col + (j : Int)) (r := r) (c := c) (by omega) (by omega) (by omega) (by omega)
               have iy := ix_leY (a := r) (b := c) (by omega) (by omega) (by omega) (by omega)
               refine ob_i (opf.fa 2) ?_
               refine ob_i (opf.ld 2 rfl) ?_
               refine ob_i (vInt_mul (by omega) (by omega)) ?_
               refine ob_i (vInt_add (by omega) (by omega)) ?_
               refine ob_i (oz.sl.ix (by omega) (by omega)) ?_
               refine oz.st (x := 1) (by omega) (by omega) rfl rfl (fun H53 oz off54 => ?_)
               replace op1 := op1.off off54 ap1Xz
               replace opf := opf.off off54 azXpf.symm
               replace lE := off54.le lE nz
               refine ob_i (vInt_add (by omega) (by omega)) ?_
               refine ob_i (vInt_add (by omega) (by omega)) ?_
               exact nxt (n.toNat - (j + 1)) (by omega) ⟨j + 1, rfl, by omega, ((ly).set ((row * c) + (col + (j : Int))).toNat (1)), g0L45, g2L45, g4L45, g5L45, g6L45, g8L45, g9L45, (congrArg (Value.int .i64) (by first | omega | rfl | (simp; done))), g11L45, (congrArg (Value.int .i64) (by first | omega | rfl | (simp; done))), op1, oz, opf, lE, (one_field hfy)⟩
            ·skip
             have tj := hg46
             exact hJ41 _ _ ⟨(q), (row), (col + (j : Int)), (ly), g0L45, g2L45, g4L45, g5L45, g6L45, g8L45, g9L45, g10L45, op1, oz, opf, lE, ⟨by omega, by omega⟩, ⟨by omega, by omega⟩, ⟨by omega, by omega⟩, (by assumption)⟩
           ·skip
            refine ob_i (vInt_eql _ _ _) ?_
            refine cnd_d (fun hg55 => ?_) (fun hg55 => ?_)
            ·skip
             refine ob_i (vInt_add (by omega) (by omega)) ?_
             exact hJ41 _ _ ⟨(q), (row), (col + n), (lx), g0L42, g2L42, g4L42, g5L42, g6L42, g8L42, g9L42, rfl, op1, oz, opf, lE, ⟨by omega, by omega⟩, ⟨by omega, by omega⟩, ⟨by omega, by omega⟩, (by assumption)⟩
            ·skip
             refine ob_i (vInt_eql _ _ _) ?_
             refine cnd_d (fun hg56 => ?_) (fun hg56 => ?_)
             ·skip
              refine C.spec_l05Write opf.r oz.sl (by assumption) (fun   H57    le58 => ?_)
              replace op1 := op1.le le58
              replace lE := lE.trans le58
              refine ob_i (vStr_neq (fieldT r c lx) (s)) ?_
              refine cnd_d (fun hg59 => ?_) (fun hg59 => ?_)
              ·skip
               refine ob_i (a := (.agg #[(.int .i64 (0)), (.int .i64 (0)), (.slice none 0 0)])) (by rfl) ?_
               refine op1.stn (ws := [(.int .i64 (0)), (.int .i64 (0)), (.slice none 0 0)]) rfl rfl (oc1 rfl (oc1 rfl (oc1 rfl oc0))) (fun H60 op1 off61 => ?_)
               replace lE := off61.le lE np1
               replace op1 : Cel H60 p1 [(.int .i64 (0)), (.int .i64 (0)), (.slice none 0 0)] := op1
               show ob (vLoadN 3 (σ42 2) H60) (fun w0 => K (.tuple #[w0, (.bool false)]) H60)
               rw [g2L42]
               refine ob_i (op1.ldn rfl) ?_
               skip
               exact hk   _    lE
              ·skip
               exact absurd hg59 (fun h => h (hno _ _ _ (by assumption) (by omega)))
             ·skip
              refine ob_i (a := (.agg #[(.int .i64 (0)), (.int .i64 (0)), (.slice none 0 0)])) (by rfl) ?_
              refine op1.stn (ws := [(.int .i64 (0)), (.int .i64 (0)), (.slice none 0 0)]) rfl rfl (oc1 rfl (oc1 rfl (oc1 rfl oc0))) (fun H62 op1 off63 => ?_)
              replace lE := off63.le lE np1
              replace op1 : Cel H62 p1 [(.int .i64 (0)), (.int .i64 (0)), (.slice none 0 0)] := op1
              show ob (vLoadN 3 (σ42 2) H62) (fun w0 => K (.tuple #[w0, (.bool false)]) H62)
              rw [g2L42]
              refine ob_i (op1.ldn rfl) ?_
              skip
              exact hk   _    lE
         refine ob_i (vIndexS_t (a := s) (by omega) (by first | omega | (simp only [List.length_append, List.length_cons, List.length_nil, List.length_take, List.length_drop]; omega))) ?_
         refine ob_i (vInt_geq _ _ _) ?_
         by_cases hc64 : 48 ≤ (((at_ 0 (s) (p)).toNat : Int))
         ·skip
          refine gop_e (decide_eq_true hc64) ?_
          refine gop_rt ?_
          refine gop_e (decide_eq_true hc64) ?_
          refine gop_rt ?_
          refine gop_e (decide_eq_true hc64) ?_
          refine gop_rt ?_
          refine ob_i (vIndexS_t (a := s) (by omega) (by first | omega | (simp only [List.length_append, List.length_cons, List.length_nil, List.length_take, List.length_drop]; omega))) ?_
          refine gop_e (decide_eq_true hc64) ?_
          refine gop_rt ?_
          refine ob_i (vInt_leq _ _ _) ?_
          refine ob_i (vPick_et (decide_eq_true hc64) _ _) ?_
          refine cnd_d (fun hg65 => ?_) (fun hg65 => ?_)
          ·skip
           have dx65 := dgX_bnd s (p)
           have dc65 := dgC_in (s := s) (p := p) (by omega)
           have dn := dgX_nn (s := s) (p := p) ⟨by omega, by omega, by omega⟩
           have dcl := dgC_le s p
           refine C.spec_l05Digits (by first | omega | assumption) (by first | omega | assumption) (by first | omega | assumption) (fun   H67    le68 => ?_)
           replace op1 := op1.le le68
           replace oz := oz.le le68
           replace opf := opf.le le68
           replace lE := lE.trans le68
           refine ob_i (vExt_20 _ _) ?_
           refine ob_i (vExt_21 _ _) ?_
           refine ob_i (vLenS_t (s)) ?_
           refine ob_i (vInt_geq _ _ _) ?_
           refine cnd_d (fun hg69 => ?_) (fun hg69 => ?_)
           ·skip
            refine ob_i (a := (.agg #[(.int .i64 (0)), (.int .i64 (0)), (.slice none 0 0)])) (by rfl) ?_
            refine op1.stn (ws := [(.int .i64 (0)), (.int .i64 (0)), (.slice none 0 0)]) rfl rfl (oc1 rfl (oc1 rfl (oc1 rfl oc0))) (fun H70 op1 off71 => ?_)
            replace lE := off71.le lE np1
            replace op1 : Cel H70 p1 [(.int .i64 (0)), (.int .i64 (0)), (.slice none 0 0)] := op1
            show ob (vLoadN 3 (σ39 2) H70) (fun w0 => K (.tuple #[w0, (.bool false)]) H70)
            rw [g2L39]
            refine ob_i (op1.ldn rfl) ?_
            skip
            exact hk   _    lE
           ·skip
            exact hJ42 _ _ ⟨(p + (dgC s p : Int)), (dgX s p), g0L39, g2L39, g4L39, rfl, g6L39, g8L39, g9L39, g10L39, rfl, op1, oz, opf, lE, ⟨by omega, by omega⟩, ⟨by omega, by omega⟩⟩
          ·skip
           exact hJ42 _ _ ⟨(p), (1), g0L39, g2L39, g4L39, g5L39, g6L39, g8L39, g9L39, g10L39, rfl, op1, oz, opf, lE, ⟨by omega, by omega⟩, ⟨by omega, by omega⟩⟩
         ·skip
          refine gop_e (decide_eq_false hc64) ?_
          refine gop_sf ?_
          refine gop_e (decide_eq_false hc64) ?_
          refine gop_sf ?_
          refine gop_e (decide_eq_false hc64) ?_
          refine gop_sf ?_
          refine gop_e (decide_eq_false hc64) ?_
          refine gop_sf ?_
          refine ob_i (vPick_ef (decide_eq_false hc64) _ _) ?_
          refine cnd_f1 ?_
          exact hJ42 _ _ ⟨(p), (1), g0L39, g2L39, g4L39, g5L39, g6L39, g8L39, g9L39, g10L39, rfl, op1, oz, opf, lE, ⟨by omega, by omega⟩, ⟨by omega, by omega⟩⟩
        ·skip
         have tt := hg40
         exact hJ36 _ _ ⟨lx, g2L39, op1, oz, opf, lE⟩
       ·skip
        refine ob_i (vPick_f _ _) ?_
        refine cnd_t1 ?_
        refine ob_i (a := (.agg #[(.int .i64 (0)), (.int .i64 (0)), (.slice none 0 0)])) (by rfl) ?_
        refine op1.stn (ws := [(.int .i64 (0)), (.int .i64 (0)), (.slice none 0 0)]) rfl rfl (oc1 rfl (oc1 rfl (oc1 rfl oc0))) (fun H72 op1 off73 => ?_)
        replace lE := off73.le lE np1
        replace op1 : Cel H72 p1 [(.int .i64 (0)), (.int .i64 (0)), (.slice none 0 0)] := op1
        refine ob_i (op1.ldn rfl) ?_
        skip
        exact hk   _    lE
      ·skip
       refine ob_i (vPick_ef (decide_eq_false hc23) _ _) ?_
       refine gop_st ?_
       refine gop_st ?_
       refine gop_st ?_
       refine ob_i (vPick_t _ _) ?_
       refine cnd_t1 ?_
       refine ob_i (a := (.agg #[(.int .i64 (0)), (.int .i64 (0)), (.slice none 0 0)])) (by rfl) ?_
       refine op1.stn (ws := [(.int .i64 (0)), (.int .i64 (0)), (.slice none 0 0)]) rfl rfl (oc1 rfl (oc1 rfl (oc1 rfl oc0))) (fun H74 op1 off75 => ?_)
       replace lE := off75.le lE np1
       replace op1 : Cel H74 p1 [(.int .i64 (0)), (.int .i64 (0)), (.slice none 0 0)] := op1
       refine ob_i (op1.ldn rfl) ?_
       skip
       exact hk   _    lE
end Go.Proofs.YtijmoehbgkibnaaDoor
/- The law of texts that are read. -/
namespace Go.Proofs.YtijmoehbgkibnaaDoor
open HL
set_option maxRecDepth 100000
attribute [local irreducible] vStr
theorem Off.nil_le {H H' : Hp} (h : Off (.slice none 0 0) H H') : Le H H' := fun b o hb => h b o hb (by simp [bk])
theorem C.readRuns_ok2 {r c : Int} {s : List UInt8} {m : List Int} {H : Hp} {K : Value → Hp → Prop} (hf : fieldN 1 r c m) (hv : VR H) (hs0 : s = fieldT r c m) (hlen : s.length ≤ 1200) (hk : ∀ u H', Own eI H' u m → Nw H u → Le H H' → K (.tuple #[.agg #[.int .i64 r, .int .i64 c, u], .bool true]) H') :
    HT prg I.impl_ReadRuns [vS s].toArray H K := by
  subst hs0
  exact C.readRuns_ok hf hv hlen hk
theorem C.lawRead_ok {s : List UInt8} {r c : Int} {l : List Int} {H : Hp} {K : Value → Hp → Prop} (hf : fieldN 1 r c l) (hv : VR H) (hs0 : s = fieldT r c l) (hlen : s.length ≤ 1200)
    (hk : ∀ H', Le H H' → K (.bool true) H') : HT prg I.laws_FnExactReadRuns [(vS (s))].toArray H K := by
 have lE := Le.refl H
 refine R.laws_FnExactReadRuns ?_
 unfold F.laws_FnExactReadRuns
 have l1 := fieldN_len hf
 have rl := fun k => ramp_length k l.length
 refine ob_i (vLenS_t (s)) ?_
 refine ob_i (vInt_gtr _ _ _) ?_
 refine cnd_d (fun hg1 => ?_) (fun hg1 => ?_)
 ·skip
  exact absurd hg1 (by omega)
 ·skip
  refine C.sReadRuns_ok hf hs0 (by omega) (fun u2 H3 ou2 nn4 le5 => ?_)
  replace lE := lE.trans le5
  refine ob_i (vExt_20 _ _) ?_
  refine ob_i (vExt_21 _ _) ?_
  refine nw_i (fun p6 H7 op6 nn8 le9 => ?_)
  have au2Xp6 : Apart u2 p6 := ou2.apart nn8
  have np6 : Nw H p6 := nn8.le lE
  replace ou2 := ou2.le le9
  replace lE := lE.trans le9
  replace op6 : Cel H7 p6 [(.int .i64 (0)), (.int .i64 (0)), (.slice none 0 0)] := op6
  refine op6.stn (ws := [(.int .i64 (r)), (.int .i64 (c)), u2]) rfl rfl (oc1 rfl (oc1 rfl (oc1 ou2.one oc0))) (fun H10 op6 off11 => ?_)
  replace ou2 := ou2.off off11 au2Xp6
  replace lE := off11.le lE np6
  replace op6 : Cel H10 p6 [(.int .i64 (r)), (.int .i64 (c)), u2] := op6
  refine C.readRuns_ok2 hf (hv.le lE) hs0 (by omega) (fun u12 H13 ou12 nn14 le15 => ?_)
  have au2Xu12 : Apart u2 u12 := ou2.apart nn14
  have ap6Xu12 : Apart p6 u12 := op6.apart nn14
  have nu12 : Nw H u12 := nn14.le lE
  replace ou2 := ou2.le le15
  replace op6 := op6.le le15
  replace lE := lE.trans le15
  refine ob_i (vExt_20 _ _) ?_
  refine ob_i (vExt_21 _ _) ?_
  refine nw_i (fun p16 H17 op16 nn18 le19 => ?_)
  have au2Xp16 : Apart u2 p16 := ou2.apart nn18
  have ap6Xp16 : Apart p6 p16 := op6.apart nn18
  have au12Xp16 : Apart u12 p16 := ou12.apart nn18
  have np16 : Nw H p16 := nn18.le lE
  replace ou2 := ou2.le le19
  replace op6 := op6.le le19
  replace ou12 := ou12.le le19
  replace lE := lE.trans le19
  replace op16 : Cel H17 p16 [(.int .i64 (0)), (.int .i64 (0)), (.slice none 0 0)] := op16
  refine op16.stn (ws := [(.int .i64 (r)), (.int .i64 (c)), u12]) rfl rfl (oc1 rfl (oc1 rfl (oc1 ou12.one oc0))) (fun H20 op16 off21 => ?_)
  replace ou2 := ou2.off off21 au2Xp16
  replace op6 := op6.off off21 ap6Xp16
  replace ou12 := ou12.off off21 au12Xp16
  replace lE := off21.le lE np16
  replace op16 : Cel H20 p16 [(.int .i64 (r)), (.int .i64 (c)), u12] := op16
  refine ob_i (op16.ldn rfl) ?_
  refine ob_i (op6.ldn rfl) ?_
  refine C.laws_eqField ou12.sl ou2.sl (by first | omega | simp) (fun H22 le23 => ?_)
  replace ou2 := ou2.le le23
  replace op6 := op6.le le23
  replace ou12 := ou12.le le23
  replace op16 := op16.le le23
  replace lE := lE.trans le23
  refine ob_i (a := .bool false) rfl ?_
  refine gop_rf ?_
  refine gop_rf ?_
  refine gop_rf ?_
  refine ob_i (vBool_neq_same _) ?_
  refine ob_i (vPick_f _ _) ?_
  refine cnd_f1 ?_
  refine ob_i (op16.ldn rfl) ?_
  refine R.laws_markField ?_
  unfold F.laws_markField
  refine nw_i (fun p24 H25 op24 nn26 le27 => ?_)
  replace ou2 := ou2.le le27
  replace op6 := op6.le le27
  replace ou12 := ou12.le le27
  replace op16 := op16.le le27
  replace lE := lE.trans le27
  replace op24 : Cel H25 p24 [(.int .i64 (r)), (.int .i64 (c)), u12] := op24
  refine ob_i (op24.fa 2) ?_
  refine ob_i (op24.ld 2 rfl) ?_
  refine C.laws_markInt64S ou12 (by omega) (by omega) (by omega) (fun H28 ou12 off29 => ?_)
  replace ou2 := ou2.off off29 au2Xu12
  replace op6 := op6.off off29 ap6Xu12
  replace op16 := op16.off off29 au12Xp16.symm
  replace lE := off29.le lE nu12
  refine ob_i (op16.ldn rfl) ?_
  refine R.laws_heldField ?_
  unfold F.laws_heldField
  refine nw_i (fun p30 H31 op30 nn32 le33 => ?_)
  replace ou2 := ou2.le le33
  replace op6 := op6.le le33
  replace ou12 := ou12.le le33
  replace op16 := op16.le le33
  replace lE := lE.trans le33
  replace op30 : Cel H31 p30 [(.int .i64 (r)), (.int .i64 (c)), u12] := op30
  refine ob_i (op30.fa 2) ?_
  refine ob_i (op30.ld 2 rfl) ?_
  refine C.laws_heldInt64S (k := 1) (m := (l).length) ou12.sl (by omega) (by omega) (by omega) ?_
  refine ob_i (vInt_lss _ _ _) ?_
  refine cnd_d (fun hg34 => ?_) (fun hg34 => ?_)
  ·skip
   exact absurd hg34 (by omega)
  ·skip
   refine ob_i (vInt_lss _ _ _) ?_
   refine cnd_d (fun hg35 => ?_) (fun hg35 => ?_)
   ·skip
    exact absurd hg35 (by omega)
   ·skip
    refine ob_i (vInt_neq _ _ _) ?_
    refine cnd_d (fun hg36 => ?_) (fun hg36 => ?_)
    ·skip
     exact absurd hg36 (fun h => h rfl)
    ·skip
     refine C.readRuns_ok2 hf (hv.le lE) hs0 (by omega) (fun u37 H38 ou37 nn39 le40 => ?_)
     replace ou2 := ou2.le le40
     replace op6 := op6.le le40
     replace ou12 := ou12.le le40
     replace op16 := op16.le le40
     replace lE := lE.trans le40
     refine ob_i (vExt_20 _ _) ?_
     refine ob_i (vExt_21 _ _) ?_
     refine nw_i (fun p41 H42 op41 nn43 le44 => ?_)
     have au2Xp41 : Apart u2 p41 := ou2.apart nn43
     have ap6Xp41 : Apart p6 p41 := op6.apart nn43
     have au12Xp41 : Apart u12 p41 := ou12.apart nn43
     have ap16Xp41 : Apart p16 p41 := op16.apart nn43
     have au37Xp41 : Apart u37 p41 := ou37.apart nn43
     have np41 : Nw H p41 := nn43.le lE
     replace ou2 := ou2.le le44
     replace op6 := op6.le le44
     replace ou12 := ou12.le le44
     replace op16 := op16.le le44
     replace ou37 := ou37.le le44
     replace lE := lE.trans le44
     replace op41 : Cel H42 p41 [(.int .i64 (0)), (.int .i64 (0)), (.slice none 0 0)] := op41
     refine op41.stn (ws := [(.int .i64 (r)), (.int .i64 (c)), u37]) rfl rfl (oc1 rfl (oc1 rfl (oc1 ou37.one oc0))) (fun H45 op41 off46 => ?_)
     replace ou2 := ou2.off off46 au2Xp41
     replace op6 := op6.off off46 ap6Xp41
     replace ou12 := ou12.off off46 au12Xp41
     replace op16 := op16.off off46 ap16Xp41
     replace ou37 := ou37.off off46 au37Xp41
     replace lE := off46.le lE np41
     replace op41 : Cel H45 p41 [(.int .i64 (r)), (.int .i64 (c)), u37] := op41
     refine ob_i (op41.ldn rfl) ?_
     refine ob_i (op6.ldn rfl) ?_
     refine C.laws_eqField ou37.sl ou2.sl (by first | omega | simp) (fun H47 le48 => ?_)
     replace ou12 := ou12.le le48
     replace op16 := op16.le le48
     replace lE := lE.trans le48
     refine ob_i (a := .bool false) rfl ?_
     refine gop_rf ?_
     refine gop_rf ?_
     refine gop_rf ?_
     refine ob_i (vBool_neq_same _) ?_
     refine ob_i (vPick_f _ _) ?_
     refine cnd_f1 ?_
     refine ob_i (op16.ldn rfl) ?_
     refine R.laws_heldField ?_
     unfold F.laws_heldField
     refine nw_i (fun p49 H50 op49 nn51 le52 => ?_)
     replace ou12 := ou12.le le52
     replace lE := lE.trans le52
     replace op49 : Cel H50 p49 [(.int .i64 (r)), (.int .i64 (c)), u12] := op49
     refine ob_i (op49.fa 2) ?_
     refine ob_i (op49.ld 2 rfl) ?_
     refine C.laws_heldInt64S (k := 1) (m := (l).length) ou12.sl (by omega) (by omega) (by omega) ?_
     refine ob_i (vInt_lss _ _ _) ?_
     refine cnd_d (fun hg53 => ?_) (fun hg53 => ?_)
     ·skip
      exact absurd hg53 (by omega)
     ·skip
      refine ob_i (vInt_lss _ _ _) ?_
      refine cnd_d (fun hg54 => ?_) (fun hg54 => ?_)
      ·skip
       exact absurd hg54 (by omega)
      ·skip
       refine ob_i (vInt_neq _ _ _) ?_
       refine cnd_d (fun hg55 => ?_) (fun hg55 => ?_)
       ·skip
        exact absurd hg55 (fun h => h rfl)
       ·skip
        skip
        exact hk   _    lE
theorem C.lawRead_no {s : List UInt8}  {H : Hp} {K : Value → Hp → Prop} (hno : ∀ (r c : Int) (l : List Int), fieldN 1 r c l → s.length ≤ 1200 → fieldT r c l ≠ s) (hv : VR H) (hlen : s.length ≤ 9223372036854775807)
    (hk : ∀ H', Le H H' → K (.bool true) H') : HT prg I.laws_FnExactReadRuns [(vS (s))].toArray H K := by
 have lE := Le.refl H
 refine R.laws_FnExactReadRuns ?_
 unfold F.laws_FnExactReadRuns
 refine ob_i (vLenS_t (s)) ?_
 refine ob_i (vInt_gtr _ _ _) ?_
 refine cnd_d (fun hg1 => ?_) (fun hg1 => ?_)
 ·skip
  skip
  exact hk   _    lE
 ·skip
  refine C.sReadRuns_no hno (fun H2 le3 => ?_)
  replace lE := lE.trans le3
  refine ob_i (vExt_20 _ _) ?_
  refine ob_i (vExt_21 _ _) ?_
  refine nw_i (fun p4 H5 op4 nn6 le7 => ?_)
  have np4 : Nw H p4 := nn6.le lE
  replace lE := lE.trans le7
  replace op4 : Cel H5 p4 [(.int .i64 (0)), (.int .i64 (0)), (.slice none 0 0)] := op4
  refine op4.stn (ws := [(.int .i64 (0)), (.int .i64 (0)), (.slice none 0 0)]) rfl rfl (oc1 rfl (oc1 rfl (oc1 rfl oc0))) (fun H8 op4 off9 => ?_)
  replace lE := off9.le lE np4
  replace op4 : Cel H8 p4 [(.int .i64 (0)), (.int .i64 (0)), (.slice none 0 0)] := op4
  refine C.readRuns_no hno (hv.le lE) (fun H10 le11 => ?_)
  replace op4 := op4.le le11
  replace lE := lE.trans le11
  refine ob_i (vExt_20 _ _) ?_
  refine ob_i (vExt_21 _ _) ?_
  refine nw_i (fun p12 H13 op12 nn14 le15 => ?_)
  have ap4Xp12 : Apart p4 p12 := op4.apart nn14
  have np12 : Nw H p12 := nn14.le lE
  replace op4 := op4.le le15
  replace lE := lE.trans le15
  replace op12 : Cel H13 p12 [(.int .i64 (0)), (.int .i64 (0)), (.slice none 0 0)] := op12
  refine op12.stn (ws := [(.int .i64 (0)), (.int .i64 (0)), (.slice none 0 0)]) rfl rfl (oc1 rfl (oc1 rfl (oc1 rfl oc0))) (fun H16 op12 off17 => ?_)
  replace op4 := op4.off off17 ap4Xp12
  replace lE := off17.le lE np12
  replace op12 : Cel H16 p12 [(.int .i64 (0)), (.int .i64 (0)), (.slice none 0 0)] := op12
  refine ob_i (op12.ldn rfl) ?_
  refine ob_i (op4.ldn rfl) ?_
  refine C.laws_eqField (Sl.nil 0 none) (Sl.nil 0 none) (by first | omega | simp) (fun H18 le19 => ?_)
  replace op4 := op4.le le19
  replace op12 := op12.le le19
  replace lE := lE.trans le19
  refine ob_i (a := .bool false) rfl ?_
  refine gop_rf ?_
  refine gop_rf ?_
  refine gop_rf ?_
  refine ob_i (vBool_neq_same _) ?_
  refine ob_i (vPick_f _ _) ?_
  refine cnd_f1 ?_
  refine ob_i (op12.ldn rfl) ?_
  refine R.laws_markField ?_
  unfold F.laws_markField
  refine nw_i (fun p20 H21 op20 nn22 le23 => ?_)
  replace op4 := op4.le le23
  replace op12 := op12.le le23
  replace lE := lE.trans le23
  replace op20 : Cel H21 p20 [(.int .i64 (0)), (.int .i64 (0)), (.slice none 0 0)] := op20
  refine ob_i (op20.fa 2) ?_
  refine ob_i (op20.ld 2 rfl) ?_
  refine C.laws_markInt64S (Own.nil_of (α := Int) none) (by simp) (by omega) (by omega) (fun H24 z27 off25 => ?_)
  have le26 := Off.nil_le off25
  replace op4 := op4.le le26
  replace op12 := op12.le le26
  replace lE := lE.trans le26
  refine ob_i (op12.ldn rfl) ?_
  refine R.laws_heldField ?_
  unfold F.laws_heldField
  refine nw_i (fun p28 H29 op28 nn30 le31 => ?_)
  replace op4 := op4.le le31
  replace op12 := op12.le le31
  replace lE := lE.trans le31
  replace op28 : Cel H29 p28 [(.int .i64 (0)), (.int .i64 (0)), (.slice none 0 0)] := op28
  refine ob_i (op28.fa 2) ?_
  refine ob_i (op28.ld 2 rfl) ?_
  refine C.laws_heldInt64S (k := 1) (m := 0) (Sl.nil 0 none) (by omega) (by omega) (by omega) ?_
  refine ob_i (vInt_lss _ _ _) ?_
  refine cnd_d (fun hg32 => ?_) (fun hg32 => ?_)
  ·skip
   exact absurd hg32 (by omega)
  ·skip
   refine ob_i (vInt_lss _ _ _) ?_
   refine cnd_d (fun hg33 => ?_) (fun hg33 => ?_)
   ·skip
    exact absurd hg33 (by omega)
   ·skip
    refine ob_i (vInt_neq _ _ _) ?_
    refine cnd_d (fun hg34 => ?_) (fun hg34 => ?_)
    ·skip
     exact absurd hg34 (fun h => h rfl)
    ·skip
     refine C.readRuns_no hno (hv.le lE) (fun H35 le36 => ?_)
     replace op4 := op4.le le36
     replace op12 := op12.le le36
     replace lE := lE.trans le36
     refine ob_i (vExt_20 _ _) ?_
     refine ob_i (vExt_21 _ _) ?_
     refine nw_i (fun p37 H38 op37 nn39 le40 => ?_)
     have ap4Xp37 : Apart p4 p37 := op4.apart nn39
     have ap12Xp37 : Apart p12 p37 := op12.apart nn39
     have np37 : Nw H p37 := nn39.le lE
     replace op4 := op4.le le40
     replace op12 := op12.le le40
     replace lE := lE.trans le40
     replace op37 : Cel H38 p37 [(.int .i64 (0)), (.int .i64 (0)), (.slice none 0 0)] := op37
     refine op37.stn (ws := [(.int .i64 (0)), (.int .i64 (0)), (.slice none 0 0)]) rfl rfl (oc1 rfl (oc1 rfl (oc1 rfl oc0))) (fun H41 op37 off42 => ?_)
     replace op4 := op4.off off42 ap4Xp37
     replace op12 := op12.off off42 ap12Xp37
     replace lE := off42.le lE np37
     replace op37 : Cel H41 p37 [(.int .i64 (0)), (.int .i64 (0)), (.slice none 0 0)] := op37
     refine ob_i (op37.ldn rfl) ?_
     refine ob_i (op4.ldn rfl) ?_
     refine C.laws_eqField (Sl.nil 0 none) (Sl.nil 0 none) (by first | omega | simp) (fun H43 le44 => ?_)
     replace op12 := op12.le le44
     replace lE := lE.trans le44
     refine ob_i (a := .bool false) rfl ?_
     refine gop_rf ?_
     refine gop_rf ?_
     refine gop_rf ?_
     refine ob_i (vBool_neq_same _) ?_
     refine ob_i (vPick_f _ _) ?_
     refine cnd_f1 ?_
     refine ob_i (op12.ldn rfl) ?_
     refine R.laws_heldField ?_
     unfold F.laws_heldField
     refine nw_i (fun p45 H46 op45 nn47 le48 => ?_)
     replace lE := lE.trans le48
     replace op45 : Cel H46 p45 [(.int .i64 (0)), (.int .i64 (0)), (.slice none 0 0)] := op45
     refine ob_i (op45.fa 2) ?_
     refine ob_i (op45.ld 2 rfl) ?_
     refine C.laws_heldInt64S (k := 1) (m := 0) (Sl.nil 0 none) (by omega) (by omega) (by omega) ?_
     refine ob_i (vInt_lss _ _ _) ?_
     refine cnd_d (fun hg49 => ?_) (fun hg49 => ?_)
     ·skip
      exact absurd hg49 (by omega)
     ·skip
      refine ob_i (vInt_lss _ _ _) ?_
      refine cnd_d (fun hg50 => ?_) (fun hg50 => ?_)
      ·skip
       exact absurd hg50 (by omega)
      ·skip
       refine ob_i (vInt_neq _ _ _) ?_
       refine cnd_d (fun hg51 => ?_) (fun hg51 => ?_)
       ·skip
        exact absurd hg51 (fun h => h rfl)
       ·skip
        skip
        exact hk   _    lE
theorem L.FnExactReadRuns {s : ByteArray} {H : Hp} {K : Value → Hp → Prop} (hs : s.size ≤ maxLen) (hv : VR H) (hk : ∀ H', Le H H' → K (.bool true) H') : HT prg I.laws_FnExactReadRuns [.string s].toArray H K := by
  have hs2 : s.size ≤ 9223372036854775807 := by unfold maxLen at hs; omega
  rw [tS_of s]
  have hl : s.data.toList.length = s.size := by rw [Array.length_toList]; rfl
  generalize s.data.toList = t at hl
  by_cases h : t.length ≤ 1200 ∧ ∃ (r c : Int) (l : List Int), fieldN 1 r c l ∧ fieldT r c l = t
  · obtain ⟨h1, r, c, l, hf, e⟩ := h
    exact C.lawRead_ok hf hv e.symm h1 hk
  · exact C.lawRead_no (fun r c l hf h1 e => h ⟨h1, r, c, l, hf, e⟩) hv (by omega) hk
end Go.Proofs.YtijmoehbgkibnaaDoor
/- From a contract over a whole heap to a call's end: what the statement asks. -/
namespace Go.Proofs.YtijmoehbgkibnaaDoor.HL
open Go.RowKit
/-- All of a world's blocks. -/
def whole (W : World) : Hp := fun b => W.heap[b]?
theorem whole_sub (W : World) : Sub (whole W) W := fun _ _ h => h

theorem calls_true {P : Program} {f : FuncId} {args : Array Value} {W : World} (h : HT P f args (whole W) (fun v H' => v = .bool true ∧ Le (whole W) H')) :
    Calls P f args W (fun e W' => e = .returned (.bool true) ∧ Below W.heap.size W W') := by
  refine (h W (whole_sub W)).mono ?_
  rintro e W' ⟨v, H', rfl, hs, fr, rfl, hle⟩
  refine ⟨rfl, fr.os, fr.tape, fr.output, fr.size, fun k hk => ?_⟩
  have h1 : whole W k = some W.heap[k] := by unfold whole; exact Array.getElem?_eq_getElem hk
  have h2 := hs k _ (hle k _ h1)
  rw [h2, Array.getElem?_eq_getElem hk]

end Go.Proofs.YtijmoehbgkibnaaDoor.HL
/- The library's variables, as the law's own world has them; the wrap that hands on that world's shape. -/
namespace Go.Proofs.YtijmoehbgkibnaaDoor
open HL Go
theorem cell_up {W w : World} (hw : Sub (whole W) w) {g : Nat} {v : Value} (h : W.cell? ⟨g, 0, none⟩ = some v) : w.cell? ⟨g, 0, none⟩ = some v := by
  unfold World.cell? at h ⊢
  cases ho : W.heap[g]? with
  | none => simp [ho] at h
  | some o =>
    have := hw g o ho
    simp only [ho] at h
    simp only [this]
    exact h
theorem var_up {W w : World} (hw : Sub (whole W) w) {n : String} {cs : Array Value} (h : W.var? Tryd.prog n = some cs) : w.var? Tryd.prog n = some cs := by
  unfold World.var? at h ⊢
  cases hg : Tryd.prog.globalNamed n with
  | none => simp [hg] at h
  | some g =>
    simp only [hg, Option.bind_some] at h ⊢
    cases ho : W.heap[g]? with
    | none => simp [ho] at h
    | some o =>
      have := hw g o ho
      simp only [ho] at h
      simp only [this]
      exact h
theorem cell_of_var {W : World} {n : String} {g : Nat} {v : Value} (hg : Tryd.prog.globalNamed n = some g) (h : W.var? Tryd.prog n = some #[v]) : W.cell? ⟨g, 0, none⟩ = some v := by
  unfold World.var? at h
  simp only [hg, Option.bind_some] at h
  unfold World.cell?
  cases ho : W.heap[g]? with
  | none => simp [ho] at h
  | some o =>
    simp only [ho] at h ⊢
    cases o <;> simp_all
theorem star_es : "*" ++ "errors.errorString" = "*errors.errorString" := by decide
theorem row_es (u : TypeId) (h : Tryd.prog.typeName? 3 u = some "*errors.errorString") : u = 118 :=
  typeName_ptr_named (nm := "errors.errorString") (by rw [star_es]; kernel_rfl) (by kernel_rfl) (by decide) u (by rw [star_es]; exact h)
theorem vr_of {W : World} (hsh : W.ShapedOpen Tryd.prog) (hL : laidMetH Tryd.prog Rows.fnExactReadRunsRow.laid W) : VR (whole W) := fun w hw => by
  have hM : laidMet Tryd.prog Rows.fnExactReadRunsRow.laid W := hL
  obtain ⟨m, hm⟩ := Tryd.laysM145.s1_3 W hsh
  obtain ⟨a0, s0, hv0, -, -, -⟩ := laid_sentinel hM.tail.tail.tail.tail.tail (by kernel_rfl : Tryd.prog.globalNamed "strconv.ErrSyntax" = some 1) (by kernel_rfl : (Tryd.prog.globals[1]?).map (·.type) = some 53) Tryd.underlying53 row_es Tryd.underlying118 Tryd.underlying120 rfl rfl Tryd.underlying9 (by kernel_rfl) (by kernel_rfl)
  obtain ⟨a1, s1, hv1, -, -, -⟩ := laid_sentinel hM.tail.tail.tail.tail (by kernel_rfl : Tryd.prog.globalNamed "strconv.ErrRange" = some 2) (by kernel_rfl : (Tryd.prog.globals[2]?).map (·.type) = some 53) Tryd.underlying53 row_es Tryd.underlying118 Tryd.underlying120 rfl rfl Tryd.underlying9 (by kernel_rfl) (by kernel_rfl)
  have ht : Go.Lib.TabIs Tryd.prog W "internal/strconv.uint64pow10" .u64 Go.Lib.pow10Tab := Go.Lib.tabIs_of_head (g := 3) (t := 122) (by kernel_rfl) (by kernel_rfl) Tryd.underlying122 Tryd.underlying89 (by kernel_rfl) (by kernel_rfl) hM.tail.tail
  exact ⟨⟨m, cell_up hw hm⟩, ⟨_, _, cell_up hw (cell_of_var (by kernel_rfl) hv0)⟩, ⟨_, _, cell_up hw (cell_of_var (by kernel_rfl) hv1)⟩, var_up hw ht⟩
theorem returnsInHanded_and_shaped {H : Type} {enc : TypeId × Value → H} {a : Assume} {C : Checked} {os : Os} {f : FuncId} {fn : Func} {s : ChangeSpec} {conds : List PathCond} {apart fresh handsOn again : Bool} {X : World → Array Value → Prop}
    (hX : ∀ (w w' : World) (args : Array Value), w.heap = w'.heap → X w args → X w' args)
    (own : ownKnob C.prog.godebug = none) (started : os.Started) (noInit : C.prog.inits.idxOf? f = none) (hfn : C.prog.funcs[f]? = some fn)
    (witness : ∃ (w : World) (tape : Tape) (i : Input), w.os = os ∧ (w.forCall tape i).Shaped C.prog ∧ i.vars = [] ∧ Input.okWide C.prog (w.forCall tape i) .any w.heap.size f i ∧
      ((s.pre enc C.prog fn conds apart (w.forCall tape i).memory i.args ∧ X (w.forCall tape i).memory i.args) ∧ sizedMet enc C.prog fn (OpenSpec.ofChange s) apart (w.forCall tape i).memory i.args) ∧ a.holds C.prog (lone (Frame.enter C.prog f i.args .normal) [] (w.forCall tape i)))
    (contract : ∀ (W : World) (base : Nat) (args : Array Value) (ds gs : List (DataW H)) (before : List MemPlace),
      (∀ (j : Nat) t v, fn.params[j]? = some t → args[j]? = some v → Value.okWide C.prog W .any base t v) →
      DataW.Whole enc C.prog fn.params.toList s.vars apart W args.toList ds gs before →
      conds.all (PathCond.test C.prog ⟨fn.params.toList, ds, s.plain.varTypes C.prog, gs⟩) = true →
      (DataW.weightsEach C.prog (fn.params.toList ++ s.plain.varTypes C.prog) (ds ++ gs)).all (· ≤ reachBytes) = true → X W args → W.ShapedOpen C.prog →
      Calls C.prog f args W fun e W' => ∃ v, e = .returned v ∧ s.post enc C.prog fn apart fresh handsOn again W args v W') :
    ReturnsInHanded a C os f .any (fun w args => (s.pre enc C.prog fn conds apart w args ∧ X w args) ∧ sizedMet enc C.prog fn (OpenSpec.ofChange s) apart w args) (s.post enc C.prog fn apart fresh handsOn again) := by
  refine returnsInHanded_of_calls own started noInit witness ?_
  intro w tape i _ hsh _ hok hpre _
  obtain ⟨_, _, _, fn', hfn', _, _, _, _, hval⟩ := hok
  have e : fn' = fn := Option.some.inj (hfn'.symm.trans hfn)
  subst e
  obtain ⟨⟨⟨ds, gs, before, hw, hc⟩, hx⟩, hz⟩ := hpre
  have hw' := DataW.Whole.of_heap (w' := w.forCall tape i) (by rfl) hw
  refine (contract (w.forCall tape i) w.heap.size i.args ds gs before hval hw' hc (hz.weights hw) (hX _ _ _ (by rfl) hx) hsh).mono fun e W' ⟨v, he, hp⟩ => ?_
  subst he
  exact ChangeSpec.post_blind hp
end Go.Proofs.YtijmoehbgkibnaaDoor
