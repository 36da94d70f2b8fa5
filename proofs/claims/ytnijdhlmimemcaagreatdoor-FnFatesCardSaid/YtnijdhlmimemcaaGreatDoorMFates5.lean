/- Several texts in one. -/
import Derived.Test.YtnijdhlmimemcaaGreatDoorMFates0
import Derived.Test.YtnijdhlmimemcaaGreatDoorG0
import Derived.Below
import Derived.WalkKit
import Derived.ProofKit
import Derived.Test.YtnijdhlmimemcaaGreatDoorMFates1
import Derived.Test.YtnijdhlmimemcaaGreatDoorMFates4
/- From a contract over a whole heap to a call's end: what the statement asks. -/
namespace Go.Proofs.YtnijdhlmimemcaaGreatDoor.HL
open Go.RowKit
/-- All of a world's blocks. -/
def whole (W : World) : Hp := fun b => W.heap[b]?
theorem whole_sub (W : World) : Sub (whole W) W := fun _ _ h => h

theorem calls_true {P : Program} {f : FuncId} {args : Array Value} {W : World} (h : HT P f args (whole W) (fun v H' => v = .bool true ∧ Le (whole W) H')) :
    Calls P f args W (fun e W' => e = .returned (.bool true) ∧ Below W.heap.size W W') := by
  refine (h W (whole_sub W)).mono ?_
  rintro e W' ⟨v, H', rfl, hs, fr, rfl, hle⟩
  refine ⟨rfl, fr.os, fr.tape, fr.output, fr.size, fun k hk => ?_⟩
  have h1 : whole W k = some W.heap[k] := by unfold whole; exact Array.getElem?_eq_getElem hk
  have h2 := hs k _ (hle k _ h1)
  rw [h2, Array.getElem?_eq_getElem hk]

/-- A row of numbers of the world, as the kit's rows tell it. -/
def IsRow (k : IntKind) (w : World) (a : Option Addr) (len cap : Nat) (zs : List Int) : Prop :=
  (a = none ∧ len = 0 ∧ cap = 0 ∧ zs = []) ∨
  ∃ x, a = some x ∧ len ≤ cap ∧ cap ≤ maxLen ∧ zs.length = cap ∧ (∀ i, i < zs.length → w.cell? (x.add i) = some (.int k (zs.getD i 0))) ∧ ∀ n ∈ zs, (Lit.int k n).wf = true

end Go.Proofs.YtnijdhlmimemcaaGreatDoor.HL
/- A statement's bytes. -/
namespace Go.Proofs.YtnijdhlmimemcaaGreatDoor.HL
theorem slU_of_row {W : World} {a : Option Addr} {len cap : Nat} {zs : List Int} (h : IsRow .u8 W a len cap zs) : Sl eU (whole W) (.slice a len cap) (zs.take len) := by
  rcases h with ⟨rfl, rfl, rfl, rfl⟩ | ⟨x, rfl, h1, _, h3, h4, _⟩
  · exact Sl.nil 0 none
  · have hlen : (zs.take len).length = len := by simp; omega
    refine ⟨some x, cap, by rw [hlen], by omega, fun i hi => ⟨x, rfl, ?_⟩⟩
    have hi' : i < zs.length := by simp at hi; omega
    have := h4 i hi'
    rw [List.getElem_take]
    rw [List.getD_eq_getElem?_getD, List.getElem?_eq_getElem hi'] at this
    exact this
theorem rowU_max {W : World} {a : Option Addr} {len cap : Nat} {zs : List Int} (h : IsRow .u8 W a len cap zs) : (zs.take len).length ≤ 9223372036854775807 := by
  rcases h with ⟨rfl, rfl, rfl, rfl⟩ | ⟨x, rfl, h1, h2, h3, _, _⟩
  · simp
  · have : maxLen = 9223372036854775807 := by decide
    simp; omega
theorem rowU_byt {W : World} {a : Option Addr} {len cap : Nat} {zs : List Int} (h : IsRow .u8 W a len cap zs) : bytP (zs.take len) := by
  rcases h with ⟨rfl, rfl, rfl, rfl⟩ | ⟨x, rfl, h1, h2, h3, _, hw⟩
  · intro y hy; simp at hy
  · intro y hy
    have := hw y (List.mem_of_mem_take hy)
    unfold Lit.wf at this
    simp [IntKind.min, IntKind.max, IntKind.signed, IntKind.bits] at this
    omega
end Go.Proofs.YtnijdhlmimemcaaGreatDoor.HL
/- The law of fates. -/
namespace Go.Proofs.YtnijdhlmimemcaaGreatDoor
open HL
variable {l m b s la lb : List Int} {x k i r c st ra ca rb cb row col : Int} {vy va vb vm vc vs vb2 : Value} {rnd : Bool} {H : Hp} {K : Value → Hp → Prop}
set_option maxRecDepth 100000
attribute [local irreducible] vStr
theorem all_snoc {p : Int → Prop} (h : ∀ y ∈ l, p y) (hx : p x) : ∀ y ∈ l ++ [x], p y := fun y hy => by
  rcases List.mem_append.mp hy with hy | hy
  · exact h y hy
  · simp only [List.mem_singleton] at hy; subst hy; exact hx
/-- Counts that rise, all less than a number. -/
def lifK (l : List Int) (k : Int) : Prop := cntP l ∧ ∀ x ∈ l, x < k
theorem lifK_nil (k : Int) : lifK [] k := ⟨by decide, by simp⟩
theorem lifK_mono {m : Int} (h : lifK l k) (hm : k ≤ m) : lifK l m := ⟨h.1, fun x hx => by have := h.2 x hx; omega⟩
theorem lifK_snoc {m : Int} (h : lifK l k) (h0 : 0 ≤ k) (h1 : k ≤ 8) (hm : k < m) : lifK (l ++ [k]) m := by
  obtain ⟨⟨g1, g2⟩, g3⟩ := h
  refine ⟨⟨fun x hx => ?_, fun j hj j0 => ?_⟩, fun x hx => ?_⟩
  · rcases List.mem_append.mp hx with h | h
    · exact g1 x h
    · simp only [List.mem_singleton] at h; omega
  · simp only [List.length_append, List.length_singleton] at hj
    have e : ∀ i : Nat, i < l.length → at_ 0 (l ++ [k]) (i : Int) = at_ 0 l (i : Int) := fun i hi => by
      rw [at_eq 0 _ (by simp; omega), at_eq 0 _ hi, List.getElem_append_left hi]
    have e2 : at_ 0 (l ++ [k]) (l.length : Int) = k := by
      rw [at_eq 0 _ (by simp), List.getElem_append_right (Nat.le_refl _)]; simp
    have e3 := e (j - 1) (by omega)
    rw [show (((j - 1 : Nat) : Nat) : Int) = (j : Int) - 1 by omega] at e3
    rw [e3]
    by_cases g : j = l.length
    · rw [g, e2]
      have := g3 _ (at_mem 0 l (i := (l.length : Int) - 1) (by omega) (by omega))
      exact this
    · rw [e j (by omega)]; exact g2 j (by omega) j0
  · rcases List.mem_append.mp hx with h | h
    · have := g3 x h; omega
    · simp only [List.mem_singleton] at h; omega
theorem ints_eq (h : l.length = m.length) (ha : ∀ j : Nat, j < l.length → at_ 0 l (j : Int) = at_ 0 m (j : Int)) : l = m := by
  apply List.ext_getElem h
  intro j h1 h2
  have := ha j h1
  rw [at_eq 0 l h1, at_eq 0 m h2] at this
  exact this
theorem ints_snoc {i : Nat} (ha : ∀ j : Nat, j < i → at_ 0 l (j : Int) = at_ 0 m (j : Int)) (h : at_ 0 l (i : Int) = at_ 0 m (i : Int)) : ∀ j : Nat, j < i + 1 → at_ 0 l (j : Int) = at_ 0 m (j : Int) := fun j hj => by
  by_cases e : j = i
  · subst e; exact h
  · exact ha j (by omega)
theorem C.c125  {H : Hp} {K : Value → Hp → Prop} (hvy0 : Sl eU H vy l) (hb_vy : bytP l) (hl_vy : l.length ≤ 9223372036854775807)
    (hk : ∀ (lb : List Int) (lz : List Int), (True) → (lifP lb lz ∧ lb.length ≤ 8 ∧ lz.length ≤ 8) → ∀ u1 u2 H', Own eI H' u1 lb → Own eI H' u2 lz → Nw H u1 → Nw H u2 → Apart u1 u2 → Le H H' → K (.agg #[u1, u2]) H') : HT prg 6 [vy].toArray H K := by
 have lE := Le.refl H
 refine R.q6 ?_
 unfold F.q6
 refine nw_i (fun p1 H2 op1 nn3 le4 => ?_)
 have np1 := nn3.le lE
 replace op1 : Cel H2 p1 [(.slice none 0 0), (.slice none 0 0)] := op1
 replace lE := lE.trans le4
 refine C.c120 (hvy0.le lE) (fun z H5 oz nn6 le7 => ?_)
 have ap1Xz := op1.apart nn6
 have nz := nn6.le lE
 replace oz : Cel H5 z [vy, (.int .i64 (0)), (.int .u64 (0))] := oz
 replace lE := lE.trans le7
 refine C.c123 (n := 2) hvy0 hb_vy hl_vy lE nz oz (by omega) (by omega) (fun x8 at9 sd10 H11 ap13 aq14 oz off12 => ?_)
 replace oz : Cel H11 z [vy, (.int .i64 (at9)), (.int .u64 (sd10))] := oz
 refine cnd_i (fun hg15 => ?_) (fun hg15 => ?_)
 refine bS_i (enc := eI) (l := [(3 : Int)]) (by omega) rfl (by kernel_rfl) (fun u16 H17 ou16 nn18 le20 => ?_)
 replace op1 := (op1.le le7).off off12 ap1Xz
 have ap1Xu16 := op1.apart nn18
 replace lE := off12.le lE nz
 have nu16 := nn18.le lE
 refine bS_i (enc := eI) (l := [(2 : Int), (3 : Int)]) (by omega) rfl (by kernel_rfl) (fun u21 H22 ou21 nn23 le25 => ?_)
 replace op1 := op1.le le20
 have ap1Xu21 := op1.apart nn23
 have au16Xu21 := ou16.apart nn23
 replace lE := lE.trans le20
 have nu21 := nn23.le lE
 replace ou16 := ou16.le le25
 refine ob_i (a := (.agg #[u16, u21])) (by obtain ⟨_, _, _, rfl⟩ := ou16.isSl; obtain ⟨_, _, _, rfl⟩ := ou21.isSl; rfl) ?_
 replace op1 := op1.le le25
 refine op1.stn (ws := [u16, u21]) rfl rfl (oc1 ou16.one (oc1 ou21.one oc0)) (fun H26 op1 off27 => ?_)
 refine ob_i (op1.ldn rfl) ?_
 replace lE := off27.le (lE.trans le25) np1
 replace ou16 := ou16.off off27 ap1Xu16.symm
 replace ou21 := ou21.off off27 ap1Xu21.symm
 exact hk  ([(3 : Int)]) ([(2 : Int), (3 : Int)]) (by first | trivial | exact ⟨hlu, hll, hlm⟩ | decide) (by first | trivial | exact ⟨hlu, hll, hlm⟩ | decide) u16 u21 _ ou16 ou21 nu16 nu21 au16Xu21 lE
 refine R.q25 ?_
 unfold F.q25
 refine nw_i (fun q0 H28 oq0 nn29 le30 => ?_)
 replace op1 := (op1.le le7).off off12 ap1Xz
 have ap1Xq0 := op1.apart nn29
 have azXq0 := oz.apart nn29
 replace lE := off12.le lE nz
 have nq0 := nn29.le lE
 replace oq0 : Cel H28 q0 [(.slice none 0 0), (.slice none 0 0)] := oq0
 refine bS_i (enc := eI) (l := [(3 : Int)]) (by omega) rfl (by kernel_rfl) (fun u31 H32 ou31 nn33 le35 => ?_)
 replace op1 := op1.le le30
 have ap1Xu31 := op1.apart nn33
 replace oz := oz.le le30
 have azXu31 := oz.apart nn33
 have aq0Xu31 := oq0.apart nn33
 replace lE := lE.trans le30
 have nu31 := nn33.le lE
 refine bS_i (enc := eI) (l := [(2 : Int), (3 : Int)]) (by omega) rfl (by kernel_rfl) (fun u36 H37 ou36 nn38 le40 => ?_)
 replace op1 := op1.le le35
 have ap1Xu36 := op1.apart nn38
 replace oz := oz.le le35
 have azXu36 := oz.apart nn38
 replace oq0 := oq0.le le35
 have aq0Xu36 := oq0.apart nn38
 have au31Xu36 := ou31.apart nn38
 replace lE := lE.trans le35
 have nu36 := nn38.le lE
 replace ou31 := ou31.le le40
 refine ob_i (a := (.agg #[u31, u36])) (by obtain ⟨_, _, _, rfl⟩ := ou31.isSl; obtain ⟨_, _, _, rfl⟩ := ou36.isSl; rfl) ?_
 refine nw_i (fun q H41 oq nn42 le43 => ?_)
 replace op1 := op1.le le40
 have ap1Xq := op1.apart nn42
 replace oz := oz.le le40
 have azXq := oz.apart nn42
 replace oq0 := oq0.le le40
 have aq0Xq := oq0.apart nn42
 have au31Xq := ou31.apart nn42
 have au36Xq := ou36.apart nn42
 replace lE := lE.trans le40
 have nq := nn42.le lE
 replace ou31 := ou31.le le43
 replace ou36 := ou36.le le43
 refine oq.stn (ws := [u31, u36]) rfl rfl (oc1 ou31.one (oc1 ou36.one oc0)) (fun H44 oq off45 => ?_)
 refine jn_i (fun σ' H' => ∃ u, ∃ v, ∃ lu, ∃ lv, σ' 2 = q0 ∧ σ' 3 = q ∧ Cel H' p1 [(.slice none 0 0), (.slice none 0 0)] ∧ Cel H' q0 [(.slice none 0 0), (.slice none 0 0)] ∧ Cel H' q [u, v] ∧ Own eI H' u (lu) ∧ Own eI H' v (lv) ∧ Nw H u ∧ Apart p1 u ∧ Apart q0 u ∧ Apart q u ∧ Nw H v ∧ Apart p1 v ∧ Apart q0 v ∧ Apart q v ∧ Apart u v ∧ Le H H' ∧ lifP lu lv ∧ lu.length ≤ 8 ∧ lv.length ≤ 8) (fun σ46 H46 hP => ?_) (fun J46 hJ46 => ?_)
 replace op1 := (op1.le le43).off off45 ap1Xq
 replace oq0 := (oq0.le le43).off off45 aq0Xq
 replace lE := off45.le (lE.trans le43) nq
 obtain ⟨u, v, lu, lv, g2L46, g3L46, op1, oq0, oq, ou, ov, nu, ap1Xu, aq0Xu, aqXu, nv, ap1Xv, aq0Xv, aqXv, auXv, lE, hlu, hll, hlm⟩ := hP
 try simp only [g2L46, g3L46]
 refine ob_i (oq.ldn rfl) (oq0.stn (ws := [u, v]) rfl rfl (oc1 ou.one (oc1 ov.one oc0)) (fun H47 oq0 off48 => ?_))
 refine ob_i (oq0.ldn rfl) ?_
 replace op1 := op1.off off48 ap1Xq0
 replace ou := ou.off off48 aq0Xu.symm
 replace ov := ov.off off48 aq0Xv.symm
 refine op1.stn (ws := [u, v]) rfl rfl (oc1 ou.one (oc1 ov.one oc0)) (fun H49 op1 off50 => ?_)
 refine ob_i (op1.ldn rfl) ?_
 replace lE := off50.le (off48.le lE nq0) np1
 replace ou := ou.off off50 ap1Xu.symm
 replace ov := ov.off off50 ap1Xv.symm
 exact hk  lu lv (by first | trivial | exact ⟨hlu, hll, hlm⟩ | decide) (by first | trivial | exact ⟨hlu, hll, hlm⟩ | decide) u v _ ou ov nu nv auXv lE
 replace oz := (oz.le le43).off off45 azXq
 replace lE := off45.le (lE.trans le43) nq
 refine C.c123 (n := 2) hvy0 hb_vy hl_vy lE nz oz (by omega) (by omega) (fun x51 at52 sd53 H54 ap56 aq57 oz off55 => ?_)
 replace oz : Cel H54 z [vy, (.int .i64 (at52)), (.int .u64 (sd53))] := oz
 refine cnd_i (fun hg58 => ?_) (fun hg58 => ?_)
 refine bS_nil (enc := eI) (fun u59 H60 ou59 nn61 kk62 le63 => ?_)
 replace op1 := ((op1.le le43).off off45 ap1Xq).off off55 ap1Xz
 have ap1Xu59 := op1.apart nn61
 have azXu59 := oz.apart nn61
 replace oq0 := ((oq0.le le43).off off45 aq0Xq).off off55 azXq0.symm
 have aq0Xu59 := oq0.apart nn61
 replace ou31 := (ou31.off off45 au31Xq).off off55 azXu31.symm
 have au31Xu59 := ou31.apart nn61
 replace ou36 := (ou36.off off45 au36Xq).off off55 azXu36.symm
 have au36Xu59 := ou36.apart nn61
 replace oq := oq.off off55 azXq.symm
 have aqXu59 := oq.apart nn61
 replace lE := off55.le lE nz
 have nu59 := nn61.le lE
 refine bS_nil (enc := eI) (fun u64 H65 ou64 nn66 kk67 le68 => ?_)
 replace op1 := op1.le le63
 have ap1Xu64 := op1.apart nn66
 replace oz := oz.le le63
 have azXu64 := oz.apart nn66
 replace oq0 := oq0.le le63
 have aq0Xu64 := oq0.apart nn66
 replace ou31 := ou31.le le63
 have au31Xu64 := ou31.apart nn66
 replace ou36 := ou36.le le63
 have au36Xu64 := ou36.apart nn66
 replace oq := oq.le le63
 have aqXu64 := oq.apart nn66
 have au59Xu64 := ou59.apart nn66
 replace lE := lE.trans le63
 have nu64 := nn66.le lE
 replace ou59 := ou59.le le68
 refine ob_i (a := (.agg #[u59, u64])) (by obtain ⟨_, _, _, rfl⟩ := ou59.isSl; obtain ⟨_, _, _, rfl⟩ := ou64.isSl; rfl) ?_
 replace oq := oq.le le68
 refine oq.stn (ws := [u59, u64]) rfl rfl (oc1 ou59.one (oc1 ou64.one oc0)) (fun H69 oq off70 => ?_)
 replace op1 := (op1.le le68).off off70 ap1Xq
 replace oz := (oz.le le68).off off70 azXq
 replace oq0 := (oq0.le le68).off off70 aq0Xq
 replace ou31 := (ou31.le le68).off off70 au31Xq
 replace ou36 := (ou36.le le68).off off70 au36Xq
 replace lE := off70.le (lE.trans le68) nq
 replace ou59 := ou59.off off70 aqXu59.symm
 replace ou64 := ou64.off off70 aqXu64.symm
 refine ⟨fun n' σ' H' => ∃ i : Nat, n' = 8 - i ∧ i ≤ 8 ∧ ∃ u, ∃ v, ∃ lu, ∃ lv, ∃ ats, ∃ sd, σ' 0 = z ∧ σ' 2 = q0 ∧ σ' 3 = q ∧ σ' 4 = (.int .i64 ((i : Int) + 1)) ∧ Cel H' p1 [(.slice none 0 0), (.slice none 0 0)] ∧ Cel H' z [vy, (.int .i64 (ats)), (.int .u64 (sd))] ∧ Cel H' q0 [(.slice none 0 0), (.slice none 0 0)] ∧ Own eI H' u31 ([(3 : Int)]) ∧ Own eI H' u36 ([(2 : Int), (3 : Int)]) ∧ Cel H' q [u, v] ∧ Own eI H' u (lu) ∧ Own eI H' v (lv) ∧ Nw H u ∧ Apart p1 u ∧ Apart z u ∧ Apart q0 u ∧ Apart u31 u ∧ Apart u36 u ∧ Apart q u ∧ Nw H v ∧ Apart p1 v ∧ Apart z v ∧ Apart q0 v ∧ Apart u31 v ∧ Apart u36 v ∧ Apart q v ∧ Apart u v ∧ Le H H' ∧ lifK lu ((i : Int) + 1) ∧ lifK lv ((i : Int) + 1) ∧ lu.length ≤ i ∧ lv.length ≤ i ∧ 0 ≤ ats ∧ ats ≤ 8 + 4 * (i : Int),
    ⟨_, 0, rfl, by omega, u59, u64, [], [], _, _, rfl, rfl, rfl, (congrArg (Value.int .i64) (by first | omega | rfl | (simp; done))), op1, oz, oq0, ou31, ou36, oq, (Own.cast (by first | rfl | (simp; done)) ou59), (Own.cast (by first | rfl | (simp; done)) ou64), nu59, ap1Xu59, azXu59, aq0Xu59, au31Xu59, au36Xu59, aqXu59, nu64, ap1Xu64, azXu64, aq0Xu64, au31Xu64, au36Xu64, aqXu64, au59Xu64, lE, lifK_nil _, lifK_nil _, (by simp), (by simp), ⟨by omega, by omega⟩⟩, ?_⟩
 rintro n71 σ71 H71 ⟨i, rfl, hiN, u, v, lu, lv, ats, sd, g0L71, g2L71, g3L71, g4L71, op1, oz, oq0, ou31, ou36, oq, ou, ov, nu, ap1Xu, azXu, aq0Xu, au31Xu, au36Xu, aqXu, nv, ap1Xv, azXv, aq0Xv, au31Xv, au36Xv, aqXv, auXv, lE, hlu, hlv, hll, hlm, hat⟩
 try simp only [g0L71, g2L71, g3L71, g4L71]
 refine ob_i (vInt_lss _ _ _) (cnd_d (fun hg72 => ?_) (fun hg72 => ?_))
 have ti := hg72
 refine C.c123 (n := 3) hvy0 hb_vy hl_vy lE nz oz (by omega) (by omega) (fun x73 at74 sd75 H76 ap78 aq79 oz off77 => ?_)
 replace oz : Cel H76 z [vy, (.int .i64 (at74)), (.int .u64 (sd75))] := oz
 refine cnd_i (fun hg80 => ?_) (fun hg80 => ?_)
 replace oq := oq.off off77 azXq.symm
 refine ob_i (oq.fa 0) (ob_i (oq.ld 0 rfl) (bS_i (enc := eI) (l := [(i : Int) + 1]) (by omega) rfl (by kernel_rfl) (fun u81 H82 ou81 nn83 le85 => ?_)))
 replace ou := (ou.off off77 azXu.symm).le le85
 refine apd_any ou ou81.sl (fun _ => rfl) (by omega) (by first | omega | (simp only [List.length_cons, List.length_nil, List.length_append, List.length_replicate, List.length_map, List.length_range]; omega)) (fun u89 H86 ou89 off87 hb88 => ?_)
 replace op1 := (op1.off off77 ap1Xz).le le85
 have ap1Xu89 := Apart.ap2 op1.known ap1Xu hb88
 replace oz := oz.le le85
 have azXu89 := Apart.ap2 oz.known azXu hb88
 replace oq0 := (oq0.off off77 azXq0.symm).le le85
 have aq0Xu89 := Apart.ap2 oq0.known aq0Xu hb88
 replace ou31 := (ou31.off off77 azXu31.symm).le le85
 have au31Xu89 := Apart.ap2 ou31.known au31Xu hb88
 replace ou36 := (ou36.off off77 azXu36.symm).le le85
 have au36Xu89 := Apart.ap2 ou36.known au36Xu hb88
 replace oq := oq.le le85
 have aqXu89 := Apart.ap2 oq.known aqXu hb88
 replace ov := (ov.off off77 azXv.symm).le le85
 have avXu89 := Apart.ap2 ov.known auXv.symm hb88
 replace lE := (off77.le lE nz).trans le85
 have nu89 : Nw H u89 := Nw.ap2 nu lE hb88
 replace oq := oq.off off87 aqXu
 refine ob_i (oq.fa 0) (oq.st (by simp) ou89.one ou89.cells (fun H90 oq off91 => ?_))
 replace oq : Cel H90 q [u89, v] := oq
 replace oz := (oz.off off87 azXu).off off91 azXq
 replace lE := off91.le (off87.le lE nu) nq
 refine C.c123 (n := 3) hvy0 hb_vy hl_vy lE nz oz (by omega) (by omega) (fun x92 at93 sd94 H95 ap97 aq98 oz off96 => ?_)
 replace oz : Cel H95 z [vy, (.int .i64 (at93)), (.int .u64 (sd94))] := oz
 refine cnd_i (fun hg99 => ?_) (fun hg99 => ?_)
 replace oq := oq.off off96 azXq.symm
 refine ob_i (oq.fa 1) (ob_i (oq.ld 1 rfl) (bS_i (enc := eI) (l := [(i : Int) + 1]) (by omega) rfl (by kernel_rfl) (fun u100 H101 ou100 nn102 le104 => ?_)))
 replace ov := (((ov.off off87 auXv.symm).off off91 aqXv.symm).off off96 azXv.symm).le le104
 refine apd_any ov ou100.sl (fun _ => rfl) (by omega) (by first | omega | (simp only [List.length_cons, List.length_nil, List.length_append, List.length_replicate, List.length_map, List.length_range]; omega)) (fun u108 H105 ou108 off106 hb107 => ?_)
 replace op1 := (((op1.off off87 ap1Xu).off off91 ap1Xq).off off96 ap1Xz).le le104
 have ap1Xu108 := Apart.ap2 op1.known ap1Xv hb107
 replace oz := oz.le le104
 have azXu108 := Apart.ap2 oz.known azXv hb107
 replace oq0 := (((oq0.off off87 aq0Xu).off off91 aq0Xq).off off96 azXq0.symm).le le104
 have aq0Xu108 := Apart.ap2 oq0.known aq0Xv hb107
 replace ou31 := (((ou31.off off87 au31Xu).off off91 au31Xq).off off96 azXu31.symm).le le104
 have au31Xu108 := Apart.ap2 ou31.known au31Xv hb107
 replace ou36 := (((ou36.off off87 au36Xu).off off91 au36Xq).off off96 azXu36.symm).le le104
 have au36Xu108 := Apart.ap2 ou36.known au36Xv hb107
 replace oq := oq.le le104
 have aqXu108 := Apart.ap2 oq.known aqXv hb107
 replace ou89 := ((ou89.off off91 aqXu89.symm).off off96 azXu89.symm).le le104
 have au89Xu108 := Apart.ap2 ou89.known avXu89.symm hb107
 replace lE := (off96.le lE nz).trans le104
 have nu108 : Nw H u108 := Nw.ap2 nv lE hb107
 replace oq := oq.off off106 aqXv
 refine ob_i (oq.fa 1) (oq.st (by simp) ou108.one ou108.cells (fun H109 oq off110 => ?_))
 replace oq : Cel H109 q [u89, u108] := oq
 refine ob_i (vInt_add (by omega) (by omega)) ?_
 replace op1 := (op1.off off106 ap1Xv).off off110 ap1Xq
 replace oz := (oz.off off106 azXv).off off110 azXq
 replace oq0 := (oq0.off off106 aq0Xv).off off110 aq0Xq
 replace ou31 := (ou31.off off106 au31Xv).off off110 au31Xq
 replace ou36 := (ou36.off off106 au36Xv).off off110 au36Xq
 replace ou89 := (ou89.off off106 avXu89.symm).off off110 aqXu89.symm
 replace lE := off110.le (off106.le lE nv) nq
 replace ou108 := ou108.off off110 aqXu108.symm
 exact nxt (8 - (i + 1)) (by omega) ⟨i + 1, rfl, by omega, u89, u108, (lu ++ ([(i : Int) + 1])), (lv ++ ([(i : Int) + 1])), (at93), (sd94), g0L71, g2L71, g3L71, (congrArg (Value.int .i64) (by first | omega | rfl | (simp; done))), op1, oz, oq0, ou31, ou36, oq, ou89, ou108, nu89, ap1Xu89, azXu89, aq0Xu89, au31Xu89, au36Xu89, aqXu89, nu108, ap1Xu108, azXu108, aq0Xu108, au31Xu108, au36Xu108, aqXu108, au89Xu108, lE, (by first | exact lifK_mono hlu (by omega) | exact lifK_snoc hlu (by omega) (by omega) (by omega)), (by first | exact lifK_mono hlv (by omega) | exact lifK_snoc hlv (by omega) (by omega) (by omega)), (by first | (simp only [List.length_append, List.length_singleton]; omega) | omega), (by first | (simp only [List.length_append, List.length_singleton]; omega) | omega), ⟨by omega, by omega⟩⟩
 refine ob_i (vInt_add (by omega) (by omega)) ?_
 replace op1 := ((op1.off off87 ap1Xu).off off91 ap1Xq).off off96 ap1Xz
 replace oq0 := ((oq0.off off87 aq0Xu).off off91 aq0Xq).off off96 azXq0.symm
 replace ou31 := ((ou31.off off87 au31Xu).off off91 au31Xq).off off96 azXu31.symm
 replace ou36 := ((ou36.off off87 au36Xu).off off91 au36Xq).off off96 azXu36.symm
 replace ov := ((ov.off off87 auXv.symm).off off91 aqXv.symm).off off96 azXv.symm
 replace ou89 := (ou89.off off91 aqXu89.symm).off off96 azXu89.symm
 replace oq := oq.off off96 azXq.symm
 replace lE := off96.le lE nz
 exact nxt (8 - (i + 1)) (by omega) ⟨i + 1, rfl, by omega, u89, v, (lu ++ ([(i : Int) + 1])), (lv), (at93), (sd94), g0L71, g2L71, g3L71, (congrArg (Value.int .i64) (by first | omega | rfl | (simp; done))), op1, oz, oq0, ou31, ou36, oq, ou89, ov, nu89, ap1Xu89, azXu89, aq0Xu89, au31Xu89, au36Xu89, aqXu89, nv, ap1Xv, azXv, aq0Xv, au31Xv, au36Xv, aqXv, avXu89.symm, lE, (by first | exact lifK_mono hlu (by omega) | exact lifK_snoc hlu (by omega) (by omega) (by omega)), (by first | exact lifK_mono hlv (by omega) | exact lifK_snoc hlv (by omega) (by omega) (by omega)), (by first | (simp only [List.length_append, List.length_singleton]; omega) | omega), (by first | (simp only [List.length_append, List.length_singleton]; omega) | omega), ⟨by omega, by omega⟩⟩
 replace lE := off77.le lE nz
 refine C.c123 (n := 3) hvy0 hb_vy hl_vy lE nz oz (by omega) (by omega) (fun x111 at112 sd113 H114 ap116 aq117 oz off115 => ?_)
 replace oz : Cel H114 z [vy, (.int .i64 (at112)), (.int .u64 (sd113))] := oz
 refine cnd_i (fun hg118 => ?_) (fun hg118 => ?_)
 replace oq := (oq.off off77 azXq.symm).off off115 azXq.symm
 refine ob_i (oq.fa 1) (ob_i (oq.ld 1 rfl) (bS_i (enc := eI) (l := [(i : Int) + 1]) (by omega) rfl (by kernel_rfl) (fun u119 H120 ou119 nn121 le123 => ?_)))
 replace ov := ((ov.off off77 azXv.symm).off off115 azXv.symm).le le123
 refine apd_any ov ou119.sl (fun _ => rfl) (by omega) (by first | omega | (simp only [List.length_cons, List.length_nil, List.length_append, List.length_replicate, List.length_map, List.length_range]; omega)) (fun u127 H124 ou127 off125 hb126 => ?_)
 replace op1 := ((op1.off off77 ap1Xz).off off115 ap1Xz).le le123
 have ap1Xu127 := Apart.ap2 op1.known ap1Xv hb126
 replace oz := oz.le le123
 have azXu127 := Apart.ap2 oz.known azXv hb126
 replace oq0 := ((oq0.off off77 azXq0.symm).off off115 azXq0.symm).le le123
 have aq0Xu127 := Apart.ap2 oq0.known aq0Xv hb126
 replace ou31 := ((ou31.off off77 azXu31.symm).off off115 azXu31.symm).le le123
 have au31Xu127 := Apart.ap2 ou31.known au31Xv hb126
 replace ou36 := ((ou36.off off77 azXu36.symm).off off115 azXu36.symm).le le123
 have au36Xu127 := Apart.ap2 ou36.known au36Xv hb126
 replace oq := oq.le le123
 have aqXu127 := Apart.ap2 oq.known aqXv hb126
 replace ou := ((ou.off off77 azXu.symm).off off115 azXu.symm).le le123
 have auXu127 := Apart.ap2 ou.known auXv hb126
 replace lE := (off115.le lE nz).trans le123
 have nu127 : Nw H u127 := Nw.ap2 nv lE hb126
 replace oq := oq.off off125 aqXv
 refine ob_i (oq.fa 1) (oq.st (by simp) ou127.one ou127.cells (fun H128 oq off129 => ?_))
 replace oq : Cel H128 q [u, u127] := oq
 refine ob_i (vInt_add (by omega) (by omega)) ?_
 replace op1 := (op1.off off125 ap1Xv).off off129 ap1Xq
 replace oz := (oz.off off125 azXv).off off129 azXq
 replace oq0 := (oq0.off off125 aq0Xv).off off129 aq0Xq
 replace ou31 := (ou31.off off125 au31Xv).off off129 au31Xq
 replace ou36 := (ou36.off off125 au36Xv).off off129 au36Xq
 replace ou := (ou.off off125 auXv).off off129 aqXu.symm
 replace lE := off129.le (off125.le lE nv) nq
 replace ou127 := ou127.off off129 aqXu127.symm
 exact nxt (8 - (i + 1)) (by omega) ⟨i + 1, rfl, by omega, u, u127, (lu), (lv ++ ([(i : Int) + 1])), (at112), (sd113), g0L71, g2L71, g3L71, (congrArg (Value.int .i64) (by first | omega | rfl | (simp; done))), op1, oz, oq0, ou31, ou36, oq, ou, ou127, nu, ap1Xu, azXu, aq0Xu, au31Xu, au36Xu, aqXu, nu127, ap1Xu127, azXu127, aq0Xu127, au31Xu127, au36Xu127, aqXu127, auXu127, lE, (by first | exact lifK_mono hlu (by omega) | exact lifK_snoc hlu (by omega) (by omega) (by omega)), (by first | exact lifK_mono hlv (by omega) | exact lifK_snoc hlv (by omega) (by omega) (by omega)), (by first | (simp only [List.length_append, List.length_singleton]; omega) | omega), (by first | (simp only [List.length_append, List.length_singleton]; omega) | omega), ⟨by omega, by omega⟩⟩
 refine ob_i (vInt_add (by omega) (by omega)) ?_
 replace op1 := (op1.off off77 ap1Xz).off off115 ap1Xz
 replace oq0 := (oq0.off off77 azXq0.symm).off off115 azXq0.symm
 replace ou31 := (ou31.off off77 azXu31.symm).off off115 azXu31.symm
 replace ou36 := (ou36.off off77 azXu36.symm).off off115 azXu36.symm
 replace oq := (oq.off off77 azXq.symm).off off115 azXq.symm
 replace ou := (ou.off off77 azXu.symm).off off115 azXu.symm
 replace ov := (ov.off off77 azXv.symm).off off115 azXv.symm
 replace lE := off115.le lE nz
 exact nxt (8 - (i + 1)) (by omega) ⟨i + 1, rfl, by omega, u, v, (lu), (lv), (at112), (sd113), g0L71, g2L71, g3L71, (congrArg (Value.int .i64) (by first | omega | rfl | (simp; done))), op1, oz, oq0, ou31, ou36, oq, ou, ov, nu, ap1Xu, azXu, aq0Xu, au31Xu, au36Xu, aqXu, nv, ap1Xv, azXv, aq0Xv, au31Xv, au36Xv, aqXv, auXv, lE, (by first | exact lifK_mono hlu (by omega) | exact lifK_snoc hlu (by omega) (by omega) (by omega)), (by first | exact lifK_mono hlv (by omega) | exact lifK_snoc hlv (by omega) (by omega) (by omega)), (by first | (simp only [List.length_append, List.length_singleton]; omega) | omega), (by first | (simp only [List.length_append, List.length_singleton]; omega) | omega), ⟨by omega, by omega⟩⟩
 have ti := hg72
 exact hJ46 _ _ ⟨u, v, _, _, g2L71, g3L71, op1, oq0, oq, ou, ov, nu, ap1Xu, aq0Xu, aqXu, nv, ap1Xv, aq0Xv, aqXv, auXv, lE, (by first | exact ⟨hlu.1, hlv.1⟩ | decide), (by first | decide | omega), (by first | decide | omega)⟩
 replace op1 := ((op1.le le43).off off45 ap1Xq).off off55 ap1Xz
 replace oq0 := ((oq0.le le43).off off45 aq0Xq).off off55 azXq0.symm
 replace ou31 := (ou31.off off45 au31Xq).off off55 azXu31.symm
 replace ou36 := (ou36.off off45 au36Xq).off off55 azXu36.symm
 replace oq := oq.off off55 azXq.symm
 replace lE := off55.le lE nz
 exact hJ46 _ _ ⟨u31, u36, _, _, rfl, rfl, op1, oq0, oq, ou31, ou36, nu31, ap1Xu31, aq0Xu31, au31Xq.symm, nu36, ap1Xu36, aq0Xu36, au36Xq.symm, au31Xu36, lE, (by first | exact ⟨hlu.1, hlv.1⟩ | decide), (by first | decide | omega), (by first | decide | omega)⟩

theorem C.c126  {H : Hp} {K : Value → Hp → Prop} (hvy0 : Sl eU H vy l) (hb_vy : bytP l) (hl_vy : l.length ≤ 9223372036854775807) (hs : sidesF r c)
    (hk : ∀ (lf : List Int), (fieldN 1 r c lf) → ∀ u1 H', Own eI H' u1 lf → Nw H u1 → Le H H' → K (.agg #[(.int .i64 (r)), (.int .i64 (c)), u1]) H') : HT prg 15 [vy, (.int .i64 (r)), (.int .i64 (c))].toArray H K := by
 have lE := Le.refl H
 refine R.q15 ?_
 unfold F.q15
 have qm := sidesF_mul hs
 have q1 := hs.1
 have q2 := hs.2
 refine nw_i (fun p1 H2 op1 nn3 le4 => ?_)
 have np1 := nn3.le lE
 replace op1 : Cel H2 p1 [(.int .i64 (0)), (.int .i64 (0)), (.slice none 0 0)] := op1
 replace lE := lE.trans le4
 refine C.c120 (hvy0.le lE) (fun z H5 oz nn6 le7 => ?_)
 have ap1Xz := op1.apart nn6
 have nz := nn6.le lE
 replace oz : Cel H5 z [vy, (.int .i64 (0)), (.int .u64 (0))] := oz
 refine R.q43 ?_
 unfold F.q43
 refine nw_i (fun p8 H9 op8 nn10 le11 => ?_)
 replace op1 := op1.le le7
 have ap1Xp8 := op1.apart nn10
 have azXp8 := oz.apart nn10
 replace lE := lE.trans le7
 have np8 := nn10.le lE
 replace op8 : Cel H9 p8 [(.int .i64 (0)), (.int .i64 (0)), (.slice none 0 0)] := op8
 refine R.qx95 ?_
 unfold F.qx95
 refine nw_i (fun q0 H12 oq0 nn13 le14 => ?_)
 replace op1 := op1.le le11
 have ap1Xq0 := op1.apart nn13
 replace oz := oz.le le11
 have azXq0 := oz.apart nn13
 have ap8Xq0 := op8.apart nn13
 replace lE := lE.trans le11
 have nq0 := nn13.le lE
 replace oq0 : Cel H12 q0 [(.int .i64 (0)), (.int .i64 (0)), (.slice none 0 0)] := oq0
 refine ob_i (a := (.agg #[(.int .i64 (r)), (.int .i64 (c)), (.slice none 0 0)])) (by rfl) ?_
 refine nw_i (fun q H15 oq nn16 le17 => ?_)
 replace op1 := op1.le le14
 have ap1Xq := op1.apart nn16
 replace oz := oz.le le14
 have azXq := oz.apart nn16
 replace op8 := op8.le le14
 have ap8Xq := op8.apart nn16
 have aq0Xq := oq0.apart nn16
 replace lE := lE.trans le14
 have nq := nn16.le lE
 refine oq.stn (ws := [(.int .i64 (r)), (.int .i64 (c)), (.slice none 0 0)]) rfl rfl (oc1 rfl (oc1 rfl (oc1 rfl oc0))) (fun H18 oq off19 => ?_)
 refine jn_i (fun σ' H' => ∃ u, ∃ lu, σ' 8 = q0 ∧ σ' 9 = q ∧ Cel H' p1 [(.int .i64 (0)), (.int .i64 (0)), (.slice none 0 0)] ∧ Cel H' p8 [(.int .i64 (0)), (.int .i64 (0)), (.slice none 0 0)] ∧ Cel H' q0 [(.int .i64 (0)), (.int .i64 (0)), (.slice none 0 0)] ∧ Cel H' q [(.int .i64 (r)), (.int .i64 (c)), u] ∧ Own eI H' u (lu) ∧ Nw H u ∧ Apart p1 u ∧ Apart p8 u ∧ Apart q0 u ∧ Apart q u ∧ Le H H' ∧ (lu.length : Int) = r * c ∧ (∀ x ∈ lu, 0 ≤ x ∧ x ≤ 1)) (fun σ20 H20 hP => ?_) (fun J20 hJ20 => ?_)
 replace op1 := (op1.le le17).off off19 ap1Xq
 replace op8 := (op8.le le17).off off19 ap8Xq
 replace oq0 := (oq0.le le17).off off19 aq0Xq
 replace lE := off19.le (lE.trans le17) nq
 obtain ⟨u, lu, g8L20, g9L20, op1, op8, oq0, oq, ou, nu, ap1Xu, ap8Xu, aq0Xu, aqXu, lE, hln, hLa⟩ := hP
 try simp only [g8L20, g9L20]
 refine ob_i (oq.ldn rfl) (oq0.stn (ws := [(.int .i64 (r)), (.int .i64 (c)), u]) rfl rfl (oc1 rfl (oc1 rfl (oc1 ou.one oc0))) (fun H21 oq0 off22 => ?_))
 refine ob_i (oq0.ldn rfl) ?_
 replace op8 := op8.off off22 ap8Xq0
 replace ou := ou.off off22 aq0Xu.symm
 refine op8.stn (ws := [(.int .i64 (r)), (.int .i64 (c)), u]) rfl rfl (oc1 rfl (oc1 rfl (oc1 ou.one oc0))) (fun H23 op8 off24 => ?_)
 refine ob_i (op8.ldn rfl) ?_
 replace op1 := (op1.off off22 ap1Xq0).off off24 ap1Xp8
 replace ou := ou.off off24 ap8Xu.symm
 refine op1.stn (ws := [(.int .i64 (r)), (.int .i64 (c)), u]) rfl rfl (oc1 rfl (oc1 rfl (oc1 ou.one oc0))) (fun H25 op1 off26 => ?_)
 refine ob_i (op1.ldn rfl) ?_
 replace lE := off26.le (off24.le (off22.le lE nq0) np8) np1
 replace ou := ou.off off26 ap1Xu.symm
 exact hk  lu (by exact ⟨hs, hln, hLa⟩) u _ ou nu  lE
 refine ob_i (vInt_mul (by omega) (by omega)) ?_
 replace op1 := (op1.le le17).off off19 ap1Xq
 replace oz := (oz.le le17).off off19 azXq
 replace op8 := (op8.le le17).off off19 ap8Xq
 replace oq0 := (oq0.le le17).off off19 aq0Xq
 replace lE := off19.le (lE.trans le17) nq
 refine ⟨fun n' σ' H' => ∃ i : Nat, n' = (r * c).toNat - i ∧ i ≤ (r * c).toNat ∧ ∃ u, ∃ lu, ∃ ats, ∃ sd, σ' 0 = z ∧ σ' 3 = (.int .i64 (2)) ∧ σ' 8 = q0 ∧ σ' 9 = q ∧ σ' 10 = (.int .i64 (r * c - (i : Int))) ∧ Cel H' p1 [(.int .i64 (0)), (.int .i64 (0)), (.slice none 0 0)] ∧ Cel H' z [vy, (.int .i64 (ats)), (.int .u64 (sd))] ∧ Cel H' p8 [(.int .i64 (0)), (.int .i64 (0)), (.slice none 0 0)] ∧ Cel H' q0 [(.int .i64 (0)), (.int .i64 (0)), (.slice none 0 0)] ∧ Cel H' q [(.int .i64 (r)), (.int .i64 (c)), u] ∧ Own eI H' u (lu) ∧ Nw H u ∧ Apart p1 u ∧ Apart z u ∧ Apart p8 u ∧ Apart q0 u ∧ Apart q u ∧ Le H H' ∧ lu.length = i ∧ (∀ x ∈ lu, 0 ≤ x ∧ x ≤ 1) ∧ 0 ≤ ats ∧ ats ≤ 2 * (i : Int),
    ⟨_, 0, rfl, by omega, _, [], 0, 0, rfl, rfl, rfl, rfl, (congrArg (Value.int .i64) (by first | omega | rfl | (simp; done))), op1, oz, op8, oq0, oq, (Own.cast (by first | rfl | (simp; done)) (Own.nil_of none)), (fun b hb => by simp [bk] at hb), (fun b _ hb => by simp [bk] at hb), (fun b _ hb => by simp [bk] at hb), (fun b _ hb => by simp [bk] at hb), (fun b _ hb => by simp [bk] at hb), (fun b _ hb => by simp [bk] at hb), lE, rfl, (by simp), ⟨by omega, by omega⟩⟩, ?_⟩
 rintro n27 σ27 H27 ⟨i, rfl, hiN, u, lu, ats, sd, g0L27, g3L27, g8L27, g9L27, g10L27, op1, oz, op8, oq0, oq, ou, nu, ap1Xu, azXu, ap8Xu, aq0Xu, aqXu, lE, hln, hLa, hat⟩
 try simp only [g0L27, g3L27, g8L27, g9L27, g10L27]
 refine ob_i (vInt_gtr _ _ _) (cnd_d (fun hg28 => ?_) (fun hg28 => ?_))
 have ti := hg28
 refine ⟨?_, ?_⟩
 refine ob_i (oq.fa 2) (ob_i (oq.ld 2 rfl) (C.c122 hvy0 hb_vy hl_vy lE nz oz (by omega) (by omega) (fun x29 at30 sd31 H32 xp34 xq35 ap36 aq37 oz off33 => ?_)))
 replace xq35 := xq35 (by omega)
 replace oz : Cel H32 z [vy, (.int .i64 (at30)), (.int .u64 (sd31))] := oz
 refine bS_i (enc := eI) (l := [x29]) (by omega) rfl (by kernel_rfl) (fun u38 H39 ou38 nn40 le42 => ?_)
 replace ou := (ou.off off33 azXu.symm).le le42
 refine apd_any ou ou38.sl (fun _ => rfl) (by omega) (by first | omega | (simp only [List.length_cons, List.length_nil, List.length_append, List.length_replicate, List.length_map, List.length_range]; omega)) (fun u46 H43 ou46 off44 hb45 => ?_)
 replace op1 := (op1.off off33 ap1Xz).le le42
 have ap1Xu46 := Apart.ap2 op1.known ap1Xu hb45
 replace oz := oz.le le42
 have azXu46 := Apart.ap2 oz.known azXu hb45
 replace op8 := (op8.off off33 azXp8.symm).le le42
 have ap8Xu46 := Apart.ap2 op8.known ap8Xu hb45
 replace oq0 := (oq0.off off33 azXq0.symm).le le42
 have aq0Xu46 := Apart.ap2 oq0.known aq0Xu hb45
 replace oq := (oq.off off33 azXq.symm).le le42
 have aqXu46 := Apart.ap2 oq.known aqXu hb45
 replace lE := (off33.le lE nz).trans le42
 have nu46 : Nw H u46 := Nw.ap2 nu lE hb45
 replace oq := oq.off off44 aqXu
 refine ob_i (oq.fa 2) (oq.st (by simp) ou46.one ou46.cells (fun H47 oq off48 => ?_))
 replace oq : Cel H47 q [(.int .i64 (r)), (.int .i64 (c)), u46] := oq
 refine ob_i (vInt_sub (by omega) (by omega)) ?_
 replace op1 := (op1.off off44 ap1Xu).off off48 ap1Xq
 replace oz := (oz.off off44 azXu).off off48 azXq
 replace op8 := (op8.off off44 ap8Xu).off off48 ap8Xq
 replace oq0 := (oq0.off off44 aq0Xu).off off48 aq0Xq
 replace lE := off48.le (off44.le lE nu) nq
 replace ou46 := ou46.off off48 aqXu46.symm
 exact nxt ((r * c).toNat - (i + 1)) (by omega) ⟨i + 1, rfl, by omega, u46, (lu ++ ([x29])), (at30), (sd31), g0L27, g3L27, g8L27, g9L27, (congrArg (Value.int .i64) (by first | omega | rfl | (simp; done))), op1, oz, op8, oq0, oq, ou46, nu46, ap1Xu46, azXu46, ap8Xu46, aq0Xu46, aqXu46, lE, (by rw [List.length_append, hln]; rfl), (all_snoc hLa (by omega)), ⟨by omega, by omega⟩⟩
 refine ob_i (oq.fa 2) (C.c122 hvy0 hb_vy hl_vy lE nz oz (by omega) (by omega) (fun x49 at50 sd51 H52 xp54 xq55 ap56 aq57 oz off53 => ?_))
 replace xq55 := xq55 (by omega)
 replace oz : Cel H52 z [vy, (.int .i64 (at50)), (.int .u64 (sd51))] := oz
 replace oq := oq.off off53 azXq.symm
 refine ob_i (oq.ld 2 rfl) (bS_i (enc := eI) (l := [x49]) (by omega) rfl (by kernel_rfl) (fun u58 H59 ou58 nn60 le62 => ?_))
 replace ou := (ou.off off53 azXu.symm).le le62
 refine apd_any ou ou58.sl (fun _ => rfl) (by omega) (by first | omega | (simp only [List.length_cons, List.length_nil, List.length_append, List.length_replicate, List.length_map, List.length_range]; omega)) (fun u66 H63 ou66 off64 hb65 => ?_)
 replace op1 := (op1.off off53 ap1Xz).le le62
 have ap1Xu66 := Apart.ap2 op1.known ap1Xu hb65
 replace oz := oz.le le62
 have azXu66 := Apart.ap2 oz.known azXu hb65
 replace op8 := (op8.off off53 azXp8.symm).le le62
 have ap8Xu66 := Apart.ap2 op8.known ap8Xu hb65
 replace oq0 := (oq0.off off53 azXq0.symm).le le62
 have aq0Xu66 := Apart.ap2 oq0.known aq0Xu hb65
 replace oq := oq.le le62
 have aqXu66 := Apart.ap2 oq.known aqXu hb65
 replace lE := (off53.le lE nz).trans le62
 have nu66 : Nw H u66 := Nw.ap2 nu lE hb65
 replace oq := oq.off off64 aqXu
 refine ob_i (oq.fa 2) (oq.st (by simp) ou66.one ou66.cells (fun H67 oq off68 => ?_))
 replace oq : Cel H67 q [(.int .i64 (r)), (.int .i64 (c)), u66] := oq
 refine ob_i (vInt_sub (by omega) (by omega)) ?_
 replace op1 := (op1.off off64 ap1Xu).off off68 ap1Xq
 replace oz := (oz.off off64 azXu).off off68 azXq
 replace op8 := (op8.off off64 ap8Xu).off off68 ap8Xq
 replace oq0 := (oq0.off off64 aq0Xu).off off68 aq0Xq
 replace lE := off68.le (off64.le lE nu) nq
 replace ou66 := ou66.off off68 aqXu66.symm
 exact nxt ((r * c).toNat - (i + 1)) (by omega) ⟨i + 1, rfl, by omega, u66, (lu ++ ([x49])), (at50), (sd51), g0L27, g3L27, g8L27, g9L27, (congrArg (Value.int .i64) (by first | omega | rfl | (simp; done))), op1, oz, op8, oq0, oq, ou66, nu66, ap1Xu66, azXu66, ap8Xu66, aq0Xu66, aqXu66, lE, (by rw [List.length_append, hln]; rfl), (all_snoc hLa (by omega)), ⟨by omega, by omega⟩⟩
 have ti := hg28
 exact hJ20 _ _ ⟨u, _, g8L27, g9L27, op1, op8, oq0, oq, ou, nu, ap1Xu, ap8Xu, aq0Xu, aqXu, lE, (by omega), hLa⟩

theorem C.c127  {H : Hp} {K : Value → Hp → Prop} (hva0 : Sl eI H va l) (hvb0 : Sl eI H vb m) (k1 : l.length ≤ 9223372036854775807)
    (hk : ∀ H', Le H H' → K (.bool (decide (l = m))) H') : HT prg 14 [va, vb].toArray H K := by
 have lE := Le.refl H
 refine R.q14 ?_
 unfold F.q14
 refine ob_i ((hva0.le lE).len) (ob_i ((hvb0.le lE).len) (ob_i (vInt_neq _ _ _) (cnd_d (fun hg1 => ?_) (fun hg1 => ?_))))
 exact keq (K := K) (by rw [decide_eq_false (show ¬ (l = m) from by intro h; subst h; omega)]; try rfl) (hk   _    lE)
 refine jn_i (fun σ' H' => Le H H' ∧ (∀ j : Nat, j < l.length → at_ 0 l (j : Int) = at_ 0 m (j : Int))) (fun σ2 H2 hP => ?_) (fun J2 hJ2 => ?_)
 obtain ⟨lE, ho0⟩ := hP
 exact keq (K := K) (by rw [decide_eq_true (show (l = m) from by exact ints_eq (by omega) ho0)]; try rfl) (hk   _    lE)
 refine ob_i ((hva0.le lE).len) ?_
 refine ⟨fun n' σ' H' => ∃ i : Nat, n' = l.length - i ∧ i ≤ l.length ∧ σ' 0 = va ∧ σ' 1 = vb ∧ σ' 12 = (.int .i64 (((l).length : Int))) ∧ σ' 13 = (.int .i64 ((i : Int))) ∧ Le H H' ∧ (∀ j : Nat, j < i → at_ 0 l (j : Int) = at_ 0 m (j : Int)),
    ⟨_, 0, rfl, by omega, rfl, rfl, rfl, (congrArg (Value.int .i64) (by first | omega | rfl | (simp; done))), lE, (fun j hj => by omega)⟩, ?_⟩
 rintro n3 σ3 H3 ⟨i, rfl, hiN, g0L3, g1L3, g12L3, g13L3, lE, hm0⟩
 try simp only [g0L3, g1L3, g12L3, g13L3]
 refine ob_i (vInt_lss _ _ _) (cnd_d (fun hg4 => ?_) (fun hg4 => ?_))
 have ti := hg4
 refine ob_i ((hva0.le lE).ix (by omega) (by omega)) (ob_i ((hva0.le lE).ld 0 (by omega) (by omega)) (ob_i ((hvb0.le lE).ix (by omega) (by omega)) (ob_i ((hvb0.le lE).ld 0 (by omega) (by omega)) (ob_i (vInt_neq _ _ _) (cnd_d (fun hg5 => ?_) (fun hg5 => ?_))))))
 refine retK (K := K) (v' := (.bool false)) rfl ?_
 exact keq (K := K) (by rw [decide_eq_false (show ¬ (l = m) from by intro h; subst h; omega)]; try rfl) (hk   _    lE)
 refine ob_i (vInt_add (by omega) (by omega)) ?_
 exact nxt (l.length - (i + 1)) (by omega) ⟨i + 1, rfl, by omega, g0L3, g1L3, g12L3, (congrArg (Value.int .i64) (by first | omega | rfl | (simp; done))), lE, (ints_snoc hm0 (Decidable.not_not.mp hg5))⟩
 have ti := hg4
 exact hJ2 _ _ ⟨lE, (by rw [show l.length = i by omega]; exact hm0)⟩

theorem C.c128  {H : Hp} {K : Value → Hp → Prop} (hvy0 : Sl eU H vy l) (hvm0 : Sl eU H vm m)
    (hk : ∀ H', Le H H' → K (.bool (decide (1048576 < l.length ∨ 1048576 < m.length))) H') : HT prg 5 [vy, vm].toArray H K := by
 have lE := Le.refl H
 refine R.q5 ?_
 unfold F.q5
 refine ob_i ((hvy0.le lE).len) (ob_i (vInt_gtr _ _ _) ?_)
 by_cases hc1 : 1048576 < (((l).length : Int))
 refine hT hc1 (hT hc1 (hT hc1 (ob_i (vPick_et (decide_eq_true hc1) _ _) ?_)))
 exact keq (K := K) (by rw [decide_eq_true (show (1048576 < l.length ∨ 1048576 < m.length) from by omega)]; try rfl) (hk   _    lE)
 refine gF hc1 (gF hc1 (ob_i ((hvm0.le lE).len) (gF hc1 (ob_i (vInt_gtr _ _ _) (ob_i (vPick_ef (decide_eq_false hc1) _ _) ?_)))))
 exact keq (K := K) (by rw [show decide (1048576 < (((m).length : Int))) = decide (1048576 < l.length ∨ 1048576 < m.length) from decide_eq_decide.mpr (by omega)]; try rfl) (hk   _    lE)

theorem C.c129 {v : Int}  {H : Hp} {K : Value → Hp → Prop} (hvc0 : Sl eI H vc l) (hf : fieldN 1 r c l)
    (hk : ∀ H', Le H H' → K (.tuple #[(.int .i64 (cntE v l)), (.bool true)]) H') : HT prg 13 [(.agg #[(.int .i64 (r)), (.int .i64 (c)), vc]), (.int .i64 (v))].toArray H K := by
 have lE := Le.refl H
 refine R.q13 ?_
 unfold F.q13
 have k1 := fieldN_len hf
 have h9 : fieldN 9 r c l := ⟨hf.1, hf.2.1, fun x hx => by have := hf.2.2 x hx; omega⟩
 refine nw_i (fun p1 H2 op1 nn3 le4 => ?_)
 replace op1 : Cel H2 p1 [(.int .i64 (r)), (.int .i64 (c)), vc] := op1
 replace lE := lE.trans le4
 refine C.c4 op1 (hvc0.le lE) (by first | omega | assumption) ?_
 refine ob_nd (fun hc5 => ?_) (fun hc5 => ?_)
 refine cnd_f1 (jn_i (fun σ' H' => σ' 6 = (.int .i64 (cntE v l)) ∧ Cel H' p1 [(.int .i64 (r)), (.int .i64 (c)), vc] ∧ Le H H') (fun σ6 H6 hP => ?_) (fun J6 hJ6 => ?_))
 obtain ⟨g6L6, op1, lE⟩ := hP
 try simp only [g6L6]
 exact hk   _    lE
 refine ⟨fun n' σ' H' => ∃ i : Nat, n' = l.length - i ∧ i ≤ l.length ∧ σ' 1 = (.int .i64 (v)) ∧ σ' 2 = p1 ∧ σ' 6 = (.int .i64 (cntE v (l.take i))) ∧ σ' 7 = (.int .i64 ((i : Int))) ∧ Cel H' p1 [(.int .i64 (r)), (.int .i64 (c)), vc] ∧ Le H H',
    ⟨_, 0, rfl, by omega, rfl, rfl, (congrArg (Value.int .i64) (by first | omega | rfl | (simp; done))), (congrArg (Value.int .i64) (by first | omega | rfl | (simp; done))), op1, lE⟩, ?_⟩
 rintro n7 σ7 H7 ⟨i, rfl, hiN, g1L7, g2L7, g6L7, g7L7, op1, lE⟩
 try simp only [g1L7, g2L7, g6L7, g7L7]
 have bb := cntE_bnd v (l.take i)
 have bl : ((l.take i).length : Int) ≤ 1000 := by simp; omega
 refine ob_i (op1.fa 2) (ob_i (op1.ld 2 rfl) (ob_i ((hvc0.le lE).len) (ob_i (vInt_lss _ _ _) (cnd_d (fun hg8 => ?_) (fun hg8 => ?_)))))
 have ti := hg8
 refine ob_i (op1.fa 2) (ob_i (op1.ld 2 rfl) (ob_i ((hvc0.le lE).ix (by omega) (by omega)) (ob_i ((hvc0.le lE).ld 0 (by omega) (by omega)) (ob_i (vInt_eql _ _ _) (cnd_d (fun hg9 => ?_) (fun hg9 => ?_))))))
 refine ob_i (vInt_add (by omega) (by omega)) (ob_i (vInt_add (by omega) (by omega)) ?_)
 have eS := cntE_take (v := v) (l := l) (i := i) (by omega)
 rw [if_pos hg9] at eS
 exact nxt (l.length - (i + 1)) (by omega) ⟨i + 1, rfl, by omega, g1L7, g2L7, (congrArg (Value.int .i64) (by first | omega | rfl | (simp; done))), (congrArg (Value.int .i64) (by first | omega | rfl | (simp; done))), op1, lE⟩
 refine ob_i (vInt_add (by omega) (by omega)) ?_
 have eS := cntE_take (v := v) (l := l) (i := i) (by omega)
 rw [if_neg hg9] at eS
 exact nxt (l.length - (i + 1)) (by omega) ⟨i + 1, rfl, by omega, g1L7, g2L7, (g6L7.trans (congrArg (Value.int .i64) (by first | omega | rfl | (simp; done)))), (congrArg (Value.int .i64) (by first | omega | rfl | (simp; done))), op1, lE⟩
 have ti := hg8
 rw [List.take_of_length_le (by omega)] at *
 exact hJ6 _ _ ⟨(g6L7.trans (congrArg (Value.int .i64) (by first | omega | rfl | (simp; done)))), op1, lE⟩
 exact absurd hc5 (fun h => h h9)

theorem C.c130  {H : Hp} {K : Value → Hp → Prop} (hvb0 : Sl eI H vb b) (hvs0 : Sl eI H vs s) (hvc0 : Sl eI H vc l) (kb : b.length ≤ 9223372036854775807) (ks : s.length ≤ 9223372036854775807) (k1 : l.length ≤ 9223372036854775807) (hP : runP b s r c l st)
    (hk : ∀ u1 H', Own eI H' u1 (rnL rnd b s r c l st.toNat) → Nw H u1 → Le H H' → K (.tuple #[(.agg #[(.int .i64 (r)), (.int .i64 (c)), u1]), (.bool true)]) H') : HT prg 12 [(.agg #[vb, vs]), (.agg #[(.int .i64 (r)), (.int .i64 (c)), vc]), (.bool (rnd)), (.int .i64 (st))].toArray H K :=
  C.c57 hvb0 hvs0 hvc0 kb ks k1 (fun u1 H' ou1 nu1  le => by rw [selL_t hP] at ou1; simp only [selI_t hP, decide_eq_true hP]; exact hk u1 H' ou1 nu1  le)
theorem C.c131  {H : Hp} {K : Value → Hp → Prop} (hvb0 : Sl eI H vb b) (hvs0 : Sl eI H vs s) (hvc0 : Sl eI H vc l) (kb : b.length ≤ 9223372036854775807) (ks : s.length ≤ 9223372036854775807) (k1 : l.length ≤ 9223372036854775807) (hP : runP b s r c l st)
    (hk : ∀ u1 H', Own eI H' u1 (caL rnd b s r c l st.toNat) → Nw H u1 → Le H H' → K (.tuple #[u1, (.bool true)]) H') : HT prg 16 [(.agg #[vb, vs]), (.agg #[(.int .i64 (r)), (.int .i64 (c)), vc]), (.bool (rnd)), (.int .i64 (st))].toArray H K :=
  C.c59 hvb0 hvs0 hvc0 kb ks k1 (fun u1 H' ou1 nu1  le => by rw [selL_t hP] at ou1; simp only [selI_t hP, decide_eq_true hP]; exact hk u1 H' ou1 nu1  le)
theorem C.c132 (hvb0 : Sl eI H vb [3]) (hvs0 : Sl eI H vs [2, 3]) (hvc0 : Sl eI H vc glL) (hk : ∀ H', Le H H' → K (.tuple #[.int .i64 4, .int .i64 1, .int .i64 1, .bool true]) H') : HT prg 19 [.agg #[vb, vs], .agg #[.int .i64 3, .int .i64 3, vc], .int .i64 8].toArray H K := by
  obtain ⟨g0, g1, g2, g3⟩ := gl_ship
  refine C.c75 hvb0 hvs0 hvc0 (by decide) (by decide) (by decide) (fun H' le => ?_)
  simp only [selI_t g0, decide_eq_true g0, g1, g2, g3]
  exact hk H' le
theorem gl_field : fieldN 1 3 3 glL := by decide
theorem C.c133 (hva0 : Sl eI H va la) (hvb20 : Sl eI H vb2 lb) (k1 : la.length ≤ 9223372036854775807) (k2 : lb.length ≤ 9223372036854775807) (hP : metOk ra ca la rb cb lb row col)
    (hk : ∀ u1 H', Own eI H' u1 (metL0 ra ca la rb cb lb row col) → Nw H u1 → Le H H' → K (.tuple #[.agg #[.int .i64 (max ra (row + rb)), .int .i64 (max ca (col + cb)), u1], .bool true]) H') : HT prg 20 [.agg #[.int .i64 ra, .int .i64 ca, va], .agg #[.int .i64 rb, .int .i64 cb, vb2], .int .i64 row, .int .i64 col].toArray H K :=
  C.c72 hva0 hvb20 k1 k2 (fun u H' o n le => by simp only [metL, metI, if_pos hP, decide_eq_true hP] at o ⊢; exact hk u H' o n le)
theorem C.c134  {H : Hp} {K : Value → Hp → Prop} (hvb0 : Sl eI H vb b) (hvs0 : Sl eI H vs s) (hva0 : Sl eI H va la) (hvb20 : Sl eI H vb2 lb) (kb : b.length ≤ 9223372036854775807) (ks : s.length ≤ 9223372036854775807) (k1 : la.length ≤ 9223372036854775807) (k2 : lb.length ≤ 9223372036854775807) (hP : crP b s la lb ra ca rb cb row col st)
    (hk : ∀ u1 u2 H', Own vS H' u1 (cenN (crN b s la lb ra ca rb cb row col st)) → Own eI H' u2 (cenC (crN b s la lb ra ca rb cb row col st)) → Nw H u1 → Nw H u2 → Apart u1 u2 → Le H H' → K (.tuple #[u1, u2, (.bool true)]) H') : HT prg 21 [(.agg #[vb, vs]), (.agg #[(.int .i64 (ra)), (.int .i64 (ca)), va]), (.agg #[(.int .i64 (rb)), (.int .i64 (cb)), vb2]), (.int .i64 (row)), (.int .i64 (col)), (.int .i64 (st))].toArray H K :=
  C.c118 hvb0 hvs0 hva0 hvb20 kb ks k1 k2 (fun u1 u2 H' ou1 ou2 nu1 nu2 au1u2 le => by rw [selL_t hP] at ou1 ou2; simp only [selI_t hP, decide_eq_true hP]; exact hk u1 u2 H' ou1 ou2 nu1 nu2 au1u2 le)
theorem C.c135  {H : Hp} {K : Value → Hp → Prop} (hvb0 : Sl eI H vb b) (hvs0 : Sl eI H vs s) (hva0 : Sl eI H va la) (hvb20 : Sl eI H vb2 lb) (kb : b.length ≤ 9223372036854775807) (ks : s.length ≤ 9223372036854775807) (k1 : la.length ≤ 9223372036854775807) (k2 : lb.length ≤ 9223372036854775807) (hP : crP b s la lb ra ca rb cb row col st)
    (hk : ∀ u1 u2 H', Own vS H' u1 (cenN (crN b s la lb ra ca rb cb row col st)) → Own eI H' u2 (cenC (crN b s la lb ra ca rb cb row col st)) → Nw H u1 → Nw H u2 → Apart u1 u2 → Le H H' → K (.tuple #[u1, u2, (.bool true)]) H') : HT prg 22 [(.agg #[vb, vs]), (.agg #[(.int .i64 (ra)), (.int .i64 (ca)), va]), (.agg #[(.int .i64 (rb)), (.int .i64 (cb)), vb2]), (.int .i64 (row)), (.int .i64 (col)), (.int .i64 (st))].toArray H K :=
  C.c119 hvb0 hvs0 hva0 hvb20 kb ks k1 k2 (fun u1 u2 H' ou1 ou2 nu1 nu2 au1u2 le => by rw [selL_t hP] at ou1 ou2; simp only [selI_t hP, decide_eq_true hP]; exact hk u1 u2 H' ou1 ou2 nu1 nu2 au1u2 le)
theorem flat_yes (h0 : 0 ≤ i) (h1 : i < r) (h2 : 0 ≤ k) (h3 : k < c) : at_ 0 l (i * c + k) = flatF r c l i k := by
  unfold flatF; rw [if_pos (by omega)]
theorem flat_no (h : ¬ (i < r ∧ k < c)) : 0 = flatF r c l i k := by
  unfold flatF; rw [if_neg (by omega)]
theorem met_yes (h0 : row ≤ i) (h1 : i < row + 3) (h2 : col ≤ k) (h3 : k < col + 3) : max (flatF r c l i k) (at_ 0 glL ((i - row) * 3 + k - col)) = metG r c l 3 3 glL row col i k := by
  unfold metG
  rw [show (i - row) * 3 + k - col = (i - row) * 3 + (k - col) by omega, flat_yes (r := 3) (c := 3) (l := glL) (i := i - row) (k := k - col) (by omega) (by omega) (by omega) (by omega)]
theorem met_no (hf : fieldN 1 r c l) (h : ¬ (row ≤ i ∧ i < row + 3 ∧ col ≤ k ∧ k < col + 3)) : flatF r c l i k = metG r c l 3 3 glL row col i k := by
  have := flatF_01 hf i k
  unfold metG
  rw [show flatF 3 3 glL (i - row) (k - col) = 0 by unfold flatF; rw [if_neg (by omega)]]
  omega
theorem met_look (i0 : 0 ≤ i) (i1 : i < max ra (row + rb)) (k0 : 0 ≤ k) (k1 : k < max ca (col + cb)) : at_ 0 (metL0 ra ca la rb cb lb row col) (i * max ca (col + cb) + k) = metG ra ca la rb cb lb row col i k := by
  have h := ix_lt (a := i) (b := k) (r := max ra (row + rb)) (c := max ca (col + cb)) i0 i1 k0 k1
  unfold metL0
  refine mkL_look i0 k0 k1 ?_
  rw [Int.natCast_mul, Int.toNat_of_nonneg (by omega), Int.toNat_of_nonneg (by omega)]
  exact h.2
theorem ca_at {n j : Nat} (h : j < n + 1) : at_ 0 (caL rnd b s r c l n) (j : Int) = cntE 1 (rnL rnd b s r c l (j : Int).toNat) := by
  rw [at_eq 0 _ (by rw [caL_len]; exact h)]
  simp [caL]
theorem fate_same {G : Nat → List Int} {a b : Nat} {y : Int} (hx : x = a) (hy : y = b) (h : G a = G b) : G x.toNat = G y.toNat := by
  subst hx hy
  simpa using h
set_option maxHeartbeats 8000000 in
theorem C.c136 {mm : List Int}  {H : Hp} {K : Value → Hp → Prop} (hvy0 : Sl eU H vy l) (hvm0 : Sl eU H vm mm) (hb_vy : bytP l) (hl_vy : l.length ≤ 9223372036854775807) (hb_vm : bytP mm) (hl_vm : mm.length ≤ 9223372036854775807)
    (hk : ∀ H', Le H H' → K (.bool true) H') : HT prg 4 [vy, vm].toArray H K := by
 have lE := Le.refl H
 refine R.q4 ?_
 unfold F.q4
 refine C.c128 (hvy0.le lE) (hvm0.le lE) (fun   H1    le2 => ?_)
 refine cnd_d (fun hg3 => ?_) (fun hg3 => ?_)
 replace lE := lE.trans le2
 exact hk   _    lE
 replace lE := lE.trans le2
 refine C.c125 (hvy0.le lE) (by first | omega | assumption) (by first | omega | assumption) (fun  lb lz hlb hlz u6 u7 H4 ou6 ou7 nn8 nn9 au6Xu7 le5 => ?_)
 refine nw_i (fun p10 H11 op10 nn12 le13 => ?_)
 have au6Xp10 := ou6.apart nn12
 have au7Xp10 := ou7.apart nn12
 replace lE := lE.trans le5
 have np10 := nn12.le lE
 replace ou6 := ou6.le le13
 replace ou7 := ou7.le le13
 refine op10.stn (ws := [u6, u7]) rfl rfl (oc1 ou6.one (oc1 ou7.one oc0)) (fun H14 op10 off15 => ?_)
 replace lE := off15.le (lE.trans le13) np10
 refine C.c124 (k := 0) (n := 6) (hvm0.le lE) hb_vm hl_vm (by omega) (by omega) (fun x16 xp17 xq18 => ?_)
 replace xq18 := xq18 (by omega)
 refine ob_i (vInt_add (by omega) (by omega)) ?_
 obtain ⟨r, hr⟩ : ∃ x : Int, x = 1 + x16 := ⟨_, rfl⟩
 rw [← hr]
 refine C.c124 (k := 1) (n := 6) (hvm0.le lE) hb_vm hl_vm (by omega) (by omega) (fun x19 xp20 xq21 => ?_)
 replace xq21 := xq21 (by omega)
 refine ob_i (vInt_add (by omega) (by omega)) ?_
 obtain ⟨c, hc⟩ : ∃ x : Int, x = 1 + x19 := ⟨_, rfl⟩
 rw [← hc]
 refine C.c126 (hvm0.le lE) (by first | omega | assumption) (by first | omega | assumption) (by exact ⟨⟨by omega, by omega⟩, by omega, by omega⟩) (fun  lf hlf u24 H22 ou24 nn25  le23 => ?_)
 have l1 := fieldN_len hlf
 have hs := hlf.1
 have hl := hlf.2.1
 have q1 := hs.1
 have q2 := hs.2
 have qm := sidesF_mul hs
 have hcan : canP lb lz r c lf := ⟨hlz.1, hlf⟩
 have hrf0 := fun rnd j => rnL_field (rnd := rnd) (b := lb) (s := lz) hlf j
 have hrl0 := fun rnd j => fieldN_len (hrf0 rnd j)
 refine nw_i (fun p26 H27 op26 nn28 le29 => ?_)
 replace ou6 := (ou6.off off15 au6Xp10).le le23
 have au6Xp26 := ou6.apart nn28
 replace ou7 := (ou7.off off15 au7Xp10).le le23
 have au7Xp26 := ou7.apart nn28
 replace op10 := op10.le le23
 have ap10Xp26 := op10.apart nn28
 have au24Xp26 := ou24.apart nn28
 replace lE := lE.trans le23
 have np26 := nn28.le lE
 replace ou24 := ou24.le le29
 refine op26.stn (ws := [(.int .i64 (r)), (.int .i64 (c)), u24]) rfl rfl (oc1 rfl (oc1 rfl (oc1 ou24.one oc0))) (fun H30 op26 off31 => ?_)
 replace lE := off31.le (lE.trans le29) np26
 refine C.c124 (k := 2) (n := 2) (hvm0.le lE) hb_vm hl_vm (by omega) (by omega) (fun x32 xp33 xq34 => ?_)
 replace xq34 := xq34 (by omega)
 refine ob_i (vInt_eql _ _ _) (C.c124 (k := 3) (n := 8) (hvm0.le lE) hb_vm hl_vm (by omega) (by omega) (fun x35 xp36 xq37 => ?_))
 replace xq37 := xq37 (by omega)
 obtain ⟨st, hst⟩ : ∃ x : Int, x = x35 := ⟨_, rfl⟩
 rw [← hst]
 replace op10 := (op10.le le29).off off31 ap10Xp26
 refine ob_i (op10.ldn rfl) (ob_i (op26.ldn rfl) ?_)
 replace ou6 := (ou6.le le29).off off31 au6Xp26
 replace ou7 := (ou7.le le29).off off31 au7Xp26
 replace ou24 := ou24.off off31 au24Xp26
 refine C.c131 ou6.sl ou7.sl ou24.sl (by first | omega | assumption) (by first | omega | assumption) (by first | omega | assumption) (by exact ⟨hcan, by omega, by omega⟩) (fun  u40 H38 ou40 nn41  le39 => ?_)
 have hca := caL_len (decide (x32 = 0)) lb lz r c lf st.toNat
 refine ob_i (vExt_20 _ _) (ob_i (vExt_21 _ _) (ob_i (a := .bool false) rfl ?_))
 refine gop_rf (gop_rf (ob_i (ou40.len) (gop_rf (gop_rf (ob_i (vInt_add (by omega) (by omega)) (gop_rf (ob_i (vInt_neq _ _ _) (ob_i (vPick_f _ _) (cnd_d (fun hg42 => ?_) (fun hg42 => ?_))))))))))
 exfalso
 first | exact absurd rfl hg42 | omega | exact hg42 (ca_at (by omega)) | exact hg42 (fate_same (by omega) (by omega) hft.2.2) | exact hg42 (met_look (by omega) (by omega) (by omega) (by omega))
 refine jn_i (fun σ' H' => σ' 1 = vm ∧ σ' 5 = p10 ∧ σ' 6 = (.int .i64 (r)) ∧ σ' 7 = (.int .i64 (c)) ∧ σ' 8 = p26 ∧ Own eI H' u6 (lb) ∧ Own eI H' u7 (lz) ∧ Cel H' p10 [u6, u7] ∧ Own eI H' u24 (lf) ∧ Cel H' p26 [(.int .i64 (r)), (.int .i64 (c)), u24] ∧ Le H H') (fun σ43 H43 hP => ?_) (fun J43 hJ43 => ?_)
 replace ou6 := ou6.le le39
 replace ou7 := ou7.le le39
 replace op10 := op10.le le39
 replace ou24 := ou24.le le39
 replace op26 := op26.le le39
 replace lE := lE.trans le39
 obtain ⟨g1L43, g5L43, g6L43, g7L43, g8L43, ou6, ou7, op10, ou24, op26, lE⟩ := hP
 try simp only [g1L43, g5L43, g6L43, g7L43, g8L43]
 refine ob_i (op10.ldn rfl) (ob_i (op26.ldn rfl) (C.c67 ou6.sl ou7.sl ou24.sl (by first | omega | assumption) (by first | omega | assumption) (by first | omega | assumption) (fun   H44    le45 => ?_)))
 refine ob_i (vExt_30 _ _ _) (ob_i (vExt_31 _ _ _) (ob_i (vExt_32 _ _ _) ?_))
 replace op10 := op10.le le45
 refine ob_i (op10.ldn rfl) ?_
 replace op26 := op26.le le45
 refine ob_i (op26.ldn rfl) ?_
 replace ou6 := ou6.le le45
 replace ou7 := ou7.le le45
 replace ou24 := ou24.le le45
 refine C.c68 ou6.sl ou7.sl ou24.sl (by first | omega | assumption) (by first | omega | assumption) (by first | omega | assumption) (fun   H46    le47 => ?_)
 refine ob_i (vExt_30 _ _ _) (ob_i (vExt_31 _ _ _) (ob_i (vExt_32 _ _ _) (ob_i (vBool_neq_same _) (cnd_f1 (jn_i (fun σ' H' => σ' 1 = vm ∧ σ' 5 = p10 ∧ σ' 6 = (.int .i64 (r)) ∧ σ' 7 = (.int .i64 (c)) ∧ σ' 8 = p26 ∧ Own eI H' u6 (lb) ∧ Own eI H' u7 (lz) ∧ Cel H' p10 [u6, u7] ∧ Own eI H' u24 (lf) ∧ Cel H' p26 [(.int .i64 (r)), (.int .i64 (c)), u24] ∧ Le H H') (fun σ48 H48 hP => ?_) (fun J48 hJ48 => ?_))))))
 replace lE := (lE.trans le45).trans le47
 replace ou6 := ou6.le le47
 replace ou7 := ou7.le le47
 replace op10 := op10.le le47
 replace ou24 := ou24.le le47
 replace op26 := op26.le le47
 obtain ⟨g1L48, g5L48, g6L48, g7L48, g8L48, ou6, ou7, op10, ou24, op26, lE⟩ := hP
 try simp only [g1L48, g5L48, g6L48, g7L48, g8L48]
 refine bS_i (enc := eI) (l := [(3 : Int)]) (by omega) rfl (by kernel_rfl) (fun u49 H50 ou49 nn51 le53 => ?_)
 refine bS_i (enc := eI) (l := [(2 : Int), (3 : Int)]) (by omega) rfl (by kernel_rfl) (fun u54 H55 ou54 nn56 le58 => ?_)
 replace ou49 := ou49.le le58
 refine ob_i (a := (.agg #[u49, u54])) (by obtain ⟨_, _, _, rfl⟩ := ou49.isSl; obtain ⟨_, _, _, rfl⟩ := ou54.isSl; rfl) ?_
 refine nw_i (fun p59 H60 op59 nn61 le62 => ?_)
 replace ou6 := (ou6.le le53).le le58
 have au6Xp59 := ou6.apart nn61
 replace ou7 := (ou7.le le53).le le58
 have au7Xp59 := ou7.apart nn61
 replace op10 := (op10.le le53).le le58
 have ap10Xp59 := op10.apart nn61
 replace ou24 := (ou24.le le53).le le58
 have au24Xp59 := ou24.apart nn61
 replace op26 := (op26.le le53).le le58
 have ap26Xp59 := op26.apart nn61
 have au49Xp59 := ou49.apart nn61
 have au54Xp59 := ou54.apart nn61
 replace lE := (lE.trans le53).trans le58
 have np59 := nn61.le lE
 replace ou49 := ou49.le le62
 replace ou54 := ou54.le le62
 refine op59.stn (ws := [u49, u54]) rfl rfl (oc1 ou49.one (oc1 ou54.one oc0)) (fun H63 op59 off64 => ?_)
 refine bS_i (enc := eI) (l := [(0 : Int), (1 : Int), (0 : Int), (0 : Int), (0 : Int), (1 : Int), (1 : Int), (1 : Int), (1 : Int)]) (by omega) rfl (by kernel_rfl) (fun u65 H66 ou65 nn67 le69 => ?_)
 refine ob_i (a := (.agg #[(.int .i64 (3)), (.int .i64 (3)), u65])) (by obtain ⟨_, _, _, rfl⟩ := ou65.isSl; rfl) ?_
 refine nw_i (fun p70 H71 op70 nn72 le73 => ?_)
 replace ou6 := ((ou6.le le62).off off64 au6Xp59).le le69
 have au6Xp70 := ou6.apart nn72
 replace ou7 := ((ou7.le le62).off off64 au7Xp59).le le69
 have au7Xp70 := ou7.apart nn72
 replace op10 := ((op10.le le62).off off64 ap10Xp59).le le69
 have ap10Xp70 := op10.apart nn72
 replace ou24 := ((ou24.le le62).off off64 au24Xp59).le le69
 have au24Xp70 := ou24.apart nn72
 replace op26 := ((op26.le le62).off off64 ap26Xp59).le le69
 have ap26Xp70 := op26.apart nn72
 replace ou49 := (ou49.off off64 au49Xp59).le le69
 have au49Xp70 := ou49.apart nn72
 replace ou54 := (ou54.off off64 au54Xp59).le le69
 have au54Xp70 := ou54.apart nn72
 replace op59 := op59.le le69
 have ap59Xp70 := op59.apart nn72
 have au65Xp70 := ou65.apart nn72
 replace lE := (off64.le (lE.trans le62) np59).trans le69
 have np70 := nn72.le lE
 replace ou65 := ou65.le le73
 refine op70.stn (ws := [(.int .i64 (3)), (.int .i64 (3)), u65]) rfl rfl (oc1 rfl (oc1 rfl (oc1 ou65.one oc0))) (fun H74 op70 off75 => ?_)
 replace op59 := (op59.le le73).off off75 ap59Xp70
 refine ob_i (op59.ldn rfl) (ob_i (op70.ldn rfl) ?_)
 replace ou65 := ou65.off off75 au65Xp70
 replace ou65 : Own eI H74 u65 glL := ou65
 have hgl : glL.length = 9 := rfl
 replace ou49 := (ou49.le le73).off off75 au49Xp70
 replace ou54 := (ou54.le le73).off off75 au54Xp70
 refine C.c132 ou49.sl ou54.sl ou65.sl (fun H76 le77 => ?_)
 refine ob_i (vExt_40 _ _ _ _) (ob_i (vExt_41 _ _ _ _) (ob_i (vExt_42 _ _ _ _) (ob_i (vExt_43 _ _ _ _) (ob_i (a := .bool false) rfl ?_))))
 refine gop_rf (gop_rf (ob_i (a := .bool false) (by kernel_rfl) ?_))
 refine ob_i (vPick_f _ _) (gop_rf (gop_rf (ob_i (a := .bool false) (by kernel_rfl) ?_)))
 refine ob_i (vPick_f _ _) (gop_rf (gop_rf (ob_i (a := .bool false) (by kernel_rfl) ?_)))
 refine ob_i (vPick_f _ _) (cnd_f1 ?_)
 replace lE := (off75.le (lE.trans le73) np70).trans le77
 refine C.c124 (k := 4) (n := 5) (hvm0.le lE) hb_vm hl_vm (by omega) (by omega) (fun x78 xp79 xq80 => ?_)
 replace xq80 := xq80 (by omega)
 obtain ⟨row, hrow⟩ : ∃ x : Int, x = x78 := ⟨_, rfl⟩
 rw [← hrow]
 refine C.c124 (k := 5) (n := 5) (hvm0.le lE) hb_vm hl_vm (by omega) (by omega) (fun x81 xp82 xq83 => ?_)
 replace xq83 := xq83 (by omega)
 obtain ⟨col, hcol⟩ : ∃ x : Int, x = x81 := ⟨_, rfl⟩
 rw [← hcol]
 replace op26 := ((op26.le le73).off off75 ap26Xp70).le le77
 refine ob_i (op26.ldn rfl) ?_
 replace op70 := op70.le le77
 refine ob_i (op70.ldn rfl) ?_
 have hmk : metOk r c lf 3 3 glL row col := ⟨hlf, gl_field, ⟨by omega, by omega⟩, ⟨by omega, by omega⟩, ⟨by omega, by omega⟩, by omega, by omega⟩
 have hmf : fieldN 1 (max r (row + 3)) (max c (col + 3)) (metL0 r c lf 3 3 glL row col) := metL0_field hmk
 have lmf := fieldN_len hmf
 have hml := hmf.2.1
 have hgo : groOk (max r (row + 3)) (max c (col + 3)) (metL0 r c lf 3 3 glL row col) 3 := ⟨hmf, by omega, by omega, by omega⟩
 have hgf := groW_field hgo
 have hrf := rnL_field (rnd := false) (b := lb) (s := lz) hgf (3 : Int).toNat
 have lrf := fieldN_len hrf
 have hcn : (cenN (crN lb lz lf glL r c 3 3 row col 3)).length ≤ 64 := cen_64 (r := ((max r (row + 3)) + 2 * 3)) (c := ((max c (col + 3)) + 2 * 3)) (l := (rnL false lb lz ((max r (row + 3)) + 2 * 3) ((max c (col + 3)) + 2 * 3) (groW (max r (row + 3)) (max c (col + 3)) (metL0 r c lf 3 3 glL row col) 3) (3 : Int).toNat)) (by omega) (by omega) (by omega) (by omega) hrf.2.1
 have hcl := (cen_of (crN lb lz lf glL r c 3 3 row col 3)).len
 have hPC : crP lb lz lf glL r c 3 3 row col 3 := ⟨hlz.1, hmk, hgo, by omega, hcn⟩
 replace ou24 := ((ou24.le le73).off off75 au24Xp70).le le77
 replace ou65 := ou65.le le77
 refine C.c133 ou24.sl ou65.sl (by first | omega | assumption) (by first | omega | decide) (by exact hmk) (fun  u86 H84 ou86 nn87  le85 => ?_)
 refine ob_i (vExt_20 _ _) (ob_i (vExt_21 _ _) (nw_i (fun p88 H89 op88 nn90 le91 => ?_)))
 replace ou6 := (((ou6.le le73).off off75 au6Xp70).le le77).le le85
 have au6Xp88 := ou6.apart nn90
 replace ou7 := (((ou7.le le73).off off75 au7Xp70).le le77).le le85
 have au7Xp88 := ou7.apart nn90
 replace op10 := (((op10.le le73).off off75 ap10Xp70).le le77).le le85
 have ap10Xp88 := op10.apart nn90
 replace ou24 := ou24.le le85
 have au24Xp88 := ou24.apart nn90
 replace op26 := op26.le le85
 have ap26Xp88 := op26.apart nn90
 replace ou65 := ou65.le le85
 have au65Xp88 := ou65.apart nn90
 replace op70 := op70.le le85
 have ap70Xp88 := op70.apart nn90
 have au86Xp88 := ou86.apart nn90
 replace lE := lE.trans le85
 have np88 := nn90.le lE
 replace ou86 := ou86.le le91
 refine op88.stn (ws := [(.int .i64 (max r (row + 3))), (.int .i64 (max c (col + 3))), u86]) rfl rfl (oc1 rfl (oc1 rfl (oc1 ou86.one oc0))) (fun H92 op88 off93 => ?_)
 refine ob_i (a := .bool false) rfl ?_
 refine gop_rf (ob_i (op88.fa 0) (gop_rf (ob_i (op88.ld 0 rfl) (gop_rf (gop_rf (ob_i (vInt_lss _ _ _) (ob_i (vPick_f _ _) ?_)))))))
 by_cases hc94 : (max r (row + 3)) < r
 refine hT hc94 (hT hc94 (hT hc94 (hT hc94 (ob_i (vPick_et (decide_eq_true hc94) _ _) (gop_st (gop_st (gop_st (gop_st (gop_st ?_)))))))))
 refine gop_st (gop_st (gop_st (gop_st (ob_i (vPick_t _ _) (cnd_t1 ?_)))))
 exfalso
 first | exact absurd rfl hc94 | omega | exact hc94 (ca_at (by omega)) | exact hc94 (fate_same (by omega) (by omega) hft.2.2) | exact hc94 (met_look (by omega) (by omega) (by omega) (by omega))
 refine gF hc94 (ob_i (op88.fa 1) (gF hc94 (ob_i (op88.ld 1 rfl) (gF hc94 (gF hc94 (ob_i (vInt_lss _ _ _) (ob_i (vPick_ef (decide_eq_false hc94) _ _) ?_)))))))
 by_cases hc95 : (max c (col + 3)) < c
 refine hT hc95 (hT hc95 (hT hc95 (hT hc95 (hT hc95 (hT hc95 (hT hc95 (hT hc95 (hT hc95 (ob_i (vPick_et (decide_eq_true hc95) _ _) ?_)))))))))
 refine cnd_t1 ?_
 exfalso
 first | exact absurd rfl hc95 | omega | exact hc95 (ca_at (by omega)) | exact hc95 (fate_same (by omega) (by omega) hft.2.2) | exact hc95 (met_look (by omega) (by omega) (by omega) (by omega))
 refine gF hc95 (ob_i (op88.fa 2) (gF hc95 (ob_i (op88.ld 2 rfl) (gF hc95 ?_))))
 replace ou86 := ou86.off off93 au86Xp88
 refine ob_i (ou86.len) (gF hc95 (ob_i (op88.fa 0) (gF hc95 (ob_i (op88.ld 0 rfl) (gF hc95 (ob_i (op88.fa 1) (gF hc95 (ob_i (op88.ld 1 rfl) (gF hc95 ?_)))))))))
 refine ob_i (vInt_mul (by omega) (by omega)) (gF hc95 (ob_i (vInt_neq _ _ _) (ob_i (vPick_ef (decide_eq_false hc95) _ _) (cnd_d (fun hg96 => ?_) (fun hg96 => ?_)))))
 exfalso
 first | exact absurd rfl hg96 | omega | exact hg96 (ca_at (by omega)) | exact hg96 (fate_same (by omega) (by omega) hft.2.2) | exact hg96 (met_look (by omega) (by omega) (by omega) (by omega))
 refine jn_i (fun σ' H' => σ' 5 = p10 ∧ σ' 8 = p26 ∧ σ' 29 = p70 ∧ σ' 34 = (.int .i64 (row)) ∧ σ' 35 = (.int .i64 (col)) ∧ Own eI H' u6 (lb) ∧ Own eI H' u7 (lz) ∧ Cel H' p10 [u6, u7] ∧ Own eI H' u24 (lf) ∧ Cel H' p26 [(.int .i64 (r)), (.int .i64 (c)), u24] ∧ Own eI H' u65 (glL) ∧ Cel H' p70 [(.int .i64 (3)), (.int .i64 (3)), u65] ∧ Le H H') (fun σ97 H97 hP => ?_) (fun J97 hJ97 => ?_)
 replace ou6 := (ou6.le le91).off off93 au6Xp88
 replace ou7 := (ou7.le le91).off off93 au7Xp88
 replace op10 := (op10.le le91).off off93 ap10Xp88
 replace ou24 := (ou24.le le91).off off93 au24Xp88
 replace op26 := (op26.le le91).off off93 ap26Xp88
 replace ou65 := (ou65.le le91).off off93 au65Xp88
 replace op70 := (op70.le le91).off off93 ap70Xp88
 replace lE := off93.le (lE.trans le91) np88
 obtain ⟨g5L97, g8L97, g29L97, g34L97, g35L97, ou6, ou7, op10, ou24, op26, ou65, op70, lE⟩ := hP
 try simp only [g5L97, g8L97, g29L97, g34L97, g35L97]
 refine ob_i (op10.ldn rfl) (ob_i (op26.ldn rfl) (ob_i (op70.ldn rfl) (C.c134 ou6.sl ou7.sl ou24.sl ou65.sl (by first | omega | assumption) (by first | omega | assumption) (by first | omega | assumption) (by first | omega | decide) (by exact hPC) (fun  u100 u101 H98 ou100 ou101 nn102 nn103 au100Xu101 le99 => ?_))))
 refine ob_i (vExt_30 _ _ _) (ob_i (vExt_31 _ _ _) (ob_i (vExt_32 _ _ _) ?_))
 replace op10 := op10.le le99
 refine ob_i (op10.ldn rfl) ?_
 replace op26 := op26.le le99
 refine ob_i (op26.ldn rfl) ?_
 replace op70 := op70.le le99
 refine ob_i (op70.ldn rfl) ?_
 replace ou6 := ou6.le le99
 replace ou7 := ou7.le le99
 replace ou24 := ou24.le le99
 replace ou65 := ou65.le le99
 refine C.c135 ou6.sl ou7.sl ou24.sl ou65.sl (by first | omega | assumption) (by first | omega | assumption) (by first | omega | assumption) (by first | omega | decide) (by exact hPC) (fun  u106 u107 H104 ou106 ou107 nn108 nn109 au106Xu107 le105 => ?_)
 refine ob_i (vExt_30 _ _ _) (ob_i (vExt_31 _ _ _) (ob_i (vExt_32 _ _ _) (ob_i (a := .bool false) rfl ?_)))
 refine gop_rf (gop_rf (ob_i (a := .bool false) rfl ?_))
 refine ob_i (vPick_f _ _) (gop_rf (gop_rf ?_))
 replace ou100 := ou100.le le105
 refine ob_i (ou100.len) (gop_rf (gop_rf (ob_i (ou106.len) (gop_rf (ob_i (vInt_neq _ _ _) (ob_i (vPick_f _ _) ?_))))))
 by_cases hc110 : (((cenN (crN lb lz lf glL r c 3 3 row col 3)).length : Int)) ≠ (((cenN (crN lb lz lf glL r c 3 3 row col 3)).length : Int))
 refine hT hc110 (hT hc110 (hT hc110 (hT hc110 (ob_i (vPick_et (decide_eq_true hc110) _ _) (cnd_t1 ?_)))))
 exfalso
 first | exact absurd rfl hc110 | omega | exact hc110 (ca_at (by omega)) | exact hc110 (fate_same (by omega) (by omega) hft.2.2) | exact hc110 (met_look (by omega) (by omega) (by omega) (by omega))
 refine gF hc110 (gF hc110 (gF hc110 ?_))
 replace ou101 := ou101.le le105
 refine C.c127 ou101.sl ou107.sl (by first | omega | exact Nat.le_trans (hrl0 _ _) (by decide)) (fun   H111    le112 => ?_)
 refine gF hc110 (ob_nd (fun hc113 => ?_) (fun hc113 => ?_))
 refine ob_i (vPick_ef (decide_eq_false hc110) _ _) (cnd_f1 (jn_i (fun σ' H' => Le H H') (fun σ114 H114 hP => ?_) (fun J114 hJ114 => ?_)))
 replace lE := ((lE.trans le99).trans le105).trans le112
 have lE := hP
 exact hk   _    lE
 replace ou100 := ou100.le le112
 refine ob_i (ou100.len) ?_
 replace lE := ((lE.trans le99).trans le105).trans le112
 replace ou106 := ou106.le le112
 refine ⟨fun n' σ' H' => ∃ t : Nat, n' = (cenN (crN lb lz lf glL r c 3 3 row col 3)).length - t ∧ t ≤ (cenN (crN lb lz lf glL r c 3 3 row col 3)).length ∧ σ' 41 = u100 ∧ σ' 44 = u106 ∧ σ' 353 = (.int .i64 (((cenN (crN lb lz lf glL r c 3 3 row col 3)).length : Int))) ∧ σ' 354 = (.int .i64 ((t : Int))) ∧ Own vS H' u100 (cenN (crN lb lz lf glL r c 3 3 row col 3)) ∧ Own vS H' u106 (cenN (crN lb lz lf glL r c 3 3 row col 3)) ∧ Le H H',
    ⟨_, 0, rfl, by omega, rfl, rfl, rfl, (congrArg (Value.int .i64) (by first | omega | rfl | (simp; done))), ou100, ou106, lE⟩, ?_⟩
 rintro n115 σ115 H115 ⟨t, rfl, htN, g41L115, g44L115, g353L115, g354L115, ou100, ou106, lE⟩
 try simp only [g41L115, g44L115, g353L115, g354L115]
 refine ob_i (vInt_lss _ _ _) (cnd_d (fun hg116 => ?_) (fun hg116 => ?_))
 have tt := hg116
 refine ob_i (ou100.sl.ix (by omega) (by omega)) (ob_i (ou100.sl.ld [] (by omega) (by omega)) (ob_i (ou106.sl.ix (by omega) (by omega)) (ob_i (ou106.sl.ld [] (by omega) (by omega)) (ob_i (vStr_neq_same _) (cnd_f1 (ob_i (vInt_add (by omega) (by omega)) ?_))))))
 exact nxt ((cenN (crN lb lz lf glL r c 3 3 row col 3)).length - (t + 1)) (by omega) ⟨t + 1, rfl, by omega, g41L115, g44L115, g353L115, (congrArg (Value.int .i64) (by first | omega | rfl | (simp; done))), ou100, ou106, lE⟩
 have tt := hg116
 exact hJ114 _ _ (lE)
 refine ob_i (vPick_ef (decide_eq_false hc110) _ _) (cnd_t1 ?_)
 exfalso
 first | exact absurd rfl hc113 | omega | exact hc113 (ca_at (by omega)) | exact hc113 (fate_same (by omega) (by omega) hft.2.2) | exact hc113 (met_look (by omega) (by omega) (by omega) (by omega))
 replace ou6 := (ou6.le le91).off off93 au6Xp88
 replace ou7 := (ou7.le le91).off off93 au7Xp88
 replace op10 := (op10.le le91).off off93 ap10Xp88
 replace ou24 := (ou24.le le91).off off93 au24Xp88
 replace op26 := (op26.le le91).off off93 ap26Xp88
 replace ou65 := (ou65.le le91).off off93 au65Xp88
 replace op70 := (op70.le le91).off off93 ap70Xp88
 replace lE := off93.le (lE.trans le91) np88
 refine ⟨fun n' σ' H' => ∃ i : Nat, n' = (max r (row + 3)).toNat - i ∧ i ≤ (max r (row + 3)).toNat ∧ σ' 5 = p10 ∧ σ' 6 = (.int .i64 (r)) ∧ σ' 7 = (.int .i64 (c)) ∧ σ' 8 = p26 ∧ σ' 29 = p70 ∧ σ' 34 = (.int .i64 (row)) ∧ σ' 35 = (.int .i64 (col)) ∧ σ' 36 = p88 ∧ σ' 38 = (.int .i64 ((i : Int))) ∧ Own eI H' u6 (lb) ∧ Own eI H' u7 (lz) ∧ Cel H' p10 [u6, u7] ∧ Own eI H' u24 (lf) ∧ Cel H' p26 [(.int .i64 (r)), (.int .i64 (c)), u24] ∧ Own eI H' u65 (glL) ∧ Cel H' p70 [(.int .i64 (3)), (.int .i64 (3)), u65] ∧ Own eI H' u86 (metL0 r c lf 3 3 glL row col) ∧ Cel H' p88 [(.int .i64 (max r (row + 3))), (.int .i64 (max c (col + 3))), u86] ∧ Le H H',
    ⟨_, 0, rfl, by omega, g5L48, g6L48, g7L48, g8L48, rfl, rfl, rfl, rfl, (congrArg (Value.int .i64) (by first | omega | rfl | (simp; done))), ou6, ou7, op10, ou24, op26, ou65, op70, ou86, op88, lE⟩, ?_⟩
 rintro n117 σ117 H117 ⟨i, rfl, hiN, g5L117, g6L117, g7L117, g8L117, g29L117, g34L117, g35L117, g36L117, g38L117, ou6, ou7, op10, ou24, op26, ou65, op70, ou86, op88, lE⟩
 try simp only [g6L117, g7L117, g8L117, g29L117, g34L117, g35L117, g36L117, g38L117]
 refine ob_i (op88.fa 0) (ob_i (op88.ld 0 rfl) (ob_i (vInt_lss _ _ _) (cnd_d (fun hg118 => ?_) (fun hg118 => ?_))))
 have ti := hg118
 refine jn_i (fun σ' H' => σ' 5 = p10 ∧ σ' 6 = (.int .i64 (r)) ∧ σ' 7 = (.int .i64 (c)) ∧ σ' 8 = p26 ∧ σ' 29 = p70 ∧ σ' 34 = (.int .i64 (row)) ∧ σ' 35 = (.int .i64 (col)) ∧ σ' 36 = p88 ∧ σ' 38 = (.int .i64 ((i : Int))) ∧ Own eI H' u6 (lb) ∧ Own eI H' u7 (lz) ∧ Cel H' p10 [u6, u7] ∧ Own eI H' u24 (lf) ∧ Cel H' p26 [(.int .i64 (r)), (.int .i64 (c)), u24] ∧ Own eI H' u65 (glL) ∧ Cel H' p70 [(.int .i64 (3)), (.int .i64 (3)), u65] ∧ Own eI H' u86 (metL0 r c lf 3 3 glL row col) ∧ Cel H' p88 [(.int .i64 (max r (row + 3))), (.int .i64 (max c (col + 3))), u86] ∧ Le H H') (fun σ119 H119 hP => ?_) (fun J119 hJ119 => ?_)
 obtain ⟨g5L119, g6L119, g7L119, g8L119, g29L119, g34L119, g35L119, g36L119, g38L119, ou6, ou7, op10, ou24, op26, ou65, op70, ou86, op88, lE⟩ := hP
 try simp only [g38L119]
 refine ob_i (vInt_add (by omega) (by omega)) ?_
 exact nxt ((max r (row + 3)).toNat - (i + 1)) (by omega) ⟨i + 1, rfl, by omega, g5L119, g6L119, g7L119, g8L119, g29L119, g34L119, g35L119, g36L119, (congrArg (Value.int .i64) (by first | omega | rfl | (simp; done))), ou6, ou7, op10, ou24, op26, ou65, op70, ou86, op88, lE⟩
 refine ⟨fun n' σ' H' => ∃ k : Nat, n' = (max c (col + 3)).toNat - k ∧ k ≤ (max c (col + 3)).toNat ∧ σ' 5 = p10 ∧ σ' 6 = (.int .i64 (r)) ∧ σ' 7 = (.int .i64 (c)) ∧ σ' 8 = p26 ∧ σ' 29 = p70 ∧ σ' 34 = (.int .i64 (row)) ∧ σ' 35 = (.int .i64 (col)) ∧ σ' 36 = p88 ∧ σ' 38 = (.int .i64 ((i : Int))) ∧ σ' 39 = (.int .i64 ((k : Int))) ∧ Own eI H' u6 (lb) ∧ Own eI H' u7 (lz) ∧ Cel H' p10 [u6, u7] ∧ Own eI H' u24 (lf) ∧ Cel H' p26 [(.int .i64 (r)), (.int .i64 (c)), u24] ∧ Own eI H' u65 (glL) ∧ Cel H' p70 [(.int .i64 (3)), (.int .i64 (3)), u65] ∧ Own eI H' u86 (metL0 r c lf 3 3 glL row col) ∧ Cel H' p88 [(.int .i64 (max r (row + 3))), (.int .i64 (max c (col + 3))), u86] ∧ Le H H',
    ⟨_, 0, rfl, by omega, g5L117, g6L117, g7L117, g8L117, g29L117, g34L117, g35L117, g36L117, g38L117, (congrArg (Value.int .i64) (by first | omega | rfl | (simp; done))), ou6, ou7, op10, ou24, op26, ou65, op70, ou86, op88, lE⟩, ?_⟩
 rintro n120 σ120 H120 ⟨k, rfl, hkN, g5L120, g6L120, g7L120, g8L120, g29L120, g34L120, g35L120, g36L120, g38L120, g39L120, ou6, ou7, op10, ou24, op26, ou65, op70, ou86, op88, lE⟩
 try simp only [g6L120, g7L120, g8L120, g29L120, g34L120, g35L120, g36L120, g38L120, g39L120]
 refine ob_i (op88.fa 1) (ob_i (op88.ld 1 rfl) (ob_i (vInt_lss _ _ _) (cnd_d (fun hg121 => ?_) (fun hg121 => ?_))))
 have tk := hg121
 have y1 := ix_lt (a := (i : Int)) (b := (k : Int)) (r := (max r (row + 3))) (c := (max c (col + 3))) (by omega) (by omega) (by omega) (by omega)
 refine jn_i (fun σ' H' => σ' 5 = p10 ∧ σ' 6 = (.int .i64 (r)) ∧ σ' 7 = (.int .i64 (c)) ∧ σ' 8 = p26 ∧ σ' 29 = p70 ∧ σ' 34 = (.int .i64 (row)) ∧ σ' 35 = (.int .i64 (col)) ∧ σ' 36 = p88 ∧ σ' 38 = (.int .i64 ((i : Int))) ∧ σ' 39 = (.int .i64 ((k : Int))) ∧ σ' 40 = (.int .i64 ((flatF r c lf (i : Int) (k : Int)))) ∧ Own eI H' u6 (lb) ∧ Own eI H' u7 (lz) ∧ Cel H' p10 [u6, u7] ∧ Own eI H' u24 (lf) ∧ Cel H' p26 [(.int .i64 (r)), (.int .i64 (c)), u24] ∧ Own eI H' u65 (glL) ∧ Cel H' p70 [(.int .i64 (3)), (.int .i64 (3)), u65] ∧ Own eI H' u86 (metL0 r c lf 3 3 glL row col) ∧ Cel H' p88 [(.int .i64 (max r (row + 3))), (.int .i64 (max c (col + 3))), u86] ∧ Le H H') (fun σ122 H122 hP => ?_) (fun J122 hJ122 => ?_)
 obtain ⟨g5L122, g6L122, g7L122, g8L122, g29L122, g34L122, g35L122, g36L122, g38L122, g39L122, g40L122, ou6, ou7, op10, ou24, op26, ou65, op70, ou86, op88, lE⟩ := hP
 try simp only [g29L122, g34L122, g35L122, g36L122, g38L122, g39L122, g40L122]
 refine jn_i (fun σ' H' => σ' 5 = p10 ∧ σ' 6 = (.int .i64 (r)) ∧ σ' 7 = (.int .i64 (c)) ∧ σ' 8 = p26 ∧ σ' 29 = p70 ∧ σ' 34 = (.int .i64 (row)) ∧ σ' 35 = (.int .i64 (col)) ∧ σ' 36 = p88 ∧ σ' 38 = (.int .i64 ((i : Int))) ∧ σ' 39 = (.int .i64 ((k : Int))) ∧ σ' 40 = (.int .i64 ((metG r c lf 3 3 glL row col (i : Int) (k : Int)))) ∧ Own eI H' u6 (lb) ∧ Own eI H' u7 (lz) ∧ Cel H' p10 [u6, u7] ∧ Own eI H' u24 (lf) ∧ Cel H' p26 [(.int .i64 (r)), (.int .i64 (c)), u24] ∧ Own eI H' u65 (glL) ∧ Cel H' p70 [(.int .i64 (3)), (.int .i64 (3)), u65] ∧ Own eI H' u86 (metL0 r c lf 3 3 glL row col) ∧ Cel H' p88 [(.int .i64 (max r (row + 3))), (.int .i64 (max c (col + 3))), u86] ∧ Le H H') (fun σ123 H123 hP => ?_) (fun J123 hJ123 => ?_)
 obtain ⟨g5L123, g6L123, g7L123, g8L123, g29L123, g34L123, g35L123, g36L123, g38L123, g39L123, g40L123, ou6, ou7, op10, ou24, op26, ou65, op70, ou86, op88, lE⟩ := hP
 try simp only [g36L123, g38L123, g39L123, g40L123]
 refine ob_i (op88.fa 2) (ob_i (op88.ld 2 rfl) (ob_i (op88.fa 1) (ob_i (op88.ld 1 rfl) (ob_i (vInt_mul (by omega) (by omega)) (ob_i (vInt_add (by omega) (by omega)) (ob_i (ou86.sl.ix (by omega) (by omega)) (ob_i (ou86.sl.ld 0 (by omega) (by omega)) (ob_i (vInt_neq _ _ _) (cnd_d (fun hg124 => ?_) (fun hg124 => ?_))))))))))
 refine retK (K := K) (v' := (.bool false)) rfl ?_
 exfalso
 first | exact absurd rfl hg124 | omega | exact hg124 (ca_at (by omega)) | exact hg124 (fate_same (by omega) (by omega) hft.2.2) | exact hg124 (met_look (by omega) (by omega) (by omega) (by omega))
 refine ob_i (vInt_add (by omega) (by omega)) ?_
 exact nxt ((max c (col + 3)).toNat - (k + 1)) (by omega) ⟨k + 1, rfl, by omega, g5L123, g6L123, g7L123, g8L123, g29L123, g34L123, g35L123, g36L123, g38L123, (congrArg (Value.int .i64) (by first | omega | rfl | (simp; done))), ou6, ou7, op10, ou24, op26, ou65, op70, ou86, op88, lE⟩
 refine ob_i (vInt_geq _ _ _) ?_
 by_cases hc125 : row ≤ (i : Int)
 refine gT hc125 (gT hc125 (gT hc125 (ob_i (vInt_add (by omega) (by omega)) (gT hc125 (ob_i (vInt_lss _ _ _) (ob_i (vPick_et (decide_eq_true hc125) _ _) ?_))))))
 by_cases hc126 : (i : Int) < (row + 3)
 refine gT hc126 (gT hc126 (gT hc126 (ob_i (vInt_geq _ _ _) (ob_i (vPick_et (decide_eq_true hc126) _ _) ?_))))
 by_cases hc127 : col ≤ (k : Int)
 refine gT hc127 (gT hc127 (gT hc127 (ob_i (vInt_add (by omega) (by omega)) (gT hc127 (ob_i (vInt_lss _ _ _) (ob_i (vPick_et (decide_eq_true hc127) _ _) (cnd_d (fun hg128 => ?_) (fun hg128 => ?_))))))))
 exact ob_i (op70.fa 2) (ob_i (op70.ld 2 rfl) (ob_i (vInt_sub (by omega) (by omega)) (ob_i (vInt_mul (by omega) (by omega)) (ob_i (vInt_add (by omega) (by omega)) (ob_i (vInt_sub (by omega) (by omega)) (ob_i (ou65.sl.ix (by omega) (by omega)) (ob_i (ou65.sl.ld 0 (by omega) (by omega)) (ob_i (vMx_max _ _ _) (hJ123 _ _ ⟨g5L122, g6L122, g7L122, g8L122, g29L122, g34L122, g35L122, g36L122, g38L122, g39L122, (congrArg (Value.int .i64) (met_yes (by omega) (by omega) (by omega) (by omega))), ou6, ou7, op10, ou24, op26, ou65, op70, ou86, op88, lE⟩)))))))))
 exact hJ123 _ _ ⟨g5L122, g6L122, g7L122, g8L122, g29L122, g34L122, g35L122, g36L122, g38L122, g39L122, (g40L122.trans (congrArg (Value.int .i64) (met_no hlf (by omega)))), ou6, ou7, op10, ou24, op26, ou65, op70, ou86, op88, lE⟩
 exact hF hc127 (hF hc127 (hF hc127 (hF hc127 (ob_i (vPick_ef (decide_eq_false hc127) _ _) (cnd_f1 (hJ123 _ _ ⟨g5L122, g6L122, g7L122, g8L122, g29L122, g34L122, g35L122, g36L122, g38L122, g39L122, (g40L122.trans (congrArg (Value.int .i64) (met_no hlf (by omega)))), ou6, ou7, op10, ou24, op26, ou65, op70, ou86, op88, lE⟩))))))
 exact hF hc126 (hF hc126 (hF hc126 (ob_i (vPick_ef (decide_eq_false hc126) _ _) (gop_sf (gop_sf (gop_sf (gop_sf (ob_i (vPick_f _ _) (cnd_f1 (hJ123 _ _ ⟨g5L122, g6L122, g7L122, g8L122, g29L122, g34L122, g35L122, g36L122, g38L122, g39L122, (g40L122.trans (congrArg (Value.int .i64) (met_no hlf (by omega)))), ou6, ou7, op10, ou24, op26, ou65, op70, ou86, op88, lE⟩))))))))))
 refine hF hc125 (hF hc125 (hF hc125 (hF hc125 (ob_i (vPick_ef (decide_eq_false hc125) _ _) (gop_sf (gop_sf (gop_sf (ob_i (vPick_f _ _) (gop_sf ?_)))))))))
 exact gop_sf (gop_sf (gop_sf (ob_i (vPick_f _ _) (cnd_f1 (hJ123 _ _ ⟨g5L122, g6L122, g7L122, g8L122, g29L122, g34L122, g35L122, g36L122, g38L122, g39L122, (g40L122.trans (congrArg (Value.int .i64) (met_no hlf (by omega)))), ou6, ou7, op10, ou24, op26, ou65, op70, ou86, op88, lE⟩)))))
 refine ob_i (vInt_lss _ _ _) ?_
 by_cases hc129 : (i : Int) < r
 refine gT hc129 (gT hc129 (gT hc129 (ob_i (vInt_lss _ _ _) (ob_i (vPick_et (decide_eq_true hc129) _ _) (cnd_d (fun hg130 => ?_) (fun hg130 => ?_))))))
 have y2 := ix_lt (a := (i : Int)) (b := (k : Int)) (r := r) (c := c) (by omega) (by omega) (by omega) (by omega)
 exact ob_i (op26.fa 2) (ob_i (op26.ld 2 rfl) (ob_i (vInt_mul (by omega) (by omega)) (ob_i (vInt_add (by omega) (by omega)) (ob_i (ou24.sl.ix (by omega) (by omega)) (ob_i (ou24.sl.ld 0 (by omega) (by omega)) (hJ122 _ _ ⟨g5L120, g6L120, g7L120, g8L120, g29L120, g34L120, g35L120, g36L120, g38L120, g39L120, (congrArg (Value.int .i64) (flat_yes (by omega) (by omega) (by omega) (by omega))), ou6, ou7, op10, ou24, op26, ou65, op70, ou86, op88, lE⟩))))))
 exact hJ122 _ _ ⟨g5L120, g6L120, g7L120, g8L120, g29L120, g34L120, g35L120, g36L120, g38L120, g39L120, (congrArg (Value.int .i64) (flat_no (by omega))), ou6, ou7, op10, ou24, op26, ou65, op70, ou86, op88, lE⟩
 exact hF hc129 (hF hc129 (hF hc129 (ob_i (vPick_ef (decide_eq_false hc129) _ _) (cnd_f1 (hJ122 _ _ ⟨g5L120, g6L120, g7L120, g8L120, g29L120, g34L120, g35L120, g36L120, g38L120, g39L120, (congrArg (Value.int .i64) (flat_no (by omega))), ou6, ou7, op10, ou24, op26, ou65, op70, ou86, op88, lE⟩)))))
 have tk := hg121
 exact hJ119 _ _ ⟨g5L120, g6L120, g7L120, g8L120, g29L120, g34L120, g35L120, g36L120, g38L120, ou6, ou7, op10, ou24, op26, ou65, op70, ou86, op88, lE⟩
 have ti := hg118
 exact hJ97 _ _ ⟨g5L117, g8L117, g29L117, g34L117, g35L117, ou6, ou7, op10, ou24, op26, ou65, op70, lE⟩
 refine cnd_d (fun hg131 => ?_) (fun hg131 => ?_)
 have hft := ft_spec (hg131).2.2
 have h40 : (40 : Int).toNat = 40 := rfl
 have es1 := selI_t (x := ((fsI (rnL true lb lz r c lf) (ftK (rnL true lb lz r c lf) (40 : Int).toNat) : Nat) : Int)) hg131
 have es2 := selI_t (x := ((ftK (rnL true lb lz r c lf) (40 : Int).toNat : Nat) : Int) - ((fsI (rnL true lb lz r c lf) (ftK (rnL true lb lz r c lf) (40 : Int).toNat) : Nat) : Int)) hg131
 replace op10 := op10.le le47
 refine ob_i (op10.ldn rfl) ?_
 replace op26 := op26.le le47
 refine ob_i (op26.ldn rfl) ?_
 replace ou6 := ou6.le le47
 replace ou7 := ou7.le le47
 replace ou24 := ou24.le le47
 refine C.c130 ou6.sl ou7.sl ou24.sl (by first | omega | assumption) (by first | omega | assumption) (by first | omega | assumption) (by exact ⟨hcan, by omega, by omega⟩) (fun  u134 H132 ou134 nn135  le133 => ?_)
 refine ob_i (vExt_20 _ _) (ob_i (vExt_21 _ _) (nw_i (fun p136 H137 op136 nn138 le139 => ?_)))
 replace ou6 := ou6.le le133
 have au6Xp136 := ou6.apart nn138
 replace ou7 := ou7.le le133
 have au7Xp136 := ou7.apart nn138
 replace op10 := op10.le le133
 have ap10Xp136 := op10.apart nn138
 replace ou24 := ou24.le le133
 have au24Xp136 := ou24.apart nn138
 replace op26 := op26.le le133
 have ap26Xp136 := op26.apart nn138
 have au134Xp136 := ou134.apart nn138
 replace lE := ((lE.trans le45).trans le47).trans le133
 have np136 := nn138.le lE
 replace ou134 := ou134.le le139
 refine op136.stn (ws := [(.int .i64 (r)), (.int .i64 (c)), u134]) rfl rfl (oc1 rfl (oc1 rfl (oc1 ou134.one oc0))) (fun H140 op136 off141 => ?_)
 replace op10 := (op10.le le139).off off141 ap10Xp136
 refine ob_i (op10.ldn rfl) ?_
 replace op26 := (op26.le le139).off off141 ap26Xp136
 refine ob_i (op26.ldn rfl) (ob_i (vInt_add (by omega) (by omega)) ?_)
 replace ou6 := (ou6.le le139).off off141 au6Xp136
 replace ou7 := (ou7.le le139).off off141 au7Xp136
 replace ou24 := (ou24.le le139).off off141 au24Xp136
 refine C.c130 ou6.sl ou7.sl ou24.sl (by first | omega | assumption) (by first | omega | assumption) (by first | omega | assumption) (by exact ⟨hcan, by omega, by omega⟩) (fun  u144 H142 ou144 nn145  le143 => ?_)
 refine ob_i (vExt_20 _ _) (ob_i (vExt_21 _ _) (nw_i (fun p146 H147 op146 nn148 le149 => ?_)))
 replace ou6 := ou6.le le143
 have au6Xp146 := ou6.apart nn148
 replace ou7 := ou7.le le143
 have au7Xp146 := ou7.apart nn148
 replace op10 := op10.le le143
 have ap10Xp146 := op10.apart nn148
 replace ou24 := ou24.le le143
 have au24Xp146 := ou24.apart nn148
 replace op26 := op26.le le143
 have ap26Xp146 := op26.apart nn148
 replace ou134 := (ou134.off off141 au134Xp136).le le143
 have au134Xp146 := ou134.apart nn148
 replace op136 := op136.le le143
 have ap136Xp146 := op136.apart nn148
 have au144Xp146 := ou144.apart nn148
 replace lE := (off141.le (lE.trans le139) np136).trans le143
 have np146 := nn148.le lE
 replace ou144 := ou144.le le149
 refine op146.stn (ws := [(.int .i64 (r)), (.int .i64 (c)), u144]) rfl rfl (oc1 rfl (oc1 rfl (oc1 ou144.one oc0))) (fun H150 op146 off151 => ?_)
 refine ob_i (a := .bool false) rfl ?_
 refine gop_rf (gop_rf (ob_i (a := .bool false) rfl ?_))
 refine ob_i (vPick_f _ _) (gop_rf (gop_rf (ob_i (vInt_lss _ _ _) (ob_i (vPick_f _ _) ?_))))
 by_cases hc152 : (selI (ftP lb lz r c lf 40) ((ftK (rnL true lb lz r c lf) (40 : Int).toNat : Int) - (fsI (rnL true lb lz r c lf) (ftK (rnL true lb lz r c lf) (40 : Int).toNat) : Int))) < 1
 refine hT hc152 (hT hc152 (ob_i (vPick_et (decide_eq_true hc152) _ _) (gop_st (gop_st (gop_st (gop_st (gop_st (gop_st (ob_i (vPick_t _ _) ?_)))))))))
 refine cnd_t1 ?_
 exfalso
 first | exact absurd rfl hc152 | omega | exact hc152 (ca_at (by omega)) | exact hc152 (fate_same (by omega) (by omega) hft.2.2) | exact hc152 (met_look (by omega) (by omega) (by omega) (by omega))
 refine gF hc152 (gF hc152 (ob_i (vInt_lss _ _ _) (ob_i (vPick_ef (decide_eq_false hc152) _ _) ?_)))
 by_cases hc153 : (selI (ftP lb lz r c lf 40) ((fsI (rnL true lb lz r c lf) (ftK (rnL true lb lz r c lf) (40 : Int).toNat) : Int))) < 0
 refine hT hc153 (hT hc153 (hT hc153 (hT hc153 (hT hc153 (hT hc153 (ob_i (vPick_et (decide_eq_true hc153) _ _) (cnd_t1 ?_)))))))
 exfalso
 first | exact absurd rfl hc153 | omega | exact hc153 (ca_at (by omega)) | exact hc153 (fate_same (by omega) (by omega) hft.2.2) | exact hc153 (met_look (by omega) (by omega) (by omega) (by omega))
 refine gF hc153 ?_
 replace op136 := (op136.le le149).off off151 ap136Xp146
 refine ob_i (op136.fa 2) (gF hc153 (ob_i (op136.ld 2 rfl) (gF hc153 (ob_i (op146.fa 2) (gF hc153 (ob_i (op146.ld 2 rfl) (gF hc153 ?_)))))))
 replace ou134 := (ou134.le le149).off off151 au134Xp146
 replace ou144 := ou144.off off151 au144Xp146
 refine C.c127 ou134.sl ou144.sl (by first | omega | exact Nat.le_trans (hrl0 _ _) (by decide)) (fun   H154    le155 => ?_)
 refine gF hc153 (ob_nd (fun hc156 => ?_) (fun hc156 => ?_))
 refine ob_i (vPick_ef (decide_eq_false hc153) _ _) (cnd_f1 ?_)
 replace ou6 := ((ou6.le le149).off off151 au6Xp146).le le155
 replace ou7 := ((ou7.le le149).off off151 au7Xp146).le le155
 replace op10 := ((op10.le le149).off off151 ap10Xp146).le le155
 replace ou24 := ((ou24.le le149).off off151 au24Xp146).le le155
 replace op26 := ((op26.le le149).off off151 ap26Xp146).le le155
 replace lE := (off151.le (lE.trans le149) np146).trans le155
 exact hJ48 _ _ ⟨g1L43, g5L43, g6L43, g7L43, g8L43, ou6, ou7, op10, ou24, op26, lE⟩
 refine ob_i (vPick_ef (decide_eq_false hc153) _ _) (cnd_t1 ?_)
 exfalso
 first | exact absurd rfl hc156 | omega | exact hc156 (ca_at (by omega)) | exact hc156 (fate_same (by omega) (by omega) hft.2.2) | exact hc156 (met_look (by omega) (by omega) (by omega) (by omega))
 replace lE := (lE.trans le45).trans le47
 replace ou6 := ou6.le le47
 replace ou7 := ou7.le le47
 replace op10 := op10.le le47
 replace ou24 := ou24.le le47
 replace op26 := op26.le le47
 exact hJ48 _ _ ⟨g1L43, g5L43, g6L43, g7L43, g8L43, ou6, ou7, op10, ou24, op26, lE⟩
 refine ob_i (ou40.len) ?_
 replace ou6 := ou6.le le39
 replace ou7 := ou7.le le39
 replace op10 := op10.le le39
 replace ou24 := ou24.le le39
 replace op26 := op26.le le39
 replace lE := lE.trans le39
 refine ⟨fun n' σ' H' => ∃ j : Nat, n' = (st.toNat + 1) - j ∧ j ≤ (st.toNat + 1) ∧ σ' 1 = vm ∧ σ' 5 = p10 ∧ σ' 6 = (.int .i64 (r)) ∧ σ' 7 = (.int .i64 (c)) ∧ σ' 8 = p26 ∧ σ' 9 = (.bool (decide (x32 = 0))) ∧ σ' 11 = u40 ∧ σ' 86 = (.int .i64 (((caL (decide (x32 = 0)) lb lz r c lf st.toNat).length : Int))) ∧ σ' 87 = (.int .i64 ((j : Int))) ∧ Own eI H' u6 (lb) ∧ Own eI H' u7 (lz) ∧ Cel H' p10 [u6, u7] ∧ Own eI H' u24 (lf) ∧ Cel H' p26 [(.int .i64 (r)), (.int .i64 (c)), u24] ∧ Own eI H' u40 (caL (decide (x32 = 0)) lb lz r c lf st.toNat) ∧ Le H H',
    ⟨_, 0, rfl, by omega, rfl, rfl, rfl, rfl, rfl, rfl, rfl, rfl, (congrArg (Value.int .i64) (by first | omega | rfl | (simp; done))), ou6, ou7, op10, ou24, op26, ou40, lE⟩, ?_⟩
 rintro n157 σ157 H157 ⟨j, rfl, hjN, g1L157, g5L157, g6L157, g7L157, g8L157, g9L157, g11L157, g86L157, g87L157, ou6, ou7, op10, ou24, op26, ou40, lE⟩
 try simp only [g5L157, g8L157, g9L157, g11L157, g86L157, g87L157]
 refine ob_i (vInt_lss _ _ _) (cnd_d (fun hg158 => ?_) (fun hg158 => ?_))
 have tj := hg158
 refine ob_i (op10.ldn rfl) (ob_i (op26.ldn rfl) (C.c130 ou6.sl ou7.sl ou24.sl (by first | omega | assumption) (by first | omega | assumption) (by first | omega | assumption) (by exact ⟨hcan, by omega, by omega⟩) (fun  u161 H159 ou161 nn162  le160 => ?_)))
 refine ob_i (vExt_20 _ _) (ob_i (vExt_21 _ _) (nw_i (fun p163 H164 op163 nn165 le166 => ?_)))
 replace ou6 := ou6.le le160
 have au6Xp163 := ou6.apart nn165
 replace ou7 := ou7.le le160
 have au7Xp163 := ou7.apart nn165
 replace op10 := op10.le le160
 have ap10Xp163 := op10.apart nn165
 replace ou24 := ou24.le le160
 have au24Xp163 := ou24.apart nn165
 replace op26 := op26.le le160
 have ap26Xp163 := op26.apart nn165
 replace ou40 := ou40.le le160
 have au40Xp163 := ou40.apart nn165
 have au161Xp163 := ou161.apart nn165
 replace lE := lE.trans le160
 have np163 := nn165.le lE
 replace ou161 := ou161.le le166
 refine op163.stn (ws := [(.int .i64 (r)), (.int .i64 (c)), u161]) rfl rfl (oc1 rfl (oc1 rfl (oc1 ou161.one oc0))) (fun H167 op163 off168 => ?_)
 refine ob_i (op163.ldn rfl) ?_
 replace ou161 := ou161.off off168 au161Xp163
 refine C.c129 ou161.sl (by exact hrf0 _ _) (fun   H169    le170 => ?_)
 refine ob_i (vExt_20 _ _) (ob_i (vExt_21 _ _) (ob_i (a := .bool false) rfl ?_))
 refine gop_rf (gop_rf (ob_i (a := .bool false) rfl ?_))
 refine ob_i (vPick_f _ _) (gop_rf (gop_rf (gop_rf ?_)))
 replace ou40 := ((ou40.le le166).off off168 au40Xp163).le le170
 refine ob_i (ou40.sl.ix (by omega) (by omega)) (gop_rf (ob_i (ou40.sl.ld 0 (by omega) (by omega)) (gop_rf (gop_rf (ob_i (vInt_neq _ _ _) (ob_i (vPick_f _ _) (cnd_d (fun hg171 => ?_) (fun hg171 => ?_))))))))
 refine retK (K := K) (v' := (.bool false)) rfl ?_
 exfalso
 first | exact absurd rfl hg171 | omega | exact hg171 (ca_at (by omega)) | exact hg171 (fate_same (by omega) (by omega) hft.2.2) | exact hg171 (met_look (by omega) (by omega) (by omega) (by omega))
 refine ob_i (vInt_add (by omega) (by omega)) ?_
 replace ou6 := ((ou6.le le166).off off168 au6Xp163).le le170
 replace ou7 := ((ou7.le le166).off off168 au7Xp163).le le170
 replace op10 := ((op10.le le166).off off168 ap10Xp163).le le170
 replace ou24 := ((ou24.le le166).off off168 au24Xp163).le le170
 replace op26 := ((op26.le le166).off off168 ap26Xp163).le le170
 replace lE := (off168.le (lE.trans le166) np163).trans le170
 exact nxt ((st.toNat + 1) - (j + 1)) (by omega) ⟨j + 1, rfl, by omega, g1L157, g5L157, g6L157, g7L157, g8L157, g9L157, g11L157, g86L157, (congrArg (Value.int .i64) (by first | omega | rfl | (simp; done))), ou6, ou7, op10, ou24, op26, ou40, lE⟩
 have tj := hg158
 exact hJ43 _ _ ⟨g1L157, g5L157, g6L157, g7L157, g8L157, ou6, ou7, op10, ou24, op26, lE⟩

theorem L.FnFates (h0 : Sl eU H vy l) (h1 : Sl eU H vm m) (l0 : l.length ≤ 9223372036854775807) (l1 : m.length ≤ 9223372036854775807) (b0 : bytP l) (b1 : bytP m) (hk : ∀ H', Le H H' → K (.bool true) H') : HT prg 4 [vy, vm].toArray H K :=
  C.c136 h0 h1 b0 l0 b1 l1 hk
end Go.Proofs.YtnijdhlmimemcaaGreatDoor
