/- The cells around a cell: each is told once, row by row; and slices that are cut in front of their last. -/
import Derived.Test.YtejbicikffhggaaPH
import Derived.Test.YtejbicikffhggaaSN
namespace Go.Proofs.Ytejbicikffhggaa
open HL
set_option maxRecDepth 100000
/-- A heap less one block. -/
def HL.Hp.del (H : Hp) (b : Nat) : Hp := fun x => if x = b then none else H x
theorem HL.Hp.del_none (H : Hp) (b : Nat) : H.del b b = none := by simp [Hp.del]
theorem HL.Hp.del_put {A B : Hp} {b : Nat} {o : Obj} (h : Le (A.put b o) B) : B = (B.del b).put b o := by
  funext x
  unfold Hp.put Hp.del
  by_cases e : x = b
  · subst e; rw [if_pos rfl]; exact h _ _ (Hp.put_same _ _ _)
  · rw [if_neg e, if_neg e]
theorem HL.Hp.del_le {A B : Hp} {b : Nat} {o : Obj} (h : Le (A.put b o) B) (hn : A b = none) : Le A (B.del b) := by
  intro x y hx
  have e : x ≠ b := by rintro rfl; rw [hn] at hx; exact absurd hx (by simp)
  unfold Hp.del
  rw [if_neg e]
  exact h _ _ (by rw [Hp.put_ne _ _ e]; exact hx)
theorem callV_frame {v : Value} {args : List Value} {A : Hp} {Z : Value → Hp → Prop} {b : Nat} {o : Obj} (h : callV prg v args A (fun x B => B b = none → Z x (B.put b o))) (hn : A b = none) : callV prg v args (A.put b o) Z := by
  unfold callV at h ⊢
  split at h
  · exact ⟨h.1, (HT.frame o h.2 hn).mono (fun x B' ⟨B, h3, h4, h5⟩ => h5 ▸ h3 h4)⟩
  · exact h
theorem callV_mono {v : Value} {args : List Value} {A : Hp} {Z Z' : Value → Hp → Prop} (h : callV prg v args A Z) (h2 : ∀ x B, Z x B → Z' x B) : callV prg v args A Z' := by
  unfold callV at h ⊢
  split at h
  · exact ⟨h.1, h.2.mono h2⟩
  · exact h
theorem HL.Cel.cast {H : Hp} {p : Value} {cs cs' : List Value} (e : cs = cs') (h : Cel H p cs) : Cel H p cs' := e ▸ h
/-- A slice that is cut in front of its last cells: it is owned as before. -/
theorem HL.Own.trunc {α : Type} {enc : α → Value} {H : Hp} {v : Value} {l : List α} {kk : IntKind} {n : Int} (h : Own enc H v l) (h0 : 0 ≤ n) (h1 : n ≤ l.length) :
    ∃ v', vSl3 1 v none (some (.int kk n)) none = some v' ∧ Own enc H v' (l.take n.toNat) ∧ ∀ b, bk v' = some b → bk v = some b := by
  obtain ⟨a, c, rfl, hc, hr⟩ := h
  refine ⟨.slice a n.toNat c, ?_, ⟨a, c, by simp; omega, by simp; omega, fun hp => ?_⟩, fun b hb => by cases a <;> exact hb⟩
  · simp only [vSl3, vSl, bnd]
    rw [if_pos ⟨h0, by omega⟩]
    simp only [Nat.zero_mul, Nat.sub_zero]
    cases a with
    | none => simp
    | some ad => simp [Addr.add]
  · obtain ⟨b, off, cs, e, h2, h3, h4, h5⟩ := hr hp
    refine ⟨b, off, cs, e, h2, h3, h4, fun i hi => ?_⟩
    have hi2 : i < l.length := by have := hi; simp at this; omega
    rw [h5 i hi2, List.getElem_take]
theorem C.impl_Field_corners {fv : Value} {r c i k : Int} {vc : Value} {H : Hp} {K : Value → Hp → Prop} {Inv : Int → Int → Hp → Prop} (hs : sidesF r c) (i0 : 0 ≤ i) (i1 : i ≤ 1000) (k0 : 0 ≤ k) (k1 : k ≤ 1000)
    (h0 : Inv (i - 1) (k - 1) H) (hle : ∀ p q A B, Inv p q A → Le A B → Inv p q B)
    (hno : ∀ p q A, ¬ (((0 ≤ p ∧ p ≤ r - 1) ∧ 0 ≤ q ∧ q ≤ c - 1) ∧ (p ≠ i ∨ q ≠ k)) → i - 1 ≤ p → p ≤ i + 1 → k - 1 ≤ q → q ≤ k + 1 → Inv p q A → Inv p (q + 1) A)
    (hrow : ∀ p A, i - 1 ≤ p → p ≤ i + 1 → Inv p (k + 2) A → Inv (p + 1) (k - 1) A)
    (hdo : ∀ p q A (Z : Value → Hp → Prop), ((0 ≤ p ∧ p ≤ r - 1) ∧ 0 ≤ q ∧ q ≤ c - 1) → (p ≠ i ∨ q ≠ k) → i - 1 ≤ p → p ≤ i + 1 → k - 1 ≤ q → q ≤ k + 1 → Inv p q A → (∀ B, Inv p (q + 1) B → Z (.tuple #[]) B) → callV prg fv [.int .i64 p, .int .i64 q] A Z)
    (hk : ∀ A, Inv (i + 2) (k - 1) A → K (.tuple #[]) A) : HT prg I.impl_Field_corners [.agg #[.int .i64 r, .int .i64 c, vc], .int .i64 i, .int .i64 k, fv].toArray H K := by
  refine R.impl_Field_corners ?_
  unfold F.impl_Field_corners
  intro b hb
  have hlb : ∀ A : Hp, vLoadN 3 (.pointer (some ⟨b, 0, none⟩)) (A.put b (.cells (Value.agg #[.int .i64 r, .int .i64 c, vc]).cells 29)) = some (.agg #[.int .i64 r, .int .i64 c, vc]) := fun A =>
    Cel.ldn (cs := [.int .i64 r, .int .i64 c, vc]) ⟨b, 29, rfl, by rw [Hp.put_same]; rfl⟩ rfl
  generalize (Obj.cells (Value.agg #[.int .i64 r, .int .i64 c, vc]).cells 29) = o at hlb
  refine ob_i (vInt_sub (by omega) (by omega)) ?_
  refine ⟨fun n σ H' => ∃ t : Nat, n = 3 - t ∧ t ≤ 3 ∧ σ 1 = .int .i64 i ∧ σ 2 = .int .i64 k ∧ σ 3 = fv ∧ σ 4 = .pointer (some ⟨b, 0, none⟩) ∧ σ 8 = .int .i64 (i - 1 + (t : Int)) ∧ ∃ A, H' = A.put b o ∧ A b = none ∧ Inv (i - 1 + (t : Int)) (k - 1) A,
    ⟨_, 0, rfl, by omega, rfl, rfl, rfl, rfl, congrArg (Value.int .i64) (by omega), H, rfl, hb, by rw [show i - 1 + ((0 : Nat) : Int) = i - 1 by omega]; exact h0⟩, ?_⟩
  rintro n σ H1 ⟨t, rfl, ht, g1, g2, g3, g4, g8, A, rfl, hA, hI⟩
  simp only [g1, g2, g3, g4, g8]
  refine ob_i (vInt_add (by omega) (by omega)) ?_
  refine ob_i (vInt_leq _ _ _) ?_
  refine cnd_d (fun hlt => ?_) (fun hge => ?_)
  · refine jn_i (fun σ' H' => σ' 1 = .int .i64 i ∧ σ' 2 = .int .i64 k ∧ σ' 3 = fv ∧ σ' 4 = .pointer (some ⟨b, 0, none⟩) ∧ σ' 8 = .int .i64 (i - 1 + (t : Int)) ∧ ∃ A, H' = A.put b o ∧ A b = none ∧ Inv (i - 1 + (t : Int) + 1) (k - 1) A) (fun σ2 H2 hP => ?_) (fun J hJ => ?_)
    · obtain ⟨g1, g2, g3, g4, g8, A, rfl, hA, hI⟩ := hP
      simp only [g8]
      refine ob_i (vInt_add (by omega) (by omega)) ?_
      exact nxt (3 - (t + 1)) (by omega) ⟨t + 1, rfl, by omega, g1, g2, g3, g4, congrArg (Value.int .i64) (by omega), A, rfl, hA, by rw [show i - 1 + ((t + 1 : Nat) : Int) = i - 1 + (t : Int) + 1 by omega]; exact hI⟩
    · refine ob_i (vInt_sub (by omega) (by omega)) ?_
      refine ⟨fun n σ H' => ∃ u : Nat, n = 3 - u ∧ u ≤ 3 ∧ σ 1 = .int .i64 i ∧ σ 2 = .int .i64 k ∧ σ 3 = fv ∧ σ 4 = .pointer (some ⟨b, 0, none⟩) ∧ σ 8 = .int .i64 (i - 1 + (t : Int)) ∧ σ 9 = .int .i64 (k - 1 + (u : Int)) ∧ ∃ A, H' = A.put b o ∧ A b = none ∧ Inv (i - 1 + (t : Int)) (k - 1 + (u : Int)) A,
        ⟨_, 0, rfl, by omega, g1, g2, g3, g4, g8, congrArg (Value.int .i64) (by omega), A, rfl, hA, by rw [show k - 1 + ((0 : Nat) : Int) = k - 1 by omega]; exact hI⟩, ?_⟩
      clear hI hA g1 g2 g3 g4 g8 A
      rintro n σ H1 ⟨u, rfl, hu, g1, g2, g3, g4, g8, g9, A, rfl, hA, hI⟩
      simp only [g1, g2, g3, g4, g8, g9]
      refine ob_i (vInt_add (by omega) (by omega)) ?_
      refine ob_i (vInt_leq _ _ _) ?_
      refine cnd_d (fun hlt2 => ?_) (fun hge2 => ?_)
      · refine ob_i (hlb A) ?_
        refine C.impl_Field_has hs (fun H3 le3 => ?_)
        have hB := Hp.del_le le3 hA
        have eB := Hp.del_put le3
        have nB := Hp.del_none H3 b
        generalize H3.del b = B at hB eB nB
        subst eB
        have hI2 := hle _ _ _ _ hI hB
        have eu : k - 1 + ((u + 1 : Nat) : Int) = k - 1 + (u : Int) + 1 := by omega
        have no : ∀ σ' : S, σ' 1 = .int .i64 i → σ' 2 = .int .i64 k → σ' 3 = fv → σ' 4 = .pointer (some ⟨b, 0, none⟩) → σ' 8 = .int .i64 (i - 1 + (t : Int)) → σ' 9 = .int .i64 (k - 1 + (u : Int) + 1) → ∀ C : Hp, C b = none → Inv (i - 1 + (t : Int)) (k - 1 + (u : Int) + 1) C →
            ∃ u' : Nat, 3 - (u + 1) = 3 - u' ∧ u' ≤ 3 ∧ σ' 1 = .int .i64 i ∧ σ' 2 = .int .i64 k ∧ σ' 3 = fv ∧ σ' 4 = .pointer (some ⟨b, 0, none⟩) ∧ σ' 8 = .int .i64 (i - 1 + (t : Int)) ∧ σ' 9 = .int .i64 (k - 1 + (u' : Int)) ∧ ∃ A, C.put b o = A.put b o ∧ A b = none ∧ Inv (i - 1 + (t : Int)) (k - 1 + (u' : Int)) A :=
          fun σ' a1 a2 a3 a4 a8 a9 C hC hIC => ⟨u + 1, rfl, by omega, a1, a2, a3, a4, a8, by rw [eu]; exact a9, C, rfl, hC, by rw [eu]; exact hIC⟩
        by_cases hP : (0 ≤ i - 1 + (t : Int) ∧ i - 1 + (t : Int) ≤ r - 1) ∧ 0 ≤ k - 1 + (u : Int) ∧ k - 1 + (u : Int) ≤ c - 1
        · rw [decide_eq_true hP]
          refine gop_rt ?_
          refine gop_rt ?_
          refine gop_rt ?_
          refine ob_i (vInt_neq _ _ _) ?_
          refine gop_rt ?_
          by_cases h1 : i - 1 + (t : Int) = i
          · rw [decide_eq_false (show ¬ i - 1 + (t : Int) ≠ i from fun h => h h1)]
            refine gop_rf ?_
            refine gop_rf ?_
            refine gop_rf ?_
            refine ob_i (vInt_neq _ _ _) ?_
            refine gop_rt ?_
            refine ob_i (vPick_f _ _) ?_
            refine ob_i (vPick_t _ _) ?_
            refine cnd_d (fun h2 => ?_) (fun h2 => ?_)
            · refine callV_frame (hdo _ _ B _ hP (.inr h2) (by omega) (by omega) (by omega) (by omega) hI2 (fun C hC nC => ?_)) nB
              refine ob_i (vInt_add (by omega) (by omega)) ?_
              refine nxt (3 - (u + 1)) (by omega) ?_
              refine no _ ?_ ?_ ?_ ?_ ?_ ?_ C nC hC
              · exact g1
              · exact g2
              · exact g3
              · exact g4
              · exact g8
              · exact rfl
            · refine ob_i (vInt_add (by omega) (by omega)) ?_
              refine nxt (3 - (u + 1)) (by omega) ?_
              refine no _ ?_ ?_ ?_ ?_ ?_ ?_ B nB (hno _ _ B (fun h => h.2.elim (fun h3 => h3 h1) h2) (by omega) (by omega) (by omega) (by omega) hI2)
              · exact g1
              · exact g2
              · exact g3
              · exact g4
              · exact g8
              · exact rfl
          · rw [decide_eq_true h1]
            refine gop_st ?_
            refine gop_st ?_
            refine gop_st ?_
            refine gop_rt ?_
            refine ob_i (vPick_t _ _) ?_
            refine ob_i (vPick_t _ _) ?_
            refine cnd_t1 ?_
            refine callV_frame (hdo _ _ B _ hP (.inl h1) (by omega) (by omega) (by omega) (by omega) hI2 (fun C hC nC => ?_)) nB
            refine ob_i (vInt_add (by omega) (by omega)) ?_
            refine nxt (3 - (u + 1)) (by omega) ?_
            refine no _ ?_ ?_ ?_ ?_ ?_ ?_ C nC hC
            · exact g1
            · exact g2
            · exact g3
            · exact g4
            · exact g8
            · exact rfl
        · rw [decide_eq_false hP]
          refine gop_sf ?_
          refine gop_sf ?_
          refine gop_sf ?_
          refine gop_sf ?_
          refine gop_u ?_
          refine gop_u ?_
          refine gop_u ?_
          refine gop_sf ?_
          refine ob_i (vPick_f _ _) ?_
          refine cnd_f1 ?_
          refine ob_i (vInt_add (by omega) (by omega)) ?_
          refine nxt (3 - (u + 1)) (by omega) ?_
          refine no _ ?_ ?_ ?_ ?_ ?_ ?_ B nB (hno _ _ B (fun h => hP h.1) (by omega) (by omega) (by omega) (by omega) hI2)
          · exact g1
          · exact g2
          · exact g3
          · exact g4
          · exact g8
          · exact rfl
      · exact hJ _ _ ⟨g1, g2, g3, g4, g8, A, rfl, hA, hrow _ _ (by omega) (by omega) (by rw [show k + 2 = k - 1 + (u : Int) by omega]; exact hI)⟩
  · have := hle _ _ _ _ hI (Le.put o hA)
    exact hk _ (by rw [show i + 2 = i - 1 + (t : Int) by omega]; exact this)
end Go.Proofs.Ytejbicikffhggaa
