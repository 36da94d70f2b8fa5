/- Ranges over functions: a rule by an invariant; slices.Chunk. -/
import Derived.Test.YtialllbbbpmkbaaDoorSN
import Derived.Test.YtialllbbbpmkbaaDoorSS
namespace Go.Proofs.YtialllbbbpmkbaaDoor
open HL
set_option maxRecDepth 100000
namespace HL
/-- A range over an iterator that gives N times something: what holds ahead of each round. -/
theorem rgE_i {fv : Value} {ps : List Nat} {body : (Exit → S → Hp → Prop) → S → Hp → Prop} {Q : Exit → S → Hp → Prop} {σ : S} {H : Hp} (N : Nat) (arg : Nat → List Value) (I : Nat → Hp → Prop) (hfv : match fv with | .func (.func _) _ _ => True | _ => False) (hps : ∀ t, (arg t).length = ps.length) (h0 : I 0 H)
    (hb : ∀ t A σ' (Q' : Exit → S → Hp → Prop), t < N → σ' = ups σ ps (arg t) → (∀ σ'' B, I (t + 1) B → Q' .normal σ'' B) → (∀ σ'' B, Q .ret σ B → Q' .ret σ'' B) → (∀ id σ'' B, Q (.exit id) σ B → Q' (.exit id) σ'' B) → I t A → body Q' σ' A)
    (hend : ∀ A, I N A → Q .normal σ A)
    (hcall : ∀ (yv : Value) (J : Nat → Hp → Prop) (St : Hp → Prop) (H1 : Hp) (K : Value → Hp → Prop), (∀ t A, J t A → ∃ A' b o, A = A'.put b o ∧ A' b = none ∧ I t A') → J 0 H1 →
      (∀ t A (Z : Value → Hp → Prop), t < N → J t A → (∀ B, J (t + 1) B → Z (.bool true) B) → (∀ B, St B → Z (.bool false) B) → callV prg yv (arg t) A Z) → (∀ A, J N A → K (.tuple #[]) A) → (∀ A, St A → K (.tuple #[]) A) → callV prg fv [yv] H1 K) :
    rgE prg fv ps body Q σ H := by
  refine ⟨hfv, fun l X hl hy => ?_⟩
  refine hcall _ (fun t A => ∃ A', A = A'.put l (X none) ∧ A' l = none ∧ I t A') (fun A => ∃ A' j, A = A'.put l (X j) ∧ A' l = none ∧ jmpQ Q σ A' j) _ _ ?_ ⟨H, rfl, hl, h0⟩ ?_ ?_ ?_
  · rintro t A ⟨A', rfl, hn, hI⟩
    exact ⟨A', l, X none, rfl, hn, hI⟩
  · rintro t A Z ht ⟨A', rfl, hn, hI⟩ hT hF
    refine hy (arg t) A' Z (hps t) hn (hb t A' _ _ ht rfl (fun σ'' B hB hBl => ?_) (fun σ'' B hB hBl => ?_) (fun id σ'' B hB hBl => ?_) hI)
    · exact hT _ ⟨B, rfl, hBl, hB⟩
    · exact hF _ ⟨B, some .ret, rfl, hBl, hB⟩
    · exact hF _ ⟨B, some (.exit id), rfl, hBl, hB⟩
  · rintro A ⟨A', rfl, hn, hI⟩
    exact ⟨A', none, rfl, hn, hend A' hI⟩
  · rintro A ⟨A', j, rfl, hn, hj⟩
    exact ⟨A', j, rfl, hn, hj⟩
/-- A piece of a slice, with no room behind it. -/
def chV (v : Value) (lo c : Nat) : Value := (vSl3 1 v (some (.int .i64 (lo : Int))) (some (.int .i64 ((lo : Int) + (c : Int)))) (some (.int .i64 ((lo : Int) + (c : Int))))).getD undef
theorem chV_sl {α : Type} {enc : α → Value} {H : Hp} {v : Value} {l : List α} (h : Sl enc H v l) {lo c : Nat} (h1 : lo + c ≤ l.length) :
    vSl3 1 v (some (.int .i64 (lo : Int))) (some (.int .i64 ((lo : Int) + (c : Int)))) (some (.int .i64 ((lo : Int) + (c : Int)))) = some (chV v lo c) ∧ Sl enc H (chV v lo c) ((l.drop lo).take c) := by
  obtain ⟨a, k, rfl, hc, hr⟩ := h
  have e0 : bnd (some (.int .i64 ((lo : Int) + (c : Int)))) k k = some (lo + c) := by simp only [bnd]; rw [if_pos ⟨by omega, by omega⟩]; congr 1
  have e1 : bnd (some (.int .i64 ((lo : Int) + (c : Int)))) (lo + c) (lo + c) = some (lo + c) := by simp only [bnd]; rw [if_pos ⟨by omega, by omega⟩]; congr 1
  have e2 : bnd (some (.int .i64 (lo : Int))) (lo + c) 0 = some lo := by simp only [bnd]; rw [if_pos ⟨by omega, by omega⟩]; simp
  have e : vSl3 1 (.slice a l.length k) (some (.int .i64 (lo : Int))) (some (.int .i64 ((lo : Int) + (c : Int)))) (some (.int .i64 ((lo : Int) + (c : Int)))) = some (.slice (if lo + c = lo then a else a.map (·.add (lo * 1))) (lo + c - lo) (lo + c - lo)) := by
    simp only [vSl3, e0, e1, e2]
  refine ⟨by unfold chV; rw [e]; rfl, ?_⟩
  unfold chV
  rw [e]
  show Sl enc H (.slice _ _ _) _
  have hl : ((l.drop lo).take c).length = c := by simp; omega
  refine ⟨_, _, by rw [hl]; congr 1; omega, by rw [hl]; omega, fun i hi' => ?_⟩
  rw [hl] at hi'
  obtain ⟨ad, rfl, hh⟩ := hr (lo + i) (by omega)
  rw [if_neg (by omega)]
  refine ⟨ad.add (lo * 1), rfl, ?_⟩
  have e4 : (ad.add (lo * 1)).add i = ad.add (lo + i) := by
    rw [Nat.mul_one]
    unfold Addr.add
    by_cases hx : lo = 0
    · rw [if_pos hx, hx, Nat.zero_add]
    · by_cases hy : i = 0
      · subst hy; simp
      · rw [if_neg hx, if_neg hy, if_neg (by omega)]; simp [Nat.add_assoc]
  rw [e4, hh]
  simp
theorem chV_isSl {α : Type} {enc : α → Value} {H : Hp} {v : Value} {l : List α} (h : Sl enc H v l) {lo c : Nat} (h1 : lo + c ≤ l.length) : (chV v lo c).cells = #[chV v lo c] := by
  obtain ⟨a, k, he, _⟩ := (chV_sl h h1).2
  rw [he]; rfl
end HL
/-- A row of a list. -/
def rowL (c : Nat) (l : List Int) (i : Nat) : List Int := (l.drop (i * c)).take c
theorem rowL_len {c r : Nat} {l : List Int} (hl : l.length = r * c) {i : Nat} (hi : i < r) : (rowL c l i).length = c := by
  unfold rowL
  have := Nat.mul_le_mul_right c (show i + 1 ≤ r by omega)
  rw [Nat.add_mul, Nat.one_mul] at this
  simp; omega
theorem C.slices_Chunk {vc : Value} {l : List Int} {n : Int} {H : Hp} {K : Value → Hp → Prop} (hv : Sl eI H vc l) (hn : 1 ≤ n)
    (hk : ∀ ps pn H', Cel H' ps [vc] → Cel H' pn [.int .i64 n] → Nw H ps → Nw H pn → Apart ps pn → Le H H' → K (.func (.func I.slices_Chunk_int64Zint64Z1) #[] #[ps, pn]) H') :
    HT prg I.slices_Chunk_int64Zint64 [vc, .int .i64 n].toArray H K := by
  refine R.slices_Chunk_int64Zint64 ?_
  unfold F.slices_Chunk_int64Zint64
  rw [hv.cells]
  refine nw_i (fun ps H2 ops nps le2 => ?_)
  refine nw_i (fun pn H4 opn npn le4 => ?_)
  refine ob_i (opn.ld0 rfl) ?_
  refine ob_i (vInt_lss _ _ _) ?_
  rw [decide_eq_false (show ¬ n < 1 by omega)]
  refine cnd_f1 ?_
  exact hk ps pn H4 (ops.le le4) opn nps (npn.le le2) (ops.apart npn) (le2.trans le4)
theorem C.slices_ChunkZ1 {yv ps pn vc : Value} {l : List Int} {c r : Nat} {H0 H : Hp} {K : Value → Hp → Prop} {J : Nat → Hp → Prop} {St : Hp → Prop} (hv : Sl eI H0 vc l) (hl : l.length = r * c) (c1 : 1 ≤ c) (c2 : c ≤ 1000000) (l2 : l.length ≤ 1000000)
    (hb : ∀ t A, J t A → Cel A ps [vc] ∧ Cel A pn [.int .i64 (c : Int)]) (h0 : J 0 H)
    (hst : ∀ t A (Z : Value → Hp → Prop), t < r → J t A → (∀ B, J (t + 1) B → Z (.bool true) B) → (∀ B, St B → Z (.bool false) B) → callV prg yv [chV vc (t * c) c] A Z)
    (hk : ∀ A, J r A → K (.tuple #[]) A) (hs : ∀ A, St A → K (.tuple #[]) A) :
    HT prg I.slices_Chunk_int64Zint64Z1 [yv, ps, pn].toArray H K := by
  refine R.slices_Chunk_int64Zint64Z1 ?_
  unfold F.slices_Chunk_int64Zint64Z1
  refine ⟨fun n σ H' => ∃ t : Nat, n = r - t ∧ t ≤ r ∧ σ 0 = yv ∧ σ 1 = ps ∧ σ 2 = pn ∧ σ 4 = .int .i64 ((t * c : Nat) : Int) ∧ J t H', ⟨_, 0, rfl, by omega, rfl, rfl, rfl, congrArg (Value.int .i64) (by simp), h0⟩, ?_⟩
  rintro n σ H1 ⟨t, rfl, ht, g0, g1, g2, g4, hJ⟩
  simp only [g0, g1, g2, g4]
  obtain ⟨ops, opn⟩ := hb t H1 hJ
  refine ob_i (ops.ld0 rfl) ?_
  refine ob_i hv.len ?_
  refine ob_i (vInt_lss _ _ _) ?_
  refine cnd_d (fun hlt => ?_) (fun hge => ?_)
  · have htr : t < r := Nat.lt_of_not_le fun hh => by
      have := Nat.mul_le_mul_right c hh
      omega
    have hm := Nat.mul_le_mul_right c (show t + 1 ≤ r by omega)
    rw [Nat.add_mul, Nat.one_mul] at hm
    refine ob_i (opn.ld0 rfl) ?_
    refine ob_i (ops.ld0 rfl) ?_
    obtain ⟨x, _, hx2, _, _, hx5, _⟩ := hv.cut (lo := ((t * c : Nat) : Int)) (hi := (l.length : Int)) (by omega) (by omega) (by omega)
    refine ob_i (hx2 rfl) ?_
    refine ob_i hx5.len ?_
    have hmin : vMx false (.int .i64 (c : Int)) [.int .i64 (((l.drop ((t * c : Nat) : Int).toNat).take ((l.length : Int).toNat - ((t * c : Nat) : Int).toNat)).length : Int)] = some (.int .i64 (c : Int)) := by
      simp only [vMx]
      rw [if_neg]
      rw [List.length_take, List.length_drop, Int.toNat_natCast, Int.toNat_natCast]
      omega
    refine ob_i hmin ?_
    refine ob_i (ops.ld0 rfl) ?_
    refine ob_i (vInt_add (by omega) (by omega)) ?_
    refine ob_i (vInt_add (by omega) (by omega)) ?_
    refine ob_i (chV_sl hv (lo := t * c) (c := c) (by omega)).1 ?_
    refine hst t H1 _ htr hJ (fun B hB => ?_) (fun B hB => ?_)
    · refine ob_i (a := .bool false) rfl ?_
      refine cnd_f1 ?_
      obtain ⟨ops, opn⟩ := hb _ B hB
      refine ob_i (opn.ld0 rfl) ?_
      refine ob_i (vInt_add (by omega) (by omega)) ?_
      exact nxt (r - (t + 1)) (by omega) ⟨t + 1, rfl, by omega, g0, g1, g2, congrArg (Value.int .i64) (by rw [Nat.add_mul, Nat.one_mul]; omega), hB⟩
    · refine ob_i (a := .bool true) rfl ?_
      refine cnd_t1 ?_
      exact hs B hB
  · obtain rfl : t = r := by
      have := Nat.le_antisymm ht (Nat.le_of_not_lt fun hh => by
        have hm := Nat.mul_le_mul_right c (show t + 1 ≤ r by omega)
        rw [Nat.add_mul, Nat.one_mul] at hm
        omega)
      exact this
    exact hk _ hJ
end Go.Proofs.YtialllbbbpmkbaaDoor
