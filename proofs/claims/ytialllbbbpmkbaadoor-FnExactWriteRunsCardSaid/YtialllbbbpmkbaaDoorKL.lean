/- Slices of fields that are compared, marked and held. -/
import Derived.Test.YtialllbbbpmkbaaDoorKF
import Derived.Test.YtialllbbbpmkbaaDoorSE
import Derived.Test.YtialllbbbpmkbaaDoorQH
namespace Go.Proofs.YtialllbbbpmkbaaDoor
open HL
set_option maxRecDepth 100000
namespace HL
theorem at_get {α : Type} (d : α) {l : List α} {i : Nat} (h : i < l.length) : at_ d l (i : Int) = l[i] := by
  unfold at_; rw [List.getD_eq_getElem?_getD, Int.toNat_natCast, List.getElem?_eq_getElem h]; rfl
/-- A write of one cell of an element. -/
theorem OwnE.stj {α : Type} {enc : α → List Value} {n : Nat} {H : Hp} {v : Value} {l : List α} (h : OwnE n enc H v l) (hn : ∀ x, (enc x).length = n) {i j : Nat} {x : Value} {y : α} {K : Hp → Prop} (hi : i < l.length) (hj : j < n) (hy : enc y = (enc l[i]).set j x)
    (h1 : oneCell x = true) (h2 : x.cells = #[x]) (hk : ∀ H', OwnE n enc H' v (l.set i y) → Off v H H' → K H') : st 1 (fp (ptrE n v (i : Int)) j) x H K := by
  have fl := flat_len hn l
  have fl2 := flat_len hn (l.set i y)
  rw [List.length_set] at fl2
  have hx := flat_ix (n := n) hi hj
  obtain ⟨a, c, rfl, hc, hr⟩ := h
  have hmul : l.length * n ≤ c * n := Nat.mul_le_mul_right n hc
  obtain ⟨b, off, cs, e, rfl, hb, hs, hcs⟩ := hr (by omega)
  have hpos : i * n + j < (l.flatMap enc).length := by omega
  simp only [HL.st, ptrE, fp, add_add, Int.toNat_natCast, h2, List.toList_toArray, List.size_toArray, List.length_singleton, true_and, stC]
  refine ⟨h1, ?_, ?_, ?_⟩
  · simp only [Hp.cell?, add_none, hb, Nat.add_zero, hcs _ hpos]; rfl
  · simp only [Hp.frozen?, add_none, hb]; simp
  · refine hk _ ⟨_, c, by simp, by simpa using hc, fun _ => ⟨b, off, cs.setIfInBounds (off + (i * n + j)) x, e, rfl, ?_, by simpa using hs, ?_⟩⟩ ?_
    · simp only [Hp.setCell, add_none, hb, Nat.add_zero, Hp.put_same]; rfl
    · intro t ht
      rw [fl2] at ht
      have h0 : 0 < n := by omega
      have hq : t / n < l.length := Nat.div_lt_of_lt_mul (by rw [Nat.mul_comm]; exact ht)
      have hm : t % n < n := Nat.mod_lt _ h0
      have et : t = t / n * n + t % n := by rw [Nat.mul_comm]; exact (Nat.div_add_mod t n).symm
      have g1 := flat_get hn l (t / n) (t % n) hq hm
      have g2 := flat_get hn (l.set i y) (t / n) (t % n) (by simpa using hq) hm
      rw [← et] at g1 g2
      rw [← List.getElem?_eq_getElem, g2, Array.getElem?_setIfInBounds, hcs t (by omega), ← List.getElem?_eq_getElem, g1]
      by_cases e1 : i = t / n
      · have e3 : (l.set i y)[t / n]'(by simpa using hq) = y := by simp [e1]
        rw [e3, hy]
        by_cases e2 : j = t % n
        · have e4 : i * n + j = t := by rw [e1, e2]; exact et.symm
          rw [if_pos (by omega), if_pos (by omega), ← e2, List.getElem?_set_self (by rw [hn]; exact hj)]
        · have : i * n + j ≠ t := by rw [e1]; omega
          have e5 : l[i] = l[t / n] := by simp only [e1]
          rw [if_neg (by omega), List.getElem?_set_ne e2, e5]
      · have e3 : (l.set i y)[t / n]'(by simpa using hq) = l[t / n] := List.getElem_set_ne e1 _
        have hne : i * n + j ≠ t := by
          intro h
          apply e1
          rw [← h, Nat.mul_comm, Nat.mul_add_div h0, Nat.div_eq_of_lt hj]; omega
        rw [e3, if_neg (by omega)]
    · intro x' o ho hv
      simp only [bk] at hv
      rw [if_neg (by omega)] at hv
      simp only [Hp.setCell, add_none, hb]
      rw [Hp.put_ne _ _ (by rintro rfl; exact hv rfl)]
      exact ho
/-- A new row of elements. -/
theorem bSE_i {α : Type} {enc : α → List Value} {n len : Nat} {z : Array Value} {e : TypeId} {parts : List (Nat × Value)} {l : List α} {H : Hp} {K : Value → Hp → Prop} (h1 : len * n ≤ 1000000) (hl : l.length = len) (hn : ∀ x, (enc x).length = n)
    (hf : Instr.fill (fun i => some (i * n, n)) (if len * n = 0 then #[] else zrow z (len * n)) parts = some (l.flatMap enc).toArray) (hk : ∀ v H', OwnE n enc H' v l → Nw H v → Le H H' → K v H') : bS n len z e parts H K := by
  refine ⟨by omega, ?_⟩
  rw [hf]
  intro r hr
  subst hl
  have fl := flat_len hn l
  refine hk _ _ ⟨some ⟨r, 0, none⟩, l.length, rfl, Nat.le_refl _, fun _ => ⟨r, 0, _, e, rfl, Hp.put_same _ _ _, by simp only [List.size_toArray]; omega, fun i hi => by simp [hi]⟩⟩ ?_ (Le.put _ hr)
  intro b hb
  simp only [bk] at hb
  split at hb
  · simp at hb
  · simp only [Option.some.injEq] at hb; subst hb; exact hr
/-- Fields that are read. -/
def FamS (H : Hp) (v : Value) (fs : List FdL) : Prop := ∃ L, SlE 3 encFv H v L ∧ RelF (Sl eI H) L fs
section
variable {H H' : Hp} {v : Value} {S : Rg} {fs : List FdL}
theorem Fam.sl (h : Fam H v S fs) : FamS H v fs := by
  obtain ⟨L, h1, h2, _⟩ := h
  exact ⟨L, h1.sl encFv_n, h2.imp (fun _ _ _ h => h.sl)⟩
theorem FamS.le (h : FamS H v fs) (hl : Le H H') : FamS H' v fs := by
  obtain ⟨L, h1, h2⟩ := h
  exact ⟨L, h1.le hl, h2.imp (fun _ _ _ h => h.le hl)⟩
theorem FamS.len (h : FamS H v fs) : vLenSl v = some (.int .i64 fs.length) := by
  obtain ⟨L, h1, h2⟩ := h
  rw [h1.len, h2.len]
theorem FamS.one (h : FamS H v fs) : oneCell v = true := by obtain ⟨L, h1, _⟩ := h; exact h1.one
theorem FamS.cells (h : FamS H v fs) : v.cells = #[v] := by obtain ⟨L, h1, _⟩ := h; exact h1.cells
theorem FamS.cast {gs : List FdL} (e : fs = gs) (h : FamS H v fs) : FamS H v gs := e ▸ h
theorem FamS.ix (h : FamS H v fs) {i : Int} (h0 : 0 ≤ i) (h1 : i < fs.length) : vIx 3 v (.int .i64 i) = some (ptrE 3 v i) := by
  obtain ⟨L, g1, g2⟩ := h
  exact g1.ix encFv_n (by omega) h0 (by rw [g2.len]; exact h1)
theorem FamS.at_ (h : FamS H v fs) {i : Nat} (h1 : i < fs.length) : ∃ x, vLoadN 3 (ptrE 3 v i) H = some (.agg #[.int .i64 (at_ fd0 fs (i : Int)).r, .int .i64 (at_ fd0 fs (i : Int)).c, x]) ∧ Sl eI H x (at_ fd0 fs (i : Int)).l ∧
    vLoad (fp (ptrE 3 v i) 0) H = some (.int .i64 (at_ fd0 fs (i : Int)).r) ∧ vLoad (fp (ptrE 3 v i) 1) H = some (.int .i64 (at_ fd0 fs (i : Int)).c) ∧ vLoad (fp (ptrE 3 v i) 2) H = some x ∧ vFa 0 (ptrE 3 v i) = some (fp (ptrE 3 v i) 0) ∧ vFa 1 (ptrE 3 v i) = some (fp (ptrE 3 v i) 1) ∧ vFa 2 (ptrE 3 v i) = some (fp (ptrE 3 v i) 2) := by
  obtain ⟨L, g1, g2⟩ := h
  have hi : (i : Int) < L.length := by rw [g2.len]; omega
  obtain ⟨e1, e2, e3⟩ := g2.get (i := i) (by omega)
  have e := g1.ldn encFv_n (by omega) fv0 (i := (i : Int)) (by omega) hi
  refine ⟨_, ?_, e3, ?_, ?_, ?_, g1.fa encFv_n (by omega) (by omega) hi 0, g1.fa encFv_n (by omega) (by omega) hi 1, g1.fa encFv_n (by omega) (by omega) hi 2⟩
  · rw [e]; simp only [encFv, e1, e2]
  · rw [g1.ld encFv_n (by omega) fv0 (by omega) hi (k := 0) (by omega) rfl, e1]
  · rw [g1.ld encFv_n (by omega) fv0 (by omega) hi (k := 1) (by omega) rfl, e2]
  · exact g1.ld encFv_n (by omega) fv0 (by omega) hi (k := 2) (by omega) rfl
theorem FamS.at0 (h : FamS H v fs) {i : Nat} (h1 : i < fs.length) : ∃ x, (∀ H', Le H H' → vLoadN 3 (ptrE 3 v i) H' = some (.agg #[.int .i64 (HL.at_ fd0 fs (i : Int)).r, .int .i64 (HL.at_ fd0 fs (i : Int)).c, x])) ∧ Sl eI H x (HL.at_ fd0 fs (i : Int)).l := by
  obtain ⟨L, g1, g2⟩ := h
  have hi : (i : Int) < L.length := by rw [g2.len]; omega
  obtain ⟨e1, e2, e3⟩ := g2.get (i := i) (by omega)
  refine ⟨_, fun H' le => ?_, e3⟩
  rw [(g1.le le).ldn encFv_n (by omega) fv0 (by omega) hi]
  simp only [encFv, e1, e2]
theorem RelF.set : ∀ {P : Value → List Int → Prop} {L : List Fv} {fs : List FdL} {i : Nat} {x : Fv} {f : FdL}, RelF P L fs → (x.r = f.r ∧ x.c = f.c ∧ P x.v f.l) → RelF P (L.set i x) (fs.set i f)
  | P, [], [], i, x, f, _, _ => trivial
  | P, y :: L, g :: fs, 0, x, f, h, hx => ⟨hx, h.2⟩
  | P, y :: L, g :: fs, i + 1, x, f, h, hx => ⟨h.1, RelF.set h.2 hx⟩
  | _, [], _ :: _, _, _, _, h, _ => h.elim
  | _, _ :: _, [], _, _, _, h, _ => h.elim
theorem RelF.gete {P : Value → List Int → Prop} {L : List Fv} {fs : List FdL} {i : Nat} (h : RelF P L fs) (h1 : i < L.length) (h2 : i < fs.length) : L[i].r = fs[i].r ∧ L[i].c = fs[i].c ∧ P L[i].v fs[i].l := by
  have := h.get h1
  rw [at_get fv0 h1, at_get fd0 h2] at this
  exact this
theorem Fam.setr {L : List Fv} {i : Nat} {x : Fv} (hi : i < L.length) (hx : x.v = L[i].v) : (∀ y ∈ L.set i x, ∃ z ∈ L, y.v = z.v) ∧ (∀ z ∈ L, ∃ y ∈ L.set i x, y.v = z.v) := by
  constructor
  · intro y hy
    rcases List.mem_or_eq_of_mem_set hy with h | rfl
    · exact ⟨y, h, rfl⟩
    · exact ⟨L[i], List.getElem_mem hi, hx⟩
  · intro z hz
    obtain ⟨j, hj, rfl⟩ := List.mem_iff_getElem.mp hz
    by_cases e : i = j
    · subst e; exact ⟨x, List.mem_iff_getElem.mpr ⟨i, by simpa using hi, by simp⟩, hx⟩
    · exact ⟨L[j], List.mem_iff_getElem.mpr ⟨j, by simpa using hj, List.getElem_set_ne e _⟩, rfl⟩
theorem Fam.pwr {L : List Fv} {i : Nat} {x : Fv} (hi : i < L.length) (hx : x.v = L[i].v) (h : L.Pairwise (fun x y => Apart x.v y.v)) : (L.set i x).Pairwise (fun x y => Apart x.v y.v) := by
  have e : (L.set i x).map Fv.v = L.map Fv.v := by
    rw [List.map_set, hx]
    apply List.ext_getElem (by simp)
    intro j h1 h2
    by_cases e : i = j
    · subst e; simp
    · rw [List.getElem_set_ne e]
  have h2 : (L.map Fv.v).Pairwise Apart := List.pairwise_map.mpr h
  rw [← e] at h2
  exact List.pairwise_map.mp h2
/-- Rows or columns written. -/
theorem Fam.sti (h : Fam H v S fs) {i j : Nat} {t : Int} {K : Hp → Prop} (hi : i < fs.length) (hj : j < 2)
    (hk : ∀ H', Fam H' v S (fs.set i (if j = 0 then ⟨t, fs[i].c, fs[i].l⟩ else ⟨fs[i].r, t, fs[i].l⟩)) → OffS S H H' → K H') : st 1 (fp (ptrE 3 v (i : Int)) j) (.int .i64 t) H K := by
  obtain ⟨L, h1, h2, h3, h4, h5⟩ := h
  have hi' : i < L.length := by rw [h2.len]; exact hi
  have g := h2.gete hi' hi
  obtain ⟨y, ey⟩ : ∃ y : Fv, y = (if j = 0 then ⟨t, L[i].c, L[i].v⟩ else ⟨L[i].r, t, L[i].v⟩) := ⟨_, rfl⟩
  have hyv : y.v = L[i].v := by rw [ey]; split <;> rfl
  have s1 := Fam.setr hi' hyv
  refine h1.stj encFv_n (y := y) hi' (by omega) ?_ rfl rfl (fun H' o off => ?_)
  · rw [ey]
    rcases (by omega : j = 0 ∨ j = 1) with rfl | rfl <;> rfl
  · refine hk H' ⟨_, o, ?_, ?_, Fam.pwr hi' hyv h4, fun b => ?_⟩ (fun b o hb hn => off b o hb (fun e => hn ((h5 b).mpr (.inl e))))
    · refine RelF.set (h2.imp (fun x hx _ h => h.off off (h3 x hx).symm)) ?_
      have g3 := g.2.2.off off (h3 _ (List.getElem_mem hi')).symm
      rw [ey]
      split
      · exact ⟨rfl, g.2.1, g3⟩
      · exact ⟨g.1, rfl, g3⟩
    · intro x hx
      obtain ⟨z, hz, e⟩ := s1.1 x hx
      rw [e]; exact h3 z hz
    · rw [h5 b]
      constructor
      · rintro (h | ⟨z, hz, e⟩)
        · exact .inl h
        · obtain ⟨x, hx, e2⟩ := s1.2 z hz
          exact .inr ⟨x, hx, by rw [e2]; exact e⟩
      · rintro (h | ⟨x, hx, e⟩)
        · exact .inl h
        · obtain ⟨z, hz, e2⟩ := s1.1 x hx
          exact .inr ⟨z, hz, by rw [← e2]; exact e⟩
/-- The cells of one of them, and what is put back. -/
theorem Fam.cut (h : Fam H v S fs) {i : Nat} (hi : i < fs.length) : ∃ x, vLoad (fp (ptrE 3 v (i : Int)) 2) H = some x ∧ Own eI H x fs[i].l ∧ ∀ H' m, Own eI H' x m → Off x H H' → Fam H' v S (fs.set i ⟨fs[i].r, fs[i].c, m⟩) ∧ OffS S H H' := by
  obtain ⟨L, h1, h2, h3, h4, h5⟩ := h
  have hi' : i < L.length := by rw [h2.len]; exact hi
  have g := h2.gete hi' hi
  have hx : ∀ b, bk L[i].v = some b → S b := fun b hb => (h5 b).mpr (.inr ⟨_, List.getElem_mem hi', hb⟩)
  refine ⟨L[i].v, ?_, g.2.2, fun H' m om off => ⟨⟨L, h1.off off (h3 _ (List.getElem_mem hi')), ?_, h3, h4, h5⟩, fun b o hb hn => off b o hb (fun e => hn (hx b e))⟩⟩
  · have := (h1.sl encFv_n).ld encFv_n (by omega) fv0 (i := (i : Int)) (by omega) (by omega) (k := 2) (by omega) (x := L[i].v) (by rw [at_get fv0 hi']; rfl)
    exact this
  · have key : ∀ (L : List Fv) (fs : List FdL) (i : Nat) (hi : i < L.length) (hi2 : i < fs.length), RelF (Own eI H) L fs → L.Pairwise (fun x y => Apart x.v y.v) → Off L[i].v H H' → Own eI H' L[i].v m → RelF (Own eI H') L (fs.set i ⟨fs[i].r, fs[i].c, m⟩) := by
      intro L
      induction L with
      | nil => intro fs i hi; simp at hi
      | cons x L ih =>
        intro fs i hi hi2 hr hp hoff ho
        cases fs with
        | nil => simp at hi2
        | cons f fs =>
          rw [List.pairwise_cons] at hp
          cases i with
          | zero =>
            refine ⟨⟨hr.1.1, hr.1.2.1, ho⟩, hr.2.imp (fun y hy _ h => h.off hoff (fun b e1 e2 => hp.1 y hy b e2 e1))⟩
          | succ i =>
            have hi3 : i < L.length := by simpa using hi
            refine ⟨⟨hr.1.1, hr.1.2.1, hr.1.2.2.off hoff (hp.1 _ (List.getElem_mem hi3))⟩, ih fs i hi3 (by simpa using hi2) hr.2 hp.2 hoff ho⟩
    exact key L fs i hi' hi h2 h4 off om
end
/-- How many cells fields have, and marks. -/
def fsz : List FdL → Nat
  | [] => 0
  | f :: fs => 2 + f.l.length + fsz fs
def markF (k : Int) : List FdL → List FdL
  | [] => []
  | f :: fs => ⟨k, k + 1, ramp (k + 2) f.l.length⟩ :: markF (k + (2 + f.l.length : Nat)) fs
theorem fsz_take : ∀ (fs : List FdL) {i : Nat} (h : i < fs.length), fsz (fs.take (i + 1)) = fsz (fs.take i) + (2 + fs[i].l.length)
  | f :: fs, 0, _ => by simp [fsz]
  | f :: fs, i + 1, h => by
    simp only [List.take_succ_cons, fsz, List.getElem_cons_succ]
    rw [fsz_take fs (by simpa using h)]; omega
theorem fsz_le : ∀ (fs : List FdL) (i : Nat), fsz (fs.take i) ≤ fsz fs
  | [], i => by simp
  | f :: fs, 0 => by simp [fsz]
  | f :: fs, i + 1 => by simp only [List.take_succ_cons, fsz]; have := fsz_le fs i; omega
theorem markF_len : ∀ (k : Int) (fs : List FdL), (markF k fs).length = fs.length
  | _, [] => rfl
  | k, f :: fs => congrArg (· + 1) (markF_len _ fs)
theorem markF_get : ∀ (k : Int) (fs : List FdL) {i : Nat} (h : i < fs.length), (markF k fs)[i]'(by rw [markF_len]; exact h) = ⟨k + fsz (fs.take i), k + fsz (fs.take i) + 1, ramp (k + fsz (fs.take i) + 2) fs[i].l.length⟩
  | k, f :: fs, 0, _ => by simp [markF, fsz]
  | k, f :: fs, i + 1, h => by
    simp only [markF, List.getElem_cons_succ, List.take_succ_cons, fsz]
    rw [markF_get _ fs (by simpa using h)]
    have e : k + ((2 + f.l.length : Nat) : Int) + (fsz (fs.take i) : Int) = k + ((2 + f.l.length + fsz (fs.take i) : Nat) : Int) := by omega
    rw [e]
/-- Marked up to a place. -/
def mkTo (k : Int) (fs : List FdL) (i : Nat) : List FdL := (markF k fs).take i ++ fs.drop i
theorem mkTo_len (k : Int) (fs : List FdL) {i : Nat} (h : i ≤ fs.length) : (mkTo k fs i).length = fs.length := by simp [mkTo, markF_len]; omega
theorem mkTo_get (k : Int) (fs : List FdL) {i : Nat} (h : i < fs.length) : (mkTo k fs i)[i]'(by rw [mkTo_len k fs (by omega)]; exact h) = fs[i] := by
  unfold mkTo
  rw [List.getElem_append_right (by simp [markF_len]; omega)]
  simp [markF_len, Nat.min_eq_left (Nat.le_of_lt h)]
theorem mkTo_set (k : Int) (fs : List FdL) {i : Nat} (h : i < fs.length) : (mkTo k fs i).set i ⟨k + fsz (fs.take i), k + fsz (fs.take i) + 1, ramp (k + fsz (fs.take i) + 2) fs[i].l.length⟩ = mkTo k fs (i + 1) := by
  unfold mkTo
  have e : ((markF k fs).take i).length = i := by simp [markF_len]; omega
  rw [List.set_append_right _ _ (by omega), List.take_succ_eq_append_getElem (by rw [markF_len]; exact h), markF_get k fs h, e, Nat.sub_self, List.append_assoc, List.singleton_append]
  congr 1
  conv => lhs; rw [List.drop_eq_getElem_cons h]
  rfl
end HL
end Go.Proofs.YtialllbbbpmkbaaDoor
