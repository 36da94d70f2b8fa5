/- Several texts in one. -/
import Derived.Test.YtijmoehbgkibnaaDoorMReadRuns0
import Derived.Shelf.Strings.IndexAny
import Derived.Lib.OthersKept
import Derived.Shelf.Small.Utf8
import Derived.Laws.Runes
import Derived.WalkMore
import Derived.Shelf.RegionOpenPlain
set_option linter.unusedVariables false
/- What the small functions of structs come to: copies, sizes, what is alike. -/
namespace Go.Proofs.YtijmoehbgkibnaaDoor
open HL
set_option maxRecDepth 100000
theorem C.laws_eqField {xa : Int} {xb : Int} {xc : Value} {sxc : List Int} {yc : Value} {H : Hp} {K : Value → Hp → Prop} (hxc0 : Sl eI H xc sxc) (hyc0 : Sl eI H yc sxc) (msxc : (sxc).length ≤ 9223372036854775807)
    (hk : ∀ H', Le H H' → K (.bool true) H') : HT prg I.laws_eqField [(.agg #[(.int .i64 (xa)), (.int .i64 (xb)), xc]), (.agg #[(.int .i64 (xa)), (.int .i64 (xb)), yc])].toArray H K := by
 have lE := Le.refl H
 have hxc := hxc0
 have hyc := hyc0
 refine R.laws_eqField ?_
 unfold F.laws_eqField
 refine nw_i (fun p1 H2 op1 nn3 le4 => ?_)
 replace hxc := hxc.le le4
 replace hyc := hyc.le le4
 replace lE := lE.trans le4
 replace op1 : Cel H2 p1 [(.int .i64 (xa)), (.int .i64 (xb)), xc] := op1
 refine nw_i (fun p5 H6 op5 nn7 le8 => ?_)
 replace op1 := op1.le le8
 replace hxc := hxc.le le8
 replace hyc := hyc.le le8
 replace lE := lE.trans le8
 replace op5 : Cel H6 p5 [(.int .i64 (xa)), (.int .i64 (xb)), yc] := op5
 refine ob_i (op1.fa 0) ?_
 refine ob_i (op1.ld 0 rfl) ?_
 refine ob_i (op5.fa 0) ?_
 refine ob_i (op5.ld 0 rfl) ?_
 refine ob_i (vInt_neq_same _ _) ?_
 refine cnd_f1 ?_
 refine ob_i (op1.fa 1) ?_
 refine ob_i (op1.ld 1 rfl) ?_
 refine ob_i (op5.fa 1) ?_
 refine ob_i (op5.ld 1 rfl) ?_
 refine ob_i (vInt_neq_same _ _) ?_
 refine cnd_f1 ?_
 refine ob_i (op1.fa 2) ?_
 refine ob_i (op1.ld 2 rfl) ?_
 refine ob_i (op5.fa 2) ?_
 refine ob_i (op5.ld 2 rfl) ?_
 refine C.laws_eqInt64S hxc hyc (by omega) ?_
 rw [decide_eq_true rfl]
 refine ob_i (a := .bool false) rfl ?_
 refine cnd_f1 ?_
 exact hk _ lE
end Go.Proofs.YtijmoehbgkibnaaDoor
/- Slices of fields that are compared, marked and held. -/
namespace Go.Proofs.YtijmoehbgkibnaaDoor
open HL
set_option maxRecDepth 100000
namespace HL
theorem at_get {α : Type} (d : α) {l : List α} {i : Nat} (h : i < l.length) : at_ d l (i : Int) = l[i] := by
  unfold at_; rw [List.getD_eq_getElem?_getD, Int.toNat_natCast, List.getElem?_eq_getElem h]; rfl
/-- Fields that are read. -/
def FamS (H : Hp) (v : Value) (fs : List FdL) : Prop := ∃ L, SlE 3 encFv H v L ∧ RelF (Sl eI H) L fs
section
variable {H H' : Hp} {v : Value} {S : Rg} {fs : List FdL}
theorem Fam.sl (h : Fam H v S fs) : FamS H v fs := by
  obtain ⟨L, h1, h2, _⟩ := h
  exact ⟨L, h1.sl encFv_n, h2.imp (fun _ _ _ h => h.sl)⟩
theorem FamS.le (h : FamS H v fs) (hl : Le H H') : FamS H' v fs := by
  obtain ⟨L, h1, h2⟩ := h
  exact ⟨L, h1.le hl, h2.imp (fun _ _ _ h => h.le hl)⟩
theorem FamS.len (h : FamS H v fs) : vLenSl v = some (.int .i64 fs.length) := by
  obtain ⟨L, h1, h2⟩ := h
  rw [h1.len, h2.len]
theorem FamS.one (h : FamS H v fs) : oneCell v = true := by obtain ⟨L, h1, _⟩ := h; exact h1.one
theorem FamS.cells (h : FamS H v fs) : v.cells = #[v] := by obtain ⟨L, h1, _⟩ := h; exact h1.cells
theorem FamS.cast {gs : List FdL} (e : fs = gs) (h : FamS H v fs) : FamS H v gs := e ▸ h
theorem FamS.ix (h : FamS H v fs) {i : Int} (h0 : 0 ≤ i) (h1 : i < fs.length) : vIx 3 v (.int .i64 i) = some (ptrE 3 v i) := by
  obtain ⟨L, g1, g2⟩ := h
  exact g1.ix encFv_n (by omega) h0 (by rw [g2.len]; exact h1)
theorem FamS.at_ (h : FamS H v fs) {i : Nat} (h1 : i < fs.length) : ∃ x, vLoadN 3 (ptrE 3 v i) H = some (.agg #[.int .i64 (at_ fd0 fs (i : Int)).r, .int .i64 (at_ fd0 fs (i : Int)).c, x]) ∧ Sl eI H x (at_ fd0 fs (i : Int)).l ∧
    vLoad (fp (ptrE 3 v i) 0) H = some (.int .i64 (at_ fd0 fs (i : Int)).r) ∧ vLoad (fp (ptrE 3 v i) 1) H = some (.int .i64 (at_ fd0 fs (i : Int)).c) ∧ vLoad (fp (ptrE 3 v i) 2) H = some x ∧ vFa 0 (ptrE 3 v i) = some (fp (ptrE 3 v i) 0) ∧ vFa 1 (ptrE 3 v i) = some (fp (ptrE 3 v i) 1) ∧ vFa 2 (ptrE 3 v i) = some (fp (ptrE 3 v i) 2) := by
  obtain ⟨L, g1, g2⟩ := h
  have hi : (i : Int) < L.length := by rw [g2.len]; omega
  obtain ⟨e1, e2, e3⟩ := g2.get (i := i) (by omega)
  have e := g1.ldn encFv_n (by omega) fv0 (i := (i : Int)) (by omega) hi
  refine ⟨_, ?_, e3, ?_, ?_, ?_, g1.fa encFv_n (by omega) (by omega) hi 0, g1.fa encFv_n (by omega) (by omega) hi 1, g1.fa encFv_n (by omega) (by omega) hi 2⟩
  · rw [e]; simp only [encFv, e1, e2]
  · rw [g1.ld encFv_n (by omega) fv0 (by omega) hi (k := 0) (by omega) rfl, e1]
  · rw [g1.ld encFv_n (by omega) fv0 (by omega) hi (k := 1) (by omega) rfl, e2]
  · exact g1.ld encFv_n (by omega) fv0 (by omega) hi (k := 2) (by omega) rfl
theorem RelF.set : ∀ {P : Value → List Int → Prop} {L : List Fv} {fs : List FdL} {i : Nat} {x : Fv} {f : FdL}, RelF P L fs → (x.r = f.r ∧ x.c = f.c ∧ P x.v f.l) → RelF P (L.set i x) (fs.set i f)
  | P, [], [], i, x, f, _, _ => trivial
  | P, y :: L, g :: fs, 0, x, f, h, hx => ⟨hx, h.2⟩
  | P, y :: L, g :: fs, i + 1, x, f, h, hx => ⟨h.1, RelF.set h.2 hx⟩
  | _, [], _ :: _, _, _, _, h, _ => h.elim
  | _, _ :: _, [], _, _, _, h, _ => h.elim
theorem RelF.gete {P : Value → List Int → Prop} {L : List Fv} {fs : List FdL} {i : Nat} (h : RelF P L fs) (h1 : i < L.length) (h2 : i < fs.length) : L[i].r = fs[i].r ∧ L[i].c = fs[i].c ∧ P L[i].v fs[i].l := by
  have := h.get h1
  rw [at_get fv0 h1, at_get fd0 h2] at this
  exact this
/-- The cells of one of them, and what is put back. -/
theorem Fam.cut (h : Fam H v S fs) {i : Nat} (hi : i < fs.length) : ∃ x, vLoad (fp (ptrE 3 v (i : Int)) 2) H = some x ∧ Own eI H x fs[i].l ∧ ∀ H' m, Own eI H' x m → Off x H H' → Fam H' v S (fs.set i ⟨fs[i].r, fs[i].c, m⟩) ∧ OffS S H H' := by
  obtain ⟨L, h1, h2, h3, h4, h5⟩ := h
  have hi' : i < L.length := by rw [h2.len]; exact hi
  have g := h2.gete hi' hi
  have hx : ∀ b, bk L[i].v = some b → S b := fun b hb => (h5 b).mpr (.inr ⟨_, List.getElem_mem hi', hb⟩)
  refine ⟨L[i].v, ?_, g.2.2, fun H' m om off => ⟨⟨L, h1.off off (h3 _ (List.getElem_mem hi')), ?_, h3, h4, h5⟩, fun b o hb hn => off b o hb (fun e => hn (hx b e))⟩⟩
  · have := (h1.sl encFv_n).ld encFv_n (by omega) fv0 (i := (i : Int)) (by omega) (by omega) (k := 2) (by omega) (x := L[i].v) (by rw [at_get fv0 hi']; rfl)
    exact this
  · have key : ∀ (L : List Fv) (fs : List FdL) (i : Nat) (hi : i < L.length) (hi2 : i < fs.length), RelF (Own eI H) L fs → L.Pairwise (fun x y => Apart x.v y.v) → Off L[i].v H H' → Own eI H' L[i].v m → RelF (Own eI H') L (fs.set i ⟨fs[i].r, fs[i].c, m⟩) := by
      intro L
      induction L with
      | nil => intro fs i hi; simp at hi
      | cons x L ih =>
        intro fs i hi hi2 hr hp hoff ho
        cases fs with
        | nil => simp at hi2
        | cons f fs =>
          rw [List.pairwise_cons] at hp
          cases i with
          | zero =>
            refine ⟨⟨hr.1.1, hr.1.2.1, ho⟩, hr.2.imp (fun y hy _ h => h.off hoff (fun b e1 e2 => hp.1 y hy b e2 e1))⟩
          | succ i =>
            have hi3 : i < L.length := by simpa using hi
            refine ⟨⟨hr.1.1, hr.1.2.1, hr.1.2.2.off hoff (hp.1 _ (List.getElem_mem hi3))⟩, ih fs i hi3 (by simpa using hi2) hr.2 hp.2 hoff ho⟩
    exact key L fs i hi' hi h2 h4 off om
end
end HL
end Go.Proofs.YtijmoehbgkibnaaDoor
/- Pointers that are only read; elements of a family; texts as keys. -/
namespace Go.Proofs.YtijmoehbgkibnaaDoor
open HL
set_option maxRecDepth 100000
namespace HL
/-- A pointer to cells that are read. -/
def CelR (H : Hp) (p : Value) (cs : List Value) : Prop := ∃ a, p = .pointer (some a) ∧ (∃ o, H a.block = some o) ∧ ∀ i (h : i < cs.length), H.cell? (a.add i) = some cs[i]
section
variable {H H' : Hp} {p u v : Value} {cs : List Value}
theorem Cel.r (h : Cel H p cs) : CelR H p cs := by
  obtain ⟨r, e, rfl, hr⟩ := h
  refine ⟨_, rfl, ⟨_, hr⟩, fun i hi => ?_⟩
  simp only [add_none, Hp.cell?, hr, Nat.zero_add]
  simp [hi]
theorem CelR.known (h : CelR H p cs) : ∀ b, bk p = some b → ∃ o, H b = some o := by
  obtain ⟨a, rfl, ho, _⟩ := h
  intro b hb
  simp only [bk, Option.some.injEq] at hb
  subst hb; exact ho
theorem CelR.le (h : CelR H p cs) (hl : Le H H') : CelR H' p cs := by
  obtain ⟨a, rfl, ⟨o, ho⟩, hc⟩ := h
  exact ⟨a, rfl, ⟨o, hl _ _ ho⟩, fun i hi => hl.cell (hc i hi)⟩
theorem CelR.keep (h : CelR H p cs) (hk : ∀ b, bk p = some b → H' b = H b) : CelR H' p cs := by
  obtain ⟨a, rfl, ⟨o, ho⟩, hc⟩ := h
  have e := hk a.block rfl
  refine ⟨a, rfl, ⟨o, by rw [e]; exact ho⟩, fun i hi => ?_⟩
  have := hc i hi
  unfold Hp.cell? at this ⊢
  rw [add_block] at this ⊢
  rw [e]; exact this
theorem CelR.off (h : CelR H p cs) (ho : Off v H H') (ha : Apart p v) : CelR H' p cs := h.keep fun b hb => by
  obtain ⟨o, hh⟩ := h.known b hb
  rw [ho b o hh (ha b hb), hh]
theorem CelR.apart (h : CelR H p cs) (hn : Nw H v) : Apart p v := Apart.of_nw h.known hn
theorem CelR.fa (h : CelR H p cs) (k : Nat) : vFa k p = some (fp p k) := by
  obtain ⟨a, rfl, _⟩ := h; rfl
theorem CelR.nilC (h : CelR H p cs) : vNilC p = some p := by
  obtain ⟨a, rfl, _⟩ := h; rfl
theorem CelR.ld (h : CelR H p cs) (k : Nat) {x : Value} (hx : cs[k]? = some x) : vLoad (fp p k) H = some x := by
  obtain ⟨a, rfl, _, hc⟩ := h
  obtain ⟨hk, rfl⟩ := List.getElem?_eq_some_iff.mp hx
  exact hc k hk
theorem CelR.ld0 (h : CelR H p cs) {x : Value} (hx : cs[0]? = some x) : vLoad p H = some x := by
  obtain ⟨a, rfl, _, hc⟩ := h
  obtain ⟨hk, rfl⟩ := List.getElem?_eq_some_iff.mp hx
  have := hc 0 hk
  rw [show a.add 0 = a by unfold Addr.add; simp] at this
  exact this
theorem CelR.ldn (h : CelR H p cs) {n : Nat} (hn : cs.length = n) : vLoadN n p H = some (.agg cs.toArray) := by
  obtain ⟨a, rfl, _, hc⟩ := h
  simp only [vLoadN]
  rw [rd_cells (enc := id) a n 0 cs hn (fun i hi => by rw [Nat.zero_add]; exact hc i hi)]
  simp
theorem CelR.cast {ds : List Value} (e : cs = ds) (h : CelR H p cs) : CelR H p ds := e ▸ h
end
theorem Apt.ap2 {α : Type} [Bks α] {z : α} {u u' : Value} {H : Hp} (hz : Kn H z) (ha : Apt z u) (hb : ∀ b, bk u' = some b → bk u = some b ∨ H b = none) : Apt z u' := fun b h1 h2 => by
  rcases hb b h2 with h | h
  · exact ha b h1 h
  · obtain ⟨o, ho⟩ := hz b h1
    rw [h] at ho; simp at ho
theorem Mp.cast {H : Hp} {p : Value} {S : Rg} {ms ns : List (ByteArray × Int)} (e : ms = ns) (h : Mp H p S ms) : Mp H p S ns := e ▸ h
def cvBS (P : Program) (s d : TypeId) : Bool := match P.underlying s, P.underlying d with
  | some (.slice e), some .string => (match P.underlying e with | some (.int .u8) => true | _ => false)
  | _, _ => false
theorem val_convBS {P : Program} {s d : TypeId} {H : Hp} {v : Value} {l : List Int} (h : cvBS P s d = true) (hs : Sl eU H v l) : val P (convert s d v) H = some (.string (bytesS .empty l)) := by
  unfold cvBS at h
  split at h
  · rename_i e h1 h2
    split at h
    · rename_i h3
      have hv := val_bytesToString (P := P) hs
      obtain ⟨a, n, c, rfl⟩ := hs.isSl
      unfold convert
      rw [val_bind', val_underlying, h1, Option.bind_some, val_bind', val_underlying, h2, Option.bind_some]
      simp only
      rw [val_bind', val_underlying, h3, Option.bind_some]
      exact hv
    · simp at h
  · simp at h
theorem vCI_u8 {k : IntKind} {a : Int} (h : 0 ≤ a) (h' : a ≤ 255) : vCI .u8 (.int k a) = some (.int .u8 a) := by
  have : IntKind.u8.wrap a = a := by unfold IntKind.wrap; simp [IntKind.signed, IntKind.bits]; omega
  simp only [vCI, this]
end HL
end Go.Proofs.YtijmoehbgkibnaaDoor
/- Texts: bytes turned to texts, small numbers, the rows of a field. -/
namespace Go.Proofs.YtijmoehbgkibnaaDoor
open HL
set_option maxRecDepth 100000
namespace HL
def btT (l : List Int) : List UInt8 := l.map fun n => UInt8.ofNat n.toNat
theorem val_convT {P : Program} {s d : TypeId} {H : Hp} {v : Value} {l : List Int} (h : cvBS P s d = true) (hs : Sl eU H v l) : val P (convert s d v) H = some (vS (btT l)) := by
  rw [val_convBS h hs, tS_of (bytesS .empty l), bytesS_data]
  rfl
theorem Cel.castX {H : Hp} {p : Value} {cs ds : List Value} (e : cs = ds) (h : Cel H p cs) : Cel H p ds := e ▸ h
end HL
def digT : List UInt8 := [48, 49, 50, 51, 52, 53, 54, 55, 56, 57, 97, 98, 99, 100, 101, 102, 103, 104, 105, 106, 107, 108, 109, 110, 111, 112, 113, 114, 115, 116, 117, 118, 119, 120, 121, 122]
def dig2T : List UInt8 := [48, 48, 48, 49, 48, 50, 48, 51, 48, 52, 48, 53, 48, 54, 48, 55, 48, 56, 48, 57, 49, 48, 49, 49, 49, 50, 49, 51, 49, 52, 49, 53, 49, 54, 49, 55, 49, 56, 49, 57, 50, 48, 50, 49, 50, 50, 50, 51, 50, 52, 50, 53, 50, 54, 50, 55, 50, 56, 50, 57, 51, 48, 51, 49, 51, 50, 51, 51, 51, 52, 51, 53, 51, 54, 51, 55, 51, 56, 51, 57, 52, 48, 52, 49, 52, 50, 52, 51, 52, 52, 52, 53, 52, 54, 52, 55, 52, 56, 52, 57, 53, 48, 53, 49, 53, 50, 53, 51, 53, 52, 53, 53, 53, 54, 53, 55, 53, 56, 53, 57, 54, 48, 54, 49, 54, 50, 54, 51, 54, 52, 54, 53, 54, 54, 54, 55, 54, 56, 54, 57, 55, 48, 55, 49, 55, 50, 55, 51, 55, 52, 55, 53, 55, 54, 55, 55, 55, 56, 55, 57, 56, 48, 56, 49, 56, 50, 56, 51, 56, 52, 56, 53, 56, 54, 56, 55, 56, 56, 56, 57, 57, 48, 57, 49, 57, 50, 57, 51, 57, 52, 57, 53, 57, 54, 57, 55, 57, 56, 57, 57]
theorem dig_one : ∀ n : Nat, n < 10 → (digT.drop n).take (n + 1 - n) = decT n := by decide +kernel
theorem dig_two : ∀ n : Nat, n < 100 → 10 ≤ n → (dig2T.drop (n * 2)).take (n * 2 + 2 - n * 2) = decT n := by decide +kernel
theorem small_one {n : Int} (h0 : 0 ≤ n) (h1 : n < 10) : (digT.drop n.toNat).take ((n + 1).toNat - n.toNat) = decT n.toNat := by
  have := dig_one n.toNat (by omega)
  rw [show (n + 1).toNat = n.toNat + 1 by omega]; exact this
theorem small_two {n : Int} (h0 : 10 ≤ n) (h1 : n < 100) : (dig2T.drop (n * 2).toNat).take ((n * 2 + 2).toNat - (n * 2).toNat) = decT n.toNat := by
  have := dig_two n.toNat (by omega) (by omega)
  rw [show (n * 2 + 2).toNat = n.toNat * 2 + 2 by omega, show (n * 2).toNat = n.toNat * 2 by omega]; exact this
theorem num_one {n : Int} (h0 : 0 ≤ n) (h1 : n < 10) : btT [48 + n] = decT n.toNat := by
  unfold btT decT
  rw [if_pos (by omega)]
  simp only [List.map_cons, List.map_nil]
  rw [show (48 + n).toNat = 48 + n.toNat by omega]
theorem num_two {n : Int} (h0 : 10 ≤ n) (h1 : n < 100) : decT (n / 10).toNat ++ btT [48 + n % 10] = decT n.toNat := by
  unfold btT decT
  rw [if_pos (by omega), if_neg (by omega)]
  simp only [List.map_cons, List.map_nil, List.singleton_append]
  rw [show (48 + n % 10).toNat = 48 + n.toNat % 10 by omega, show (n / 10).toNat = n.toNat / 10 by omega]
theorem bo_T {x : Int} (h0 : 0 ≤ x) (h1 : x ≤ 1) : (([98, 111] : List UInt8).drop x.toNat).take ((x + 1).toNat - x.toNat) = [chT x] := by
  rcases show x = 0 ∨ x = 1 by omega with rfl | rfl <;> rfl
theorem chT_1 {x : Int} (h : x = 1) : ([111] : List UInt8) = [chT x] := by subst h; rfl
theorem chT_0 {x : Int} (h : ¬ x = 1) : ([98] : List UInt8) = [chT x] := by unfold chT; rw [if_neg h]
/-- The rows' texts. -/
def rowsT (c : Nat) (l : List Int) (n : Nat) : List (List UInt8) := (List.range n).map fun i => rtx (rowL c l i)
theorem rowsT_len {c : Nat} {l : List Int} {n : Nat} : (rowsT c l n).length = n := by simp [rowsT]
theorem rowsT_succ {c : Nat} {l : List Int} {n : Nat} : rowsT c l (n + 1) = rowsT c l n ++ [rtx (rowL c l n)] := by simp [rowsT, List.range_succ]
theorem rowsT_flat {c : Nat} {l : List Int} : ∀ n : Nat, (rowsT c l n).flatten.length ≤ n * (3 * c)
  | 0 => by simp [rowsT]
  | n + 1 => by
    have ih := rowsT_flat (c := c) (l := l) n
    have h2 := rtx_len c (rowL c l n) (by unfold rowL; simp; omega)
    have h3 : (rowL c l n).length ≤ c := by unfold rowL; simp; omega
    rw [rowsT_succ]
    simp only [List.flatten_append, List.length_append, List.flatten_cons, List.flatten_nil, List.append_nil]
    rw [Nat.add_mul]
    omega
def joinR (c : Nat) (l : List Int) (n : Nat) : List UInt8 := joinT [36] (rowsT c l n)
theorem joinR_zero {c : Nat} {l : List Int} : joinR c l 0 = [] := rfl
theorem joinR_one {c : Nat} {l : List Int} {n : Nat} (h : n = 0) : joinR c l (n + 1) = rtx (rowL c l n) := by
  subst h
  simp [joinR, rowsT, joinT]
theorem joinR_succ {c : Nat} {l : List Int} {n : Nat} (h : 0 < n) : joinR c l (n + 1) = joinR c l n ++ [36] ++ rtx (rowL c l n) := by
  unfold joinR
  rw [rowsT_succ]
  exact joinT_snoc _ _ _ (fun he => by have := congrArg List.length he; rw [rowsT_len] at this; simp at this; omega)
theorem joinR_len {c : Nat} {l : List Int} : ∀ n : Nat, (joinR c l n).length ≤ n * (3 * c + 1)
  | 0 => by simp [joinR_zero]
  | n + 1 => by
    have ih := joinR_len (c := c) (l := l) n
    have h2 := rtx_len c (rowL c l n) (by unfold rowL; simp; omega)
    have h3 : (rowL c l n).length ≤ c := by unfold rowL; simp; omega
    rcases Nat.eq_zero_or_pos n with h | h
    · rw [joinR_one h, Nat.add_mul]; omega
    · rw [joinR_succ h, Nat.add_mul]; simp only [List.length_append, List.length_singleton]; omega
/-- What is written ahead of the rows. -/
def headT (r c : Int) : List UInt8 := decT c.toNat ++ [44] ++ decT r.toNat ++ [58]
theorem headT_len (r c : Int) : (headT r c).length ≤ 6 := by
  have := decT_len c.toNat
  have := decT_len r.toNat
  simp only [headT, List.length_append, List.length_singleton]
  omega
/-- A field's text. -/
def fieldT (r c : Int) (l : List Int) : List UInt8 := headT r c ++ joinR c.toNat l r.toNat ++ [33]
theorem row_mul {r c : Int} {i : Nat} (hs : sidesF r c) (hi : (i : Int) < r) : ((i * c.toNat : Nat) : Int) = (i : Int) * c ∧ 0 ≤ (i : Int) * c ∧ (i : Int) * c + c ≤ r * c ∧ ((i : Int) + 1) * c = (i : Int) * c + c := by
  obtain ⟨⟨_, _⟩, _, _⟩ := hs
  have e : ((i * c.toNat : Nat) : Int) = (i : Int) * c := by rw [Int.natCast_mul, Int.toNat_of_nonneg (by omega)]
  have h1 : ((i : Int) + 1) * c ≤ r * c := Int.mul_le_mul_of_nonneg_right (by omega) (by omega)
  have h2 : ((i : Int) + 1) * c = (i : Int) * c + c := by rw [Int.add_mul, Int.one_mul]
  refine ⟨e, ?_, by omega, h2⟩
  have := Int.mul_nonneg (show (0 : Int) ≤ i by omega) (show 0 ≤ c by omega)
  exact this
theorem row_eq {r c : Int} {l : List Int} {i : Nat} (hs : sidesF r c) (hi : (i : Int) < r) : (l.drop ((i : Int) * c).toNat).take ((((i : Int) + 1) * c).toNat - ((i : Int) * c).toNat) = rowL c.toNat l i := by
  obtain ⟨e, h0, h1, h2⟩ := row_mul hs hi
  unfold rowL
  rw [show ((i : Int) * c).toNat = i * c.toNat by omega, show (((i : Int) + 1) * c).toNat - i * c.toNat = c.toNat by have := hs.2.1; omega]
theorem row_01 {c : Nat} {l : List Int} {i : Nat} (h : ∀ x ∈ l, 0 ≤ x ∧ x ≤ 1) : ∀ x ∈ rowL c l i, 0 ≤ x ∧ x ≤ 1 := fun x hx => h x (List.mem_of_mem_drop (List.mem_of_mem_take hx))
theorem endP_back {row : List Int} {e : Nat} (h : endP row e) (he : 0 < e) (h0 : at_ 0 row ((e : Int) - 1) = 0) {d : Nat} (hd : d = e - 1) : endP row d := by
  subst hd
  refine ⟨by have := h.1; omega, fun q h1 h2 => ?_⟩
  rcases Nat.lt_or_ge q e with h3 | h3
  · rw [show (q : Int) = (e : Int) - 1 by omega]; exact h0
  · exact h.2 q h3 h2
end Go.Proofs.YtijmoehbgkibnaaDoor
/- What was written is read back: plain law; appends of zeros. -/
namespace Go.Proofs.YtijmoehbgkibnaaDoor
open HL
set_option maxRecDepth 100000
namespace HL
theorem zeroCells_one (z : Value) (m : Nat) : (if m * 1 = 0 then #[] else Builtin.zeroCells #[z] m) = (List.replicate m z).toArray := by
  by_cases h : m = 0
  · subst h; rfl
  · rw [if_neg (by omega)]
    apply Array.ext
    · simp [Builtin.zeroCells]
    · intro i h1 h2
      simp [Builtin.zeroCells, Nat.mod_one]
theorem apm_any {α : Type} {enc : α → Value} {x0 : α} {b : Nat} {e : TypeId} {u : Value} {l : List α} {n : Int} {ik : IntKind} {H : Hp} {K : Value → Hp → Prop} (h : Own enc H u l) (ho : oneCell (enc x0) = true) (hb : b ≤ 64) (h0 : 0 ≤ n) (hl : (l.length : Int) + n ≤ 68719476736)
    (hk : ∀ u' H', Own enc H' u' (l ++ List.replicate n.toNat x0) → Off u H H' → (∀ b, bk u' = some b → bk u = some b ∨ H b = none) → K u' H') : apm 1 b #[enc x0] e u (.int ik n) H K := by
  have hlf := h.sl.firstC
  obtain ⟨a, c, rfl, hlc, hr⟩ := h
  have hbn : n * b ≤ 281474976710656 := by
    have : n * b ≤ 68719476736 * 64 := Int.mul_le_mul (by omega) (by omega) (by omega) (by omega)
    omega
  have hml : (List.replicate n.toNat x0).length = n.toNat := List.length_replicate
  have hzs : (if n.toNat * 1 = 0 then #[] else Builtin.zeroCells #[enc x0] n.toNat) = ((List.replicate n.toNat x0).map enc).toArray := by rw [zeroCells_one, List.map_replicate]
  generalize List.replicate n.toNat x0 = m at hml hzs hk
  have hone : ∀ x ∈ m.map enc, oneCell x = true := fun x hx => by
    have : m.map enc = List.replicate n.toNat (enc x0) := by
      have := congrArg Array.toList hzs
      rw [zeroCells_one] at this
      simpa using this.symm
    rw [this] at hx
    rw [(List.mem_replicate.mp hx).2]; exact ho
  simp only [HL.apm]
  rw [hzs]
  refine ⟨h0, by omega, hbn, ?_⟩
  rw [← hml]
  by_cases hcap : l.length + m.length ≤ c
  · rw [if_pos hcap]
    by_cases hc0 : c = 0
    · have hl : l = [] := List.length_eq_zero_iff.mp (by omega)
      have hm' : m = [] := List.length_eq_zero_iff.mp (by omega)
      subst hl hm' hc0
      have : K (.slice a (([] : List α).length + ([] : List α).length) 0) H := hk _ H ⟨a, 0, rfl, by simp, fun h0 => absurd h0 (by simp)⟩ (fun b o hb _ => hb) (fun b hb => by cases a <;> simp [bk] at hb)
      cases a with
      | none => exact this
      | some ad => exact this
    · obtain ⟨b, off, cs, e', rfl, hbb, hs, hcs⟩ := hr (by omega)
      simp only [add_none, Nat.mul_one]
      refine stC_run (b := b) (e := e') (m.map enc) _ 0 cs H rfl rfl hbb (by simp; omega) (fun x hx => hone x hx) ?_
      intro H' cs' h1 h2 h3 h4 h5
      simp only [Nat.add_zero] at h3 h4
      refine hk _ H' ⟨some ⟨b, off, none⟩, c, by simp, by simpa using hcap, fun _ => ⟨b, off, cs', e', rfl, h1, by omega, ?_⟩⟩ ?_ ?_
      · intro i hi
        by_cases hil : i < l.length
        · rw [h3 _ (by omega), hcs i hil, List.getElem_append_left hil]
        · have := h4 (i - l.length) (by simp at hi ⊢; omega)
          rw [show off + l.length + (i - l.length) = off + i by omega] at this
          rw [this, List.getElem_append_right (by omega)]; simp
      · intro x o hx hne
        simp only [bk, if_neg hc0] at hne
        rw [h5 x (by rintro rfl; exact hne rfl)]; exact hx
      · intro x hx
        left; exact hx
  · rw [if_neg hcap]
    refine ⟨by omega, ?_, ?_⟩
    · have := nsc_le (n := l.length + m.length) (c := c) (by omega)
      exact Nat.le_trans (Nat.mul_le_mul this hb) (by omega)
    simp only [hlf]
    intro c' hc1 hc2 r hr'
    refine hk _ _ ⟨some ⟨r, 0, none⟩, c', by simp, by simpa using hc1, fun _ => ⟨r, 0, _, e, rfl, Hp.put_same _ _ _, ?_, ?_⟩⟩ ?_ ?_
    · have : (Builtin.zeroCells #[enc x0] (c' - (l.length + m.length))).size = c' - (l.length + m.length) := by simp [Builtin.zeroCells]
      simp [this]; omega
    · intro i hi
      rw [Nat.zero_add, Array.getElem?_append_left (by simpa using hi)]
      rw [← Array.getElem?_toList]
      simp only [Array.toList_append, ← List.map_append, List.getElem?_map]
      rw [List.getElem?_eq_getElem hi]; rfl
    · intro x o hx _
      rw [Hp.put_ne _ _ (by rintro rfl; rw [hr'] at hx; exact absurd hx (by simp))]; exact hx
    · intro x hx
      right
      simp only [bk] at hx
      split at hx
      · simp at hx
      · simp only [Option.some.injEq] at hx; subst hx; exact hr'
end HL
/-- Bytes of decimal numbers. -/
theorem decT_dig {k : Nat} (hk : k < 100) : ∀ b ∈ decT k, 48 ≤ b.toNat ∧ b.toNat ≤ 57 := by
  intro b hb
  unfold decT at hb
  have e : ∀ x, x < 10 → (UInt8.ofNat (48 + x)).toNat = 48 + x := fun x hx => by rw [UInt8.toNat_ofNat']; omega
  split at hb
  · simp only [List.mem_singleton] at hb; subst hb; rw [e _ (by omega)]; omega
  · simp only [List.mem_cons, List.not_mem_nil, or_false] at hb
    rcases hb with rfl | rfl <;> (rw [e _ (by omega)]; omega)
theorem parse_dec : ∀ k : Nat, k < 100 → Go.Lib.parseIntB 64 (decT k) = .ok (k : Int) := by decide +kernel
theorem chT_bo (x : Int) : chT x = 98 ∨ chT x = 111 := by unfold chT; split <;> simp
theorem idx_pre {pre rest : List UInt8} {x : UInt8} (hp : ∀ b ∈ pre, 48 ≤ b.toNat ∧ b.toNat ≤ 57) (hx : x = 98 ∨ x = 111) : Go.Lib.indexAny (pre ++ [x] ++ rest) [98, 111] = (pre.length : Int) := by
  refine Go.Lib.indexAny_hit (x := x) (fun j b hj hb => ?_) (by simp) (by rcases hx with rfl | rfl <;> decide)
  have : pre[j]? = some b := by
    rw [List.append_assoc, List.getElem?_append_left hj] at hb; exact hb
  have h1 := hp b (List.mem_of_getElem? this)
  cases hc : ([98, 111] : List UInt8).contains b with
  | false => rfl
  | true =>
    simp only [List.contains_cons, List.contains_nil, Bool.or_false, Bool.or_eq_true, beq_iff_eq] at hc
    rcases hc with rfl | rfl
    · exact absurd h1.2 (by decide)
    · exact absurd h1.2 (by decide)
/-- Bytes of a row's text. -/
theorem rtx_asc : ∀ (n : Nat) (l : List Int), l.length ≤ n → n < 100 → ∀ b ∈ rtx l, (48 ≤ b.toNat ∧ b.toNat ≤ 57) ∨ b = 98 ∨ b = 111
  | 0, l, h, _, b, hb => by
    have : l = [] := List.length_eq_zero_iff.mp (by omega)
    subst this; rw [rtx_nil] at hb; exact absurd hb (by simp)
  | n + 1, l, h, hn, b, hb => by
    cases l with
    | nil => rw [rtx_nil] at hb; exact absurd hb (by simp)
    | cons x l =>
      rw [rtx_of (by simp)] at hb
      split at hb
      · exact absurd hb (by simp)
      · have h1 : 1 ≤ rN (at_ 0 (x :: l) 0) (x :: l) := rN_step (t := 0) (by omega) (by simp) rfl
        have h2 := rN_le (at_ 0 (x :: l) 0) (x :: l)
        simp only [List.mem_append, List.mem_singleton] at hb
        rcases hb with (hb | hb) | hb
        · split at hb
          · exact absurd hb (by simp)
          · exact .inl (decT_dig (by omega) b hb)
        · right; rw [hb]; exact chT_bo _
        · exact rtx_asc n _ (by simp only [List.length_drop, List.length_cons] at h ⊢; omega) (by omega) b hb
/-- One round of reading a row. -/
theorem rtx_round {row : List Int} {a : Nat} (hr : row.length < 100) (hne : rtx (row.drop a) ≠ []) : a < row.length ∧ ∃ k p : Nat, a + k ≤ row.length ∧ 1 ≤ k ∧ (k = 1 ∧ p = 0 ∨ 2 ≤ k ∧ 1 ≤ p ∧ (rtx (row.drop a)).take p = decT k) ∧ Go.Lib.indexAny (rtx (row.drop a)) [98, 111] = (p : Int) ∧
    p < (rtx (row.drop a)).length ∧ at_ 0 (rtx (row.drop a)) (p : Int) = chT (at_ 0 row (a : Int)) ∧ (rtx (row.drop a)).drop (p + 1) = rtx (row.drop (a + k)) ∧ ∀ j, j < k → at_ 0 row ((a + j : Nat) : Int) = at_ 0 row (a : Int) := by
  have ha : a < row.length := by
    rcases Nat.lt_or_ge a row.length with h | h
    · exact h
    · rw [List.drop_eq_nil_of_le h, rtx_nil] at hne; exact absurd rfl hne
  refine ⟨ha, ?_⟩
  obtain ⟨k1, k2⟩ := run_pos ha
  have hat : ∀ j, j < rN (at_ 0 row (a : Int)) (row.drop a) → at_ 0 row ((a + j : Nat) : Int) = at_ 0 row (a : Int) := fun j hj => by
    rw [← at_drop]; exact rN_at hj
  have hrun := rtx_run (row := row) ha rfl (fun h => hne (rtx_stop ha rfl h))
  generalize rN (at_ 0 row (a : Int)) (row.drop a) = k at k1 k2 hat hrun
  have hpre : ∀ b ∈ (if k = 1 then [] else decT k), 48 ≤ b.toNat ∧ b.toNat ≤ 57 := fun b hb => by
    split at hb
    · exact absurd hb (by simp)
    · exact decT_dig (by omega) b hb
  refine ⟨k, (if k = 1 then [] else decT k).length, k2, k1, ?_, ?_, ?_, ?_, ?_, hat⟩
  · by_cases h : k = 1
    · left; rw [if_pos h]; exact ⟨h, rfl⟩
    · right
      rw [if_neg h] at hrun ⊢
      refine ⟨by omega, (decT_len k).1, ?_⟩
      rw [hrun, List.append_assoc, List.take_left]
  · rw [hrun]; exact idx_pre hpre (chT_bo _)
  · rw [hrun]; simp only [List.length_append, List.length_singleton]; omega
  · rw [hrun]
    unfold at_
    simp [List.getD_eq_getElem?_getD]
  · rw [hrun]; simp [List.drop_append]
theorem rtx_end {row : List Int} {a : Nat} (hr : row.length < 100) (h : rtx (row.drop a) = []) (ha : a ≤ row.length) : row.take a ++ List.replicate (row.length - a) 0 = row := by
  have hz : ∀ (n : Nat) (l : List Int), l.length ≤ n → rtx l = [] → l = List.replicate l.length 0 := by
    intro n
    induction n with
    | zero => intro l h1 _; have : l = [] := List.length_eq_zero_iff.mp (by omega); subst this; rfl
    | succ n ih =>
      intro l h1 h2
      cases l with
      | nil => rfl
      | cons x l =>
        rw [rtx_of (by simp)] at h2
        split at h2
        · rename_i h3
          refine List.ext_getElem (by simp) (fun j j1 j2 => ?_)
          rw [List.getElem_replicate]
          have := rN_at (x := at_ 0 (x :: l) 0) (l := x :: l) (t := j) (by omega)
          rw [at_eq 0 _ j1, h3.1] at this; exact this
        · have := congrArg List.length h2
          simp only [List.length_append, List.length_singleton, List.length_nil] at this; omega
  have := hz _ (row.drop a) (Nat.le_refl _) h
  rw [List.length_drop] at this
  conv => rhs; rw [← List.take_append_drop a row, this]
theorem idx_one {a b : List UInt8} {c : UInt8} (h : c ∉ a) : Go.Lib.index (a ++ [c] ++ b) [c] = (a.length : Int) := by
  refine Go.Lib.index_first (by simp only [List.length_append]; omega) ?_ (fun j hj => ?_)
  · unfold Go.Lib.occAt
    rw [List.append_assoc, List.drop_left]
    simp [List.isPrefixOf]
  · unfold Go.Lib.occAt
    have hj2 : j < (a ++ [c] ++ b).length := by simp only [List.length_append]; omega
    rw [List.drop_eq_getElem_cons hj2]
    have e : (a ++ [c] ++ b)[j] = a[j] := by rw [List.getElem_append_left (by simp only [List.length_append]; omega), List.getElem_append_left hj]
    rw [e]
    have : c ≠ a[j] := fun x => h (x ▸ List.getElem_mem hj)
    simp [List.isPrefixOf, this]
theorem cut_one {a b : List UInt8} {c : UInt8} (h : c ∉ a) : Go.Lib.cut (a ++ [c] ++ b) [c] = (a, b, true) := by
  unfold Go.Lib.cut
  rw [idx_one h, if_pos (by omega), Int.toNat_natCast, List.append_assoc, List.take_left]
  simp [List.drop_append]
theorem suffix_one (a : List UInt8) (c : UInt8) : Go.Lib.trimSuffix (a ++ [c]) [c] = a ∧ Go.Lib.hasSuffix (a ++ [c]) [c] = true := by
  have h : Go.Lib.hasSuffix (a ++ [c]) [c] = true := by
    unfold Go.Lib.hasSuffix
    rw [List.isSuffixOf_iff_suffix]
    exact List.suffix_append a [c]
  refine ⟨?_, h⟩
  unfold Go.Lib.trimSuffix
  rw [if_pos h]
  simp
theorem joinT_cons (sep a b : List UInt8) (r : List (List UInt8)) : joinT sep (a :: b :: r) = a ++ sep ++ joinT sep (b :: r) := by simp [joinT]
theorem split_join {c : UInt8} : ∀ (ls : List (List UInt8)) (a : List UInt8), (∀ x ∈ a :: ls, c ∉ x) → spT (joinT [c] (a :: ls)) c = a :: ls
  | [], a, h => by
    have ha := h a (by simp)
    unfold spT Go.Lib.split
    rw [Go.Lib.count_one]
    have e : joinT [c] [a] = a := by simp [joinT]
    rw [e, List.count_eq_zero.mpr ha]; rfl
  | b :: r, a, h => by
    have ha := h a (by simp)
    have ih := split_join r b (fun x hx => h x (List.mem_cons_of_mem _ hx))
    unfold spT Go.Lib.split at ih ⊢
    rw [Go.Lib.count_one] at ih ⊢
    rw [joinT_cons]
    have hc : (a ++ [c] ++ joinT [c] (b :: r)).count c = (joinT [c] (b :: r)).count c + 1 := by
      simp only [List.count_append, List.count_eq_zero.mpr ha, List.count_singleton_self]; omega
    rw [hc]
    unfold Go.Lib.splitK
    rw [idx_one ha, if_neg (by simp), Int.toNat_natCast, Nat.add_zero, List.append_assoc, List.take_left]
    congr 1
    rw [← List.append_assoc, show (a ++ [c] ++ joinT [c] (b :: r)).drop (a.length + [c].length) = joinT [c] (b :: r) by simp [List.drop_append]]
    exact ih
theorem dec_no {k : Nat} (hk : k < 100) {c : UInt8} (hc : c.toNat < 48 ∨ 57 < c.toNat) : c ∉ decT k := fun h => by have := decT_dig hk c h; omega
theorem field_cut {r c : Int} {l : List Int} (h0 : 0 ≤ c) (hc : c < 100) (h1 : 0 ≤ r) (hr : r < 100) : Go.Lib.cut (fieldT r c l) [58] = (decT c.toNat ++ [44] ++ decT r.toNat, joinR c.toNat l r.toNat ++ [33], true) := by
  have e : fieldT r c l = (decT c.toNat ++ [44] ++ decT r.toNat) ++ [58] ++ (joinR c.toNat l r.toNat ++ [33]) := by simp [fieldT, headT]
  rw [e]
  refine cut_one (fun h => ?_)
  simp only [List.mem_append, List.mem_singleton] at h
  rcases h with (h | h) | h
  · exact dec_no (by omega) (by decide) h
  · exact absurd h (by decide)
  · exact dec_no (by omega) (by decide) h
theorem head_cut {r c : Int} (h0 : 0 ≤ c) (hc : c < 100) : Go.Lib.cut (decT c.toNat ++ [44] ++ decT r.toNat) [44] = (decT c.toNat, decT r.toNat, true) := cut_one (dec_no (by omega) (by decide))
theorem row_no {c : Nat} {l : List Int} {i : Nat} (hc : c < 100) {x : UInt8} (hx : (x.toNat < 48 ∨ 57 < x.toNat) ∧ x ≠ 98 ∧ x ≠ 111) : x ∉ rtx (rowL c l i) := fun h => by
  have := rtx_asc c (rowL c l i) (by unfold rowL; simp; omega) hc x h
  rcases this with h | h | h
  · omega
  · exact hx.2.1 h
  · exact hx.2.2 h
theorem rows_split {c r : Nat} {l : List Int} (hc : c < 100) (hr : 1 ≤ r) : spT (joinR c l r) 36 = rowsT c l r := by
  unfold joinR
  have hn : rowsT c l r ≠ [] := fun h => by have := congrArg List.length h; rw [rowsT_len] at this; simp at this; omega
  obtain ⟨a, ls, e⟩ := List.exists_cons_of_ne_nil hn
  have hm : ∀ x ∈ rowsT c l r, (36 : UInt8) ∉ x := fun x hx => by
    unfold rowsT at hx
    obtain ⟨i, _, rfl⟩ := List.mem_map.mp hx
    exact row_no hc (by decide)
  rw [e] at hm ⊢
  exact split_join ls a hm
end Go.Proofs.YtijmoehbgkibnaaDoor
/- How the reference reads fields back: plain law. -/
namespace Go.Proofs.YtijmoehbgkibnaaDoor
open HL
set_option maxRecDepth 100000
def digP (s : List UInt8) (p : Int) : Prop := p < s.length ∧ 48 ≤ ((at_ 0 s p).toNat : Int) ∧ ((at_ 0 s p).toNat : Int) ≤ 57
instance (s : List UInt8) (p : Int) : Decidable (digP s p) := by unfold digP; infer_instance
/-- How many digits stand at a place, two at most, and their number. -/
def dgC (s : List UInt8) (p : Int) : Nat := if digP s p then if digP s (p + 1) then 2 else 1 else 0
def dgV (s : List UInt8) (p : Int) : Nat → Int
  | 0 => 0
  | n + 1 => 10 * dgV s p n + (((at_ 0 s (p + (n : Int))).toNat : Int) - 48)
def dgX (s : List UInt8) (p : Int) : Int := if dgC s p = 0 then -1 else dgV s p (dgC s p)
theorem dgC_of {s : List UInt8} {p : Int} {i : Nat} (h2 : i ≤ 2) (hd : ∀ j : Nat, j < i → digP s (p + (j : Int))) (hx : i = 2 ∨ ¬ digP s (p + (i : Int))) : dgC s p = i := by
  unfold dgC
  rcases show i = 0 ∨ i = 1 ∨ i = 2 by omega with rfl | rfl | rfl
  · rw [if_neg (by rcases hx with h | h; exact absurd h (by omega); simpa using h)]
  · have := hd 0 (by omega)
    rw [if_pos (by simpa using this), if_neg (by rcases hx with h | h; exact absurd h (by omega); simpa using h)]
  · have a := hd 0 (by omega)
    have b := hd 1 (by omega)
    rw [if_pos (by simpa using a), if_pos (by simpa using b)]
theorem dgC_le (s : List UInt8) (p : Int) : dgC s p ≤ 2 := by unfold dgC; split <;> (try split) <;> omega
theorem dgC_in {s : List UInt8} {p : Int} (h : p ≤ s.length) : p + dgC s p ≤ s.length := by
  unfold dgC
  split
  · rename_i h1
    split
    · rename_i h2; have := h2.1; omega
    · have := h1.1; omega
  · omega
theorem dgX_bnd (s : List UInt8) (p : Int) : -1 ≤ dgX s p ∧ dgX s p ≤ 99 := by
  unfold dgX dgC
  by_cases h1 : digP s p
  · rw [if_pos h1]
    obtain ⟨_, a, b⟩ := h1
    by_cases h2 : digP s (p + 1)
    · rw [if_pos h2]
      obtain ⟨_, a2, b2⟩ := h2
      rw [if_neg (by omega)]
      simp only [dgV, Int.natCast_zero, Int.add_zero, Int.natCast_one]
      omega
    · rw [if_neg h2, if_neg (by omega)]
      simp only [dgV, Int.natCast_zero, Int.add_zero]
      omega
  · rw [if_neg h1, if_pos rfl]; omega
theorem dgV_bnd {s : List UInt8} {p : Int} {i : Nat} (h2 : i ≤ 2) (hd : ∀ j : Nat, j < i → digP s (p + (j : Int))) : 0 ≤ dgV s p i ∧ dgV s p i ≤ 99 := by
  rcases show i = 0 ∨ i = 1 ∨ i = 2 by omega with rfl | rfl | rfl
  · simp [dgV]
  · obtain ⟨_, a, b⟩ := hd 0 (by omega)
    simp only [Int.natCast_zero, Int.add_zero] at a b
    simp only [dgV, Int.natCast_zero, Int.add_zero]; omega
  · obtain ⟨_, a, b⟩ := hd 0 (by omega)
    obtain ⟨_, a2, b2⟩ := hd 1 (by omega)
    simp only [Int.natCast_zero, Int.add_zero, Int.natCast_one] at a b a2 b2
    simp only [dgV, Int.natCast_zero, Int.add_zero, Int.natCast_one]; omega
theorem at_dropT {s t : List UInt8} {p : Nat} (h : s.drop p = t) (j : Nat) : at_ 0 s ((p : Int) + (j : Int)) = at_ 0 t (j : Int) := by
  subst h
  unfold at_
  rw [show ((p : Int) + (j : Int)).toNat = p + j by omega, Int.toNat_natCast]
  simp [List.getD_eq_getElem?_getD, List.getElem?_drop]
theorem len_dropT {s t : List UInt8} {p : Nat} (h : s.drop p = t) (ht : 0 < t.length) : p + t.length = s.length := by
  have := congrArg List.length h
  rw [List.length_drop] at this; omega
/-- A number that stands at a place, with something else behind it. -/
theorem dg_dec {s rest : List UInt8} {p k : Nat} {x : UInt8} (hk : k < 100) (hx : x.toNat < 48 ∨ 57 < x.toNat) (h : s.drop p = decT k ++ [x] ++ rest) :
    dgC s p = (decT k).length ∧ dgX s p = (k : Int) ∧ at_ 0 s ((p : Int) + ((decT k).length : Int)) = x ∧ p + (decT k).length < s.length ∧ s.drop (p + (decT k).length + 1) = rest := by
  have hl := len_dropT h (by simp only [List.length_append, List.length_singleton]; omega)
  simp only [List.length_append, List.length_singleton] at hl
  have hat := fun j => at_dropT h j
  have hxx : at_ 0 s ((p : Int) + ((decT k).length : Int)) = x := by
    rw [hat]
    unfold at_
    simp [List.getD_eq_getElem?_getD]
  have hrest : s.drop (p + (decT k).length + 1) = rest := by
    rw [Nat.add_assoc, ← List.drop_drop, h]; simp [List.drop_append]
  have hnx : ¬ digP s ((p : Int) + ((decT k).length : Int)) := fun hd => by
    have h1 := hd.2.1; have h2 := hd.2.2
    rw [hxx] at h1 h2; omega
  have e : ∀ y, y < 10 → (UInt8.ofNat (48 + y)).toNat = 48 + y := fun y hy => by rw [UInt8.toNat_ofNat']; omega
  by_cases h10 : k < 10
  · have hd : decT k = [UInt8.ofNat (48 + k)] := by unfold decT; rw [if_pos h10]
    rw [hd] at hl hat hnx hxx hrest ⊢
    simp only [List.length_singleton] at hl hnx hxx hrest ⊢
    have b0 := hat 0
    simp only [Int.natCast_zero, Int.add_zero] at b0
    have b0' : at_ 0 s (p : Int) = UInt8.ofNat (48 + k) := b0
    have d0 : digP s (p : Int) := ⟨by omega, by rw [b0', e _ h10]; omega, by rw [b0', e _ h10]; omega⟩
    have hnx' : ¬ digP s ((p : Int) + 1) := hnx
    have hc : dgC s (p : Int) = 1 := by unfold dgC; rw [if_pos d0, if_neg hnx']
    refine ⟨hc, ?_, hxx, by omega, hrest⟩
    unfold dgX
    rw [hc, if_neg (by omega)]
    simp only [dgV, Int.natCast_zero, Int.add_zero, b0', e _ h10]; omega
  · have hd : decT k = [UInt8.ofNat (48 + k / 10), UInt8.ofNat (48 + k % 10)] := by unfold decT; rw [if_neg h10]
    rw [hd] at hl hat hnx hxx hrest ⊢
    simp only [List.length_cons, List.length_nil] at hl hnx hxx hrest ⊢
    have b0 := hat 0
    have b1 := hat 1
    simp only [Int.natCast_zero, Int.add_zero] at b0
    have b0' : at_ 0 s (p : Int) = UInt8.ofNat (48 + k / 10) := b0
    have b1' : at_ 0 s ((p : Int) + 1) = UInt8.ofNat (48 + k % 10) := b1
    have d0 : digP s (p : Int) := ⟨by omega, by rw [b0', e _ (by omega)]; omega, by rw [b0', e _ (by omega)]; omega⟩
    have d1 : digP s ((p : Int) + 1) := ⟨by omega, by rw [b1', e _ (by omega)]; omega, by rw [b1', e _ (by omega)]; omega⟩
    have hc : dgC s (p : Int) = 2 := by unfold dgC; rw [if_pos d0, if_pos d1]
    refine ⟨hc, ?_, hxx, by omega, hrest⟩
    unfold dgX
    rw [hc, if_neg (by omega)]
    simp only [dgV, Int.natCast_zero, Int.add_zero, Int.natCast_one, b0', b1', e _ (show k / 10 < 10 by omega), e _ (show k % 10 < 10 by omega)]; omega
/-- What stands behind a row. -/
def restT (c : Nat) (l : List Int) : Nat → Nat → List UInt8
  | 0, _ => [33]
  | n + 1, i => [36] ++ rtx (rowL c l (i + 1)) ++ restT c l n (i + 1)
theorem restT_join {c : Nat} {l : List Int} : ∀ (n i : Nat), rtx (rowL c l i) ++ restT c l n i = rtx (rowL c l i) ++ (List.range' (i + 1) n).flatMap (fun j => [36] ++ rtx (rowL c l j)) ++ [33]
  | 0, i => by simp [restT]
  | n + 1, i => by
    have ih := restT_join (c := c) (l := l) n (i + 1)
    rw [restT, List.range'_succ, List.flatMap_cons, List.append_assoc [36], ih]
    simp only [List.append_assoc]
theorem join_rest {c r : Nat} {l : List Int} (hr : 1 ≤ r) : joinR c l r ++ [33] = rtx (rowL c l 0) ++ restT c l (r - 1) 0 := by
  rw [restT_join]
  congr 1
  unfold joinR rowsT
  obtain ⟨n, rfl⟩ : ∃ n, r = n + 1 := ⟨r - 1, by omega⟩
  rw [List.range_eq_range', List.range'_succ, List.map_cons]
  simp only [joinT, List.flatMap_map, Nat.add_sub_cancel, Nat.zero_add]
theorem restT_head (c : Nat) (l : List Int) (n i : Nat) : ∃ t, restT c l n i = (if n = 0 then 33 else 36) :: t := by
  cases n with
  | zero => exact ⟨[], rfl⟩
  | succ n => exact ⟨_, rfl⟩
/-- What is read next: some cells, the end of a row, or of all. -/
def rdW (r c : Nat) (l : List Int) (s : List UInt8) (i a q k : Nat) : Prop :=
  (at_ 0 s (q : Int) = chT (at_ 0 (rowL c l i) (a : Int)) ∧ 1 ≤ k ∧ a + k ≤ c ∧ s.drop (q + 1) = rtx ((rowL c l i).drop (a + k)) ++ restT c l (r - 1 - i) i ∧ ∀ j, j < k → at_ 0 (rowL c l i) ((a + j : Nat) : Int) = at_ 0 (rowL c l i) (a : Int)) ∨
  (at_ 0 s (q : Int) = 36 ∧ i + 1 < r ∧ rtx ((rowL c l i).drop a) = [] ∧ s.drop (q + 1) = rtx (rowL c l (i + 1)) ++ restT c l (r - 1 - (i + 1)) (i + 1)) ∨
  (at_ 0 s (q : Int) = 33 ∧ i + 1 = r ∧ rtx ((rowL c l i).drop a) = [] ∧ q + 1 = s.length)
theorem rd_round {r c : Nat} {l : List Int} {s : List UInt8} {i a p : Nat} (hc : c < 100) (hrl : (rowL c l i).length = c) (hi : i < r) (h : s.drop p = rtx ((rowL c l i).drop a) ++ restT c l (r - 1 - i) i) :
    p < s.length ∧ (digP s (p : Int) → (p : Int) + dgC s p < s.length ∧ 2 ≤ dgX s p ∧ dgX s p ≤ c ∧ rdW r c l s i a (p + dgC s p) (dgX s p).toNat) ∧ (¬ digP s (p : Int) → rdW r c l s i a p 1) := by
  obtain ⟨t, ht⟩ := restT_head c l (r - 1 - i) i
  by_cases hz : rtx ((rowL c l i).drop a) = []
  · rw [hz, List.nil_append] at h
    have hl := len_dropT h (by rw [ht]; simp)
    have h0 := at_dropT h 0
    simp only [Int.natCast_zero, Int.add_zero] at h0
    have h0' : at_ 0 s (p : Int) = if r - 1 - i = 0 then 33 else 36 := by rw [h0, ht]; rfl
    have hn : ¬ digP s (p : Int) := fun hd => by
      have h1 := hd.2.1
      rw [h0'] at h1
      split at h1 <;> exact absurd h1 (by decide)
    refine ⟨by rw [ht, List.length_cons] at hl; omega, fun hd => absurd hd hn, fun _ => ?_⟩
    by_cases hlast : r - 1 - i = 0
    · right; right
      rw [if_pos hlast] at h0'
      rw [hlast] at hl
      simp only [restT, List.length_singleton] at hl
      exact ⟨h0', by omega, hz, hl⟩
    · right; left
      rw [if_neg hlast] at h0'
      refine ⟨h0', by omega, hz, ?_⟩
      rw [← List.drop_drop, h, show r - 1 - i = (r - 1 - (i + 1)) + 1 by omega, restT, List.append_assoc]
      rfl
  · obtain ⟨ha, k, q, h1, h2, h3, h4, h5, h6, h7, h8⟩ := rtx_round (a := a) (by omega) hz
    have hrun := rtx_run (row := rowL c l i) ha rfl (fun h => hz (rtx_stop ha rfl h))
    obtain ⟨k1, k2⟩ := run_pos ha
    have hat : ∀ j, j < rN (at_ 0 (rowL c l i) (a : Int)) ((rowL c l i).drop a) → at_ 0 (rowL c l i) ((a + j : Nat) : Int) = at_ 0 (rowL c l i) (a : Int) := fun j hj => by
      rw [← at_drop]; exact rN_at hj
    generalize rN (at_ 0 (rowL c l i) (a : Int)) ((rowL c l i).drop a) = k at k1 k2 hrun hat
    have hnc : ∀ y : Int, (chT y).toNat < 48 ∨ 57 < (chT y).toNat := fun y => by rcases chT_bo y with e | e <;> rw [e] <;> decide
    by_cases hk : k = 1
    · subst hk
      rw [if_pos rfl, List.nil_append] at hrun
      rw [hrun, List.append_assoc] at h
      have hl := len_dropT h (by simp)
      have h0 := at_dropT h 0
      simp only [Int.natCast_zero, Int.add_zero] at h0
      have h0' : at_ 0 s (p : Int) = chT (at_ 0 (rowL c l i) (a : Int)) := h0
      have hn : ¬ digP s (p : Int) := fun hd => by
        have e1 := hd.2.1; have e2 := hd.2.2
        rw [h0'] at e1 e2
        have := hnc (at_ 0 (rowL c l i) (a : Int)); omega
      refine ⟨by simp only [List.length_append, List.length_singleton] at hl; omega, fun hd => absurd hd hn, fun _ => .inl ⟨h0', Nat.le_refl _, by omega, ?_, hat⟩⟩
      rw [← List.drop_drop, h]; rfl
    · rw [if_neg hk] at hrun
      rw [hrun, List.append_assoc] at h
      obtain ⟨d1, d2, d3, d4, d5⟩ := dg_dec (k := k) (by omega) (hnc _) h
      have hd : digP s (p : Int) := by
        have dl := decT_len k
        unfold dgC at d1
        split at d1
        · assumption
        · omega
      refine ⟨by omega, fun _ => ⟨by omega, by omega, by omega, .inl ?_⟩, fun hn => absurd hd hn⟩
      rw [d1, d2, Int.toNat_natCast]
      refine ⟨?_, by omega, by omega, d5, hat⟩
      rw [← d3]; congr 1
/-- The cells that are read so far. -/
def rdL (l : List Int) (t : Nat) : List Int := l.take t ++ List.replicate (l.length - t) 0
theorem rdL_len {l : List Int} {t : Nat} (h : t ≤ l.length) : (rdL l t).length = l.length := by unfold rdL; simp; omega
theorem rdL_zero (l : List Int) : rdL l 0 = List.replicate l.length 0 := by simp [rdL]
theorem rdL_all (l : List Int) : rdL l l.length = l := by simp [rdL]
theorem rdL_set {l : List Int} {t : Nat} (h : t < l.length) (h1 : at_ 0 l (t : Int) = 1) : (rdL l t).set t 1 = rdL l (t + 1) := by
  unfold rdL
  rw [List.set_append_right _ _ (by simp; omega)]
  rw [take_at 0 l h, h1, show l.length - t = (l.length - (t + 1)) + 1 by omega, List.replicate_succ, show t - (l.take t).length = 0 by simp; omega, List.set_cons_zero]
  simp
theorem rdL_skip {l : List Int} {t : Nat} (h : t < l.length) (h1 : at_ 0 l (t : Int) = 0) : rdL l t = rdL l (t + 1) := by
  unfold rdL
  rw [take_at 0 l h, h1, show l.length - t = (l.length - (t + 1)) + 1 by omega, List.replicate_succ]
  simp
theorem rdL_skips {l : List Int} {t : Nat} : ∀ k : Nat, t + k ≤ l.length → (∀ j, j < k → at_ 0 l ((t + j : Nat) : Int) = 0) → rdL l t = rdL l (t + k)
  | 0, _, _ => rfl
  | k + 1, h, h1 => by rw [rdL_skips k (by omega) (fun j hj => h1 j (by omega)), rdL_skip (by omega) (h1 k (by omega)), Nat.add_assoc]
theorem row_at {c : Nat} {l : List Int} {i j : Nat} (hj : j < c) : at_ 0 (rowL c l i) (j : Int) = at_ 0 l ((i * c + j : Nat) : Int) := by
  unfold rowL at_
  simp only [Int.toNat_natCast, List.getD_eq_getElem?_getD]
  rw [List.getElem?_take, if_pos hj, List.getElem?_drop]
theorem row_zero {c : Nat} {l : List Int} {i a : Nat} (hrl : (rowL c l i).length = c) (hc : c < 100) (h : rtx ((rowL c l i).drop a) = []) (ha : a ≤ c) : ∀ j, j < c - a → at_ 0 l ((i * c + a + j : Nat) : Int) = 0 := fun j hj => by
  have := rtx_end (by omega) h (by omega)
  rw [Nat.add_assoc, ← row_at (by omega), ← this]
  unfold at_
  simp only [Int.toNat_natCast, List.getD_eq_getElem?_getD]
  rw [List.getElem?_append_right (by simp; omega), List.getElem?_replicate]
  split <;> simp
theorem W36 {r c : Nat} {l : List Int} {s : List UInt8} {i a q k : Nat} (h : rdW r c l s i a q k) (hB : ((at_ 0 s (q : Int)).toNat : Int) = 36) : i + 1 < r ∧ rtx ((rowL c l i).drop a) = [] ∧ s.drop (q + 1) = rtx (rowL c l (i + 1)) ++ restT c l (r - 1 - (i + 1)) (i + 1) := by
  rcases h with h | h | h
  · rw [h.1] at hB; rcases chT_bo (at_ 0 (rowL c l i) (a : Int)) with e | e <;> rw [e] at hB <;> exact absurd hB (by decide)
  · exact h.2
  · rw [h.1] at hB; exact absurd hB (by decide)
theorem Wch {r c : Nat} {l : List Int} {s : List UInt8} {i a q k : Nat} (h : rdW r c l s i a q k) (hB : ((at_ 0 s (q : Int)).toNat : Int) ≠ 36) (hB2 : ((at_ 0 s (q : Int)).toNat : Int) ≠ 33) : at_ 0 s (q : Int) = chT (at_ 0 (rowL c l i) (a : Int)) ∧ 1 ≤ k ∧ a + k ≤ c ∧ s.drop (q + 1) = rtx ((rowL c l i).drop (a + k)) ++ restT c l (r - 1 - i) i ∧ ∀ j, j < k → at_ 0 (rowL c l i) ((a + j : Nat) : Int) = at_ 0 (rowL c l i) (a : Int) := by
  rcases h with h | h | h
  · exact h
  · rw [h.1] at hB; exact absurd rfl hB
  · rw [h.1] at hB2; exact absurd rfl hB2
theorem W33 {r c : Nat} {l : List Int} {s : List UInt8} {i a q k : Nat} (h : rdW r c l s i a q k) (h1 : ((at_ 0 s (q : Int)).toNat : Int) ≠ 36) (h2 : ((at_ 0 s (q : Int)).toNat : Int) ≠ 111) (h3 : ((at_ 0 s (q : Int)).toNat : Int) ≠ 98) : at_ 0 s (q : Int) = 33 ∧ i + 1 = r ∧ rtx ((rowL c l i).drop a) = [] ∧ q + 1 = s.length := by
  rcases h with h | h | h
  · exfalso; rw [h.1] at h2 h3; rcases chT_bo (at_ 0 (rowL c l i) (a : Int)) with e | e <;> rw [e] at h2 h3
    · exact h3 rfl
    · exact h2 rfl
  · rw [h.1] at h1; exact absurd rfl h1
  · exact h
end Go.Proofs.YtijmoehbgkibnaaDoor
/- Builders of texts: what each of their operations does; strings.Join. -/
namespace Go.Proofs.YtijmoehbgkibnaaDoor
open HL
set_option maxRecDepth 100000
namespace HL
/-- A byte as a value. -/
abbrev eC (b : UInt8) : Value := .int .u8 (b.toNat : Int)
section
variable {P : Program} {H : Hp}
theorem val_eqP0 (d : Nat) {t e : TypeId} (b : Option Addr) (ht : P.underlying t = some (.pointer e)) : val P (Op.equalIn (d + 1) t (.pointer none) (.pointer b)) H = some b.isNone := by
  simp only [Op.equalIn, val_bind', val_underlying, ht, Option.bind_some]; cases b <;> rfl
theorem val_eqP1 (d : Nat) {t e : TypeId} (a : Addr) (ht : P.underlying t = some (.pointer e)) : val P (Op.equalIn (d + 1) t (.pointer (some a)) (.pointer none)) H = some false := by
  simp only [Op.equalIn, val_bind', val_underlying, ht, Option.bind_some]; rfl
theorem val_eqP2 (d : Nat) {t e : TypeId} (a : Addr) {k : Nat} (ht : P.underlying t = some (.pointer e)) (he : szO P e = some (k + 1)) : val P (Op.equalIn (d + 1) t (.pointer (some a)) (.pointer (some a))) H = some true := by
  simp only [Op.equalIn, val_bind', val_underlying, ht, Option.bind_some, val_sizeOf, he]
  rw [if_pos (by omega)]
  simp only [sameAddr, beq_self_eq_true, if_true]
  rfl
theorem val_ptr_nil {t e : TypeId} {x y : Operand} (ht : P.underlying t = some (.pointer e)) : val P (do eqGuard .eql t x y (.pointer none) (.pointer none); binOp .eql t (.pointer none) (.pointer none)) H = some (.bool true) := by
  have e1 : val P (Op.equal t (.pointer none) (.pointer none)) H = some true := val_eqP0 9999 none ht
  rw [val_bind', val_eqGuard_other P .eql t x y _ _ H (by simp) (by simp)]
  simp only [Option.bind_some, binOp, val_bind', e1, val_pure]
theorem val_ptr_some {t e : TypeId} {x y : Operand} {a : Addr} (ht : P.underlying t = some (.pointer e)) : val P (do eqGuard .eql t x y (.pointer (some a)) (.pointer none); binOp .eql t (.pointer (some a)) (.pointer none)) H = some (.bool false) := by
  have e1 : val P (Op.equal t (.pointer (some a)) (.pointer none)) H = some false := val_eqP1 9999 a ht
  rw [val_bind', val_eqGuard_other P .eql t x y _ _ H (by simp) (by simp)]
  simp only [Option.bind_some, binOp, val_bind', e1, val_pure]
theorem val_ptr_same {t e : TypeId} {x y : Operand} {a : Addr} {k : Nat} (ht : P.underlying t = some (.pointer e)) (he : szO P e = some (k + 1)) : val P (do eqGuard .neq t x y (.pointer (some a)) (.pointer (some a)); binOp .neq t (.pointer (some a)) (.pointer (some a))) H = some (.bool false) := by
  have e1 : val P (Op.equal t (.pointer (some a)) (.pointer (some a))) H = some true := val_eqP2 9999 a ht he
  rw [val_bind', val_eqGuard_other P .neq t x y _ _ H (by simp) (by simp)]
  simp only [Option.bind_some, binOp, val_bind', e1, val_pure, Bool.not_true]
theorem val_viewAt {r : Nat} {c : Array Value} {e : TypeId} {f : Nat × Nat} (h : H r = some (.cells c e f)) : val P (viewAt r) H = some none := by
  simp only [viewAt, shape, val_bind', val, h, Option.bind_some]
  rfl
theorem val_seenAt {a : Addr} {c : Array Value} {e : TypeId} {f : Nat × Nat} (h : H a.block = some (.cells c e f)) : val P (Conv.seenAt a) H = some a := by
  simp only [Conv.seenAt, val_bind', val_viewAt h, Option.bind_some]
  rfl
theorem val_cellsIn {r : Nat} {c : Array Value} {e : TypeId} {f : Nat × Nat} (h : H r = some (.cells c e f)) : val P (cellsIn r) H = some (some c.size) := by
  simp only [cellsIn, shape, val_bind', val, h, Option.bind_some]
  rfl
theorem val_variablesAt {a : Addr} {c : Array Value} {e u : TypeId} {f : Nat × Nat} {n : Nat} (h : H a.block = some (.cells c e f)) (hl : liesAt P P.depth e (c.size / P.cellsOf e) a.off u n = true) : val P (variablesAt a u n) H = some true := by
  simp only [variablesAt, shape, program, val_bind', val, h, Option.bind_some]
  rw [hl]
  rfl
theorem val_up {s d t : TypeId} {k : Nat} {a : Addr} {c : Array Value} {e : TypeId} {f : Nat × Nat} (hs : P.underlying s = some (.pointer t)) (hd : P.underlying d = some .unsafePointer) (ht : szO P t = some (k + 1)) (h : H a.block = some (.cells c e f)) (ha : a.off < c.size) :
    val P (convert s d (.pointer (some a))) H = some (.pointer (some a)) := by
  simp only [convert, val_bind', val_underlying, hs, hd, Option.bind_some, Conv.unsafePointer, val_seenAt h, val_cellsIn h, val_sizeOf, ht]
  rw [if_neg]
  · rfl
  · simp; omega
theorem val_down {s d u : TypeId} {a : Addr} {c : Array Value} {e : TypeId} {f : Nat × Nat} {k : Nat} (hs : P.underlying s = some .unsafePointer) (hd : P.underlying d = some (.pointer u)) (hu : szO P u = some (k + 1)) (h : H a.block = some (.cells c e f)) (hl : liesAt P P.depth e (c.size / P.cellsOf e) a.off u 1 = true) :
    val P (convert s d (.pointer (some a))) H = some (.pointer (some a)) := by
  simp only [convert, val_bind', val_underlying, hs, hd, Option.bind_some, Conv.unsafePointer, val_seenAt h, val_sizeOf, hu, val_variablesAt h hl]
  rw [if_pos (by simp)]
  rfl
theorem rowAt_plain {d e u count off n : Nat} (hs : P.cellsOf e = 1) (hf : sameLayout P P.depth e u = true) (h : off + n ≤ count) : liesAt P (d + 1) e count off u n = true := by
  have hd : ∃ d', P.depth = d' + 1 := by
    cases hd : P.depth with
    | zero => rw [hd] at hf; simp [sameLayout] at hf
    | succ d' => exact ⟨d', rfl⟩
  obtain ⟨d', hd⟩ := hd
  unfold liesAt
  rw [hd]
  unfold rowAt
  simp only [hs, Nat.div_one, Nat.mod_one]
  rw [hd] at hf
  simp [hf, h]
theorem lies_plain {e u count off n : Nat} (hs : P.cellsOf e = 1) (hf : sameLayout P P.depth e u = true) (h : off + n ≤ count) : liesAt P P.depth e count off u n = true := by
  obtain ⟨d', hd⟩ : ∃ d', P.depth = d' + 1 := by
    cases hd : P.depth with
    | zero => rw [hd] at hf; simp [sameLayout] at hf
    | succ d' => exact ⟨d', rfl⟩
  have := rowAt_plain (d := d') hs hf h
  rw [← hd] at this
  exact this
theorem val_loadBytes : ∀ (l : List UInt8) (a : Addr) (acc : ByteArray), (∀ i (h : i < l.length), H.cell? (a.add i) = some (eC l[i])) → val P (loadBytes a acc l.length) H = some ⟨acc.data ++ l.toArray⟩
  | [], a, acc, _ => by simp [loadBytes, val_pure]
  | x :: l, a, acc, h => by
    have h0 := h 0 (by simp)
    rw [show a.add 0 = a from rfl] at h0
    have ih := val_loadBytes l (a.add 1) (acc.push x) (fun i hi => by
      have := h (i + 1) (by simpa using hi)
      rw [show (a.add 1).add i = a.add (i + 1) by
        unfold Addr.add
        by_cases hi : i = 0
        · subst hi; rfl
        · simp [hi, Nat.add_comm, Nat.add_left_comm]]
      simpa using this)
    simp only [List.length_cons, loadBytes, load, val_bind', val, h0, Option.bind_some, List.getElem_cons_zero]
    rw [show (Int.toNat ((x.toNat : Nat) : Int)).toUInt8 = x by simp, ih]
    congr 2
    show acc.data.push x ++ l.toArray = acc.data ++ (x :: l).toArray
    simp
theorem digits_size : ∀ (n t : Nat) (acc : Array Value), (Extern.BytealgMakeNoZero.digits n t acc).size = acc.size + n
  | 0, _, _ => rfl
  | n + 1, t, acc => by
    unfold Extern.BytealgMakeNoZero.digits
    rw [digits_size]; simp; omega
theorem hp_makeNoZero {params results : Array TypeId} {t e : TypeId} {n : Int} {Q : Value → Hp → Prop} (hr : results[0]? = some t) (ht : P.underlying t = some (.slice e)) (h0 : 0 ≤ n) (h1 : n ≤ 1099511627776)
    (hk : ∀ c r (cs : Array Value), n.toNat ≤ c → c < 9223372036854775808 → H r = none → cs.size = c → Q (.slice (some ⟨r, 0, none⟩) n.toNat c) (H.put r (.cells cs e (0, 0)))) : hp P (Extern.BytealgMakeNoZero.makeNoZero params results #[.int .i64 n]) H Q := by
  delta Extern.BytealgMakeNoZero.makeNoZero
  have e0 : ∀ (f : Int → Sem Value) (g : Array Value → Sem Value), Extern.BytealgMakeNoZero.makeNoZero.match_3 (fun _ => Sem Value) #[.int .i64 n] f g = f n := fun _ _ => rfl
  rw [e0]
  simp only [hr]
  refine hp_val_bind P _ _ H Q _ (by rw [val_underlying, ht]) ?_
  simp only
  rw [if_neg (by simp; omega)]
  simp only [choose, hp_bind', hp, Question.forced, Bool.false_eq_true, if_false]
  intro tt
  refine hp_askRoom P _ H _ ?_
  intro t2
  refine hp_newRow P _ _ _ _ ?_
  intro r hr'
  have hcut : (Question.appendCap n.toNat 0 e).cut tt = n.toNat + tt % (2 ^ 63 - n.toNat) := rfl
  refine hk _ r _ ?_ ?_ hr' (by rw [digits_size]; simp)
  · rw [hcut]; omega
  · rw [hcut]
    have : tt % (2 ^ 63 - n.toNat) < 2 ^ 63 - n.toNat := Nat.mod_lt _ (by omega)
    omega
end
end HL
/-- A Builder's header and its room. -/
structure Bd (e eb : TypeId) (H : Hp) (r b c : Nat) (l : List UInt8) : Prop where
  ne : r ≠ b
  hdr : H r = some (.cells #[.pointer (some ⟨r, 0, none⟩), .slice (some ⟨b, 0, none⟩) l.length c] e (0, 0))
  buf : ∃ cs : Array Value, H b = some (.cells cs eb (0, 0)) ∧ cs.size = c ∧ l.length ≤ c ∧ ∀ i (h : i < l.length), cs[i]? = some (eC l[i])
noncomputable def nzR : Array TypeId := ((prg.funcs[I.internal_bytealg_MakeNoZero]?).map (·.resultTypes)).getD #[]
noncomputable def nzT : TypeId := (nzR[0]?).getD 0
noncomputable def nzE : TypeId := match prg.underlying nzT with | some (.slice e) => e | _ => 0
section
variable {H : Hp} {K : Value → Hp → Prop} {r b c : Nat} {e eb : TypeId} {l s : List UInt8}
theorem vLoad_cell {H : Hp} {r k : Nat} {c : Array Value} {e : TypeId} {f : Nat × Nat} {v : Value} (h : H r = some (.cells c e f)) (hv : c[k]? = some v) : vLoad (.pointer (some ⟨r, k, none⟩)) H = some v := by
  simp only [vLoad, Hp.cell?, h]
  simpa using hv
theorem st_cell {H : Hp} {r k : Nat} {c : Array Value} {e : TypeId} {x : Value} {K : Hp → Prop} (h : H r = some (.cells c e (0, 0))) (hk : k < c.size) (ho : oneCell x = true) (hz : x.cells = #[x]) (hK : K (H.put r (.cells (c.setIfInBounds k x) e (0, 0)))) : st 1 (.pointer (some ⟨r, k, none⟩)) x H K := by
  simp only [HL.st, hz, List.toList_toArray, List.size_toArray, List.length_singleton, true_and, stC, add_none, Nat.add_zero]
  refine ⟨ho, ?_, ?_, ?_⟩
  · simp only [Hp.cell?, h]; simp [hk]
  · simp only [Hp.frozen?, h]; simp
  · simp only [Hp.setCell, h]; exact hK
end
noncomputable def bdP : TypeId := ((prg.funcs[I.pstrings_Builder_copyCheck]?).bind (·.params[0]?)).getD 0
noncomputable def bdE : TypeId := match prg.underlying bdP with | some (.pointer e) => e | _ => 0
section
variable {H : Hp} {K : Value → Hp → Prop} {r b c : Nat} {eb : TypeId} {l s : List UInt8}
theorem C.Builder_copyCheck_new {u : Value} (h : H r = some (.cells #[.pointer none, u] bdE (0, 0))) (hk : K (.tuple #[]) (H.put r (.cells #[.pointer (some ⟨r, 0, none⟩), u] bdE (0, 0)))) :
    HT prg I.pstrings_Builder_copyCheck [.pointer (some ⟨r, 0, none⟩)].toArray H K := by
 refine R.pstrings_Builder_copyCheck ?_
 unfold F.pstrings_Builder_copyCheck
 refine ob_i (a := .pointer (some ⟨r, 0, none⟩)) rfl ?_
 refine ob_i (a := .pointer (some ⟨r, 0, none⟩)) rfl ?_
 refine ob_i (vLoad_cell h rfl) ?_
 refine ob_i (val_ptr_nil (e := bdE) (by kernel_rfl)) ?_
 refine cnd_t1 ?_
 refine hp_of_val prg _ _ _ _ (val_up (t := bdE) (k := 1) (by kernel_rfl) (by kernel_rfl) (by kernel_rfl) h (by simp)) ?_
 have e0 : ∀ Q, hp prg (callFunc I.internal_abi_NoEscape [Value.pointer (some ⟨r, 0, none⟩)].toArray) H Q = Q (.value (.pointer (some ⟨r, 0, none⟩))) H := fun Q => by kernel_rfl
 rw [e0]
 refine hp_of_val prg _ _ _ _ (val_down (u := bdE) (k := 1) (by kernel_rfl) (by kernel_rfl) (by kernel_rfl) h (by kernel_rfl)) ?_
 refine ob_i (a := .pointer (some ⟨r, 0, none⟩)) rfl ?_
 refine ob_i (a := .pointer (some ⟨r, 0, none⟩)) rfl ?_
 exact st_cell h (by simp) rfl rfl hk
theorem C.Builder_copyCheck_old {u : Value} (h : H r = some (.cells #[.pointer (some ⟨r, 0, none⟩), u] bdE (0, 0))) (hk : K (.tuple #[]) H) :
    HT prg I.pstrings_Builder_copyCheck [.pointer (some ⟨r, 0, none⟩)].toArray H K := by
 refine R.pstrings_Builder_copyCheck ?_
 unfold F.pstrings_Builder_copyCheck
 refine ob_i (a := .pointer (some ⟨r, 0, none⟩)) rfl ?_
 refine ob_i (a := .pointer (some ⟨r, 0, none⟩)) rfl ?_
 refine ob_i (vLoad_cell h rfl) ?_
 refine ob_i (val_ptr_some (e := bdE) (by kernel_rfl)) ?_
 refine cnd_f1 ?_
 refine ob_i (a := .pointer (some ⟨r, 0, none⟩)) rfl ?_
 refine ob_i (a := .pointer (some ⟨r, 0, none⟩)) rfl ?_
 refine ob_i (vLoad_cell h rfl) ?_
 refine ob_i (val_ptr_same (e := bdE) (k := 1) (by kernel_rfl) (by kernel_rfl)) ?_
 refine cnd_f1 ?_
 exact hk
theorem C.Builder_Grow {n : Int} (h : H r = some (.cells #[.pointer none, .slice none 0 0] bdE (0, 0))) (n0 : 1 ≤ n) (n1 : n ≤ 1099511627776)
    (hk : ∀ b c H', n.toNat ≤ c → c < 9223372036854775808 → H b = none → Bd bdE nzE H' r b c [] → (∀ x o, H x = some o → x ≠ r → H' x = some o) → K (.tuple #[]) H') :
    HT prg I.pstrings_Builder_Grow [.pointer (some ⟨r, 0, none⟩), .int .i64 n].toArray H K := by
 refine R.pstrings_Builder_Grow ?_
 unfold F.pstrings_Builder_Grow
 refine C.Builder_copyCheck_new h ?_
 have h1 : (H.put r (.cells #[.pointer (some ⟨r, 0, none⟩), .slice none 0 0] bdE (0, 0))) r = some (.cells #[.pointer (some ⟨r, 0, none⟩), .slice none 0 0] bdE (0, 0)) := Hp.put_same _ _ _
 refine jn_i (fun σ H' => σ 0 = .pointer (some ⟨r, 0, none⟩) ∧ σ 1 = .int .i64 n ∧ H' = H.put r (.cells #[.pointer (some ⟨r, 0, none⟩), .slice none 0 0] bdE (0, 0))) (fun σ H2 hP => ?_) (fun J hJ => ?_)
 ·obtain ⟨g0, g1, rfl⟩ := hP
  simp only [g0, g1]
  refine ob_i (a := .pointer (some ⟨r, 0, none⟩)) rfl ?_
  refine ob_i (a := .pointer (some ⟨r, 1, none⟩)) rfl ?_
  refine ob_i (vLoad_cell h1 rfl) ?_
  refine ob_i (a := .int .i64 0) rfl ?_
  refine ob_i (a := .pointer (some ⟨r, 0, none⟩)) rfl ?_
  refine ob_i (a := .pointer (some ⟨r, 1, none⟩)) rfl ?_
  refine ob_i (vLoad_cell h1 rfl) ?_
  refine ob_i (a := .int .i64 0) rfl ?_
  refine ob_i (vInt_sub (by omega) (by omega)) ?_
  refine ob_i (vInt_lss _ _ _) ?_
  rw [decide_eq_true (show (0 : Int) - 0 < n by omega)]
  refine cnd_t1 ?_
  refine R.pstrings_Builder_grow ?_
  unfold F.pstrings_Builder_grow
  refine ob_i (a := .pointer (some ⟨r, 0, none⟩)) rfl ?_
  refine ob_i (a := .pointer (some ⟨r, 1, none⟩)) rfl ?_
  refine ob_i (vLoad_cell h1 rfl) ?_
  refine ob_i (a := .int .i64 0) rfl ?_
  refine ob_i (vInt_mul (by omega) (by omega)) ?_
  refine ob_i (vInt_add (by omega) (by omega)) ?_
  refine ob_i (a := .pointer (some ⟨r, 0, none⟩)) rfl ?_
  refine ob_i (a := .pointer (some ⟨r, 1, none⟩)) rfl ?_
  refine ob_i (vLoad_cell h1 rfl) ?_
  refine ob_i (a := .int .i64 0) rfl ?_
  rw [show (2 : Int) * 0 + n = n by omega]
  have e0 : ∀ H Q, hp prg (callFunc I.internal_bytealg_MakeNoZero [Value.int .i64 n].toArray) H Q = hp prg (do pure (Next.value (← Extern.BytealgMakeNoZero.makeNoZero nzR nzR #[.int .i64 n]))) H Q := fun H Q => by kernel_rfl
  rw [e0]
  refine hp_v ?_
  refine hp_makeNoZero (t := nzT) (e := nzE) (by kernel_rfl) (by kernel_rfl) (by omega) n1 (fun c b cs hc1 hc2 hb hcs => ?_)
  have hrb : r ≠ b := by rintro rfl; rw [h1] at hb; exact absurd hb (by simp)
  have hbH : H b = none := by rw [Hp.put_ne _ _ (Ne.symm hrb)] at hb; exact hb
  refine ⟨Le.put _ hb, ?_⟩
  have e1 : vSl3 1 (.slice (some ⟨b, 0, none⟩) n.toNat c) none (some (.int .i64 0)) none = some (.slice (some ⟨b, 0, none⟩) 0 c) := by
   simp only [vSl3, vSl, bnd]
   rw [if_pos ⟨by omega, by omega⟩]
   simp only [Option.map_some, Nat.zero_mul, Nat.sub_zero]
   congr 1
   split <;> rfl
  refine ob_i e1 ?_
  have h2 : ((H.put r (.cells #[.pointer (some ⟨r, 0, none⟩), .slice none 0 0] bdE (0, 0))).put b (.cells cs nzE (0, 0))) r = some (.cells #[.pointer (some ⟨r, 0, none⟩), .slice none 0 0] bdE (0, 0)) := by
   rw [Hp.put_ne _ _ hrb]; exact h1
  refine ob_i (a := .pointer (some ⟨r, 0, none⟩)) rfl ?_
  refine ob_i (a := .pointer (some ⟨r, 1, none⟩)) rfl ?_
  refine ob_i (vLoad_cell h2 rfl) ?_
  refine hp_v ?_
  refine hp_of_val prg _ _ _ (.int .i64 0) (by kernel_rfl) ?_
  refine ob_i (a := .pointer (some ⟨r, 0, none⟩)) rfl ?_
  refine ob_i (a := .pointer (some ⟨r, 1, none⟩)) rfl ?_
  refine st_cell h2 (by simp) rfl rfl ?_
  refine hk b c _ hc1 hc2 hbH ⟨hrb, Hp.put_same _ _ _, cs, by rw [Hp.put_ne _ _ (Ne.symm hrb), Hp.put_same], hcs, by simp, fun i hi => absurd hi (by simp)⟩ (fun x o hx hxr => ?_)
  have hxb : x ≠ b := by rintro rfl; rw [hbH] at hx; exact absurd hx (by simp)
  rw [Hp.put_ne _ _ hxr, Hp.put_ne _ _ hxb, Hp.put_ne _ _ hxr]
  exact hx
 ·refine ob_i (vInt_lss _ _ _) ?_
  rw [decide_eq_false (show ¬ n < 0 by omega)]
  refine cnd_f1 ?_
  exact hJ _ _ ⟨rfl, rfl, rfl⟩
theorem firstC_str {H : Hp} : firstC H 1 s.length (vS s) = some (s.map eC) := by
  simp only [firstC]
  congr 1
  have : (tS s).extract 0 s.length = tS s := by rw [tS_extract]; simp
  rw [this, tS_data]
theorem C.Builder_WriteString (h : Bd bdE eb H r b c l) (hc : l.length + s.length ≤ c)
    (hk : ∀ H', Bd bdE eb H' r b c (l ++ s) → (∀ x o, H x = some o → x ≠ r → x ≠ b → H' x = some o) → K (.tuple #[.int .i64 s.length, .nilIface]) H') :
    HT prg I.pstrings_Builder_WriteString [.pointer (some ⟨r, 0, none⟩), vS s].toArray H K := by
 refine R.pstrings_Builder_WriteString ?_
 unfold F.pstrings_Builder_WriteString
 refine C.Builder_copyCheck_old h.hdr ?_
 refine ob_i (a := .pointer (some ⟨r, 0, none⟩)) rfl ?_
 refine ob_i (a := .pointer (some ⟨r, 1, none⟩)) rfl ?_
 refine ob_i (a := .slice (some ⟨b, 0, none⟩) l.length c) (vLoad_cell h.hdr rfl) ?_
 obtain ⟨cs, hb, hcs, hlc, hel⟩ := h.buf
 have hlen : lenO (vS s) = some s.length := rfl
 simp only [HL.apd, hlen]
 rw [if_pos hc]
 simp only [firstC_str]
 refine stC_run (b := b) (e := eb) (s.map eC) _ 0 cs H (by rw [Nat.mul_one]; unfold Addr.add; split <;> rfl) (by rw [Nat.mul_one]; unfold Addr.add; split <;> rfl) hb (by rw [Nat.mul_one, add_none]; simp; omega) (by simp; intro x _; rfl) ?_
 intro H' cs' h1 h2 h3 h4 h5
 rw [Nat.mul_one, add_none] at h3 h4
 simp only [Nat.add_zero, Nat.zero_add] at h3 h4
 have hr' : H' r = some (.cells #[.pointer (some ⟨r, 0, none⟩), .slice (some ⟨b, 0, none⟩) l.length c] bdE (0, 0)) := by rw [h5 r h.ne]; exact h.hdr
 refine ob_i (a := .pointer (some ⟨r, 0, none⟩)) rfl ?_
 refine ob_i (a := .pointer (some ⟨r, 1, none⟩)) rfl ?_
 refine st_cell hr' (by simp) rfl rfl ?_
 refine ob_i (vLenS_t s) ?_
 refine hk _ ⟨h.ne, by rw [Hp.put_same]; simp, cs', by rw [Hp.put_ne _ _ (Ne.symm h.ne)]; exact h1, by rw [h2, hcs], by simpa using hc, fun i hi => ?_⟩ (fun x o hx hxr hxb => ?_)
 ·by_cases hil : i < l.length
  ·rw [h3 i hil, hel i hil, List.getElem_append_left hil]
  ·have := h4 (i - l.length) (by simp at hi ⊢; omega)
   rw [show l.length + (i - l.length) = i by omega] at this
   rw [this, List.getElem_append_right (by omega)]; simp
 ·rw [Hp.put_ne _ _ hxr, h5 x hxb]; exact hx
theorem C.Builder_String (h : Bd bdE nzE H r b c l) (hl : 0 < l.length) (hl2 : l.length ≤ 9223372036854775807) (hk : ∀ H', (∀ x o, H x = some o → x ≠ r → x ≠ b → H' x = some o) → K (vS l) H') :
    HT prg I.pstrings_Builder_String [.pointer (some ⟨r, 0, none⟩)].toArray H K := by
 obtain ⟨cs, hb, hcs, hlc, hel⟩ := h.buf
 have e1 : ∀ ts ty H, val prg (Builtin.unsafeSliceData_ ts ty #[.slice (some ⟨b, 0, none⟩) l.length c]) H = some (.pointer (some ⟨b, 0, none⟩)) := fun ts ty H => by
  obtain ⟨c', hc'⟩ : ∃ c', c = c' + 1 := ⟨c - 1, by omega⟩
  rw [hc']
  kernel_rfl
 have hld : val prg (loadBytes ⟨b, 0, none⟩ .empty l.length) H = some ⟨ByteArray.empty.data ++ l.toArray⟩ := val_loadBytes l _ _ (fun i hi => by
  rw [add_none]
  simp only [Hp.cell?, hb, Nat.zero_add, hel i hi]; rfl)
 have e2 : ∀ (ts : Array TypeId) ty pt (Q : Value → Hp → Prop), ts[0]? = some pt → prg.underlying pt = some (.pointer nzE) → (∀ H', (∀ x o, H x = some o → x ≠ r → x ≠ b → H' x = some o) → Q (vS l) H') → hp prg (Builtin.unsafeString_ ts ty #[.pointer (some ⟨b, 0, none⟩), .int .i64 l.length]) H Q := fun ts ty pt Q ht hpt hQ => by
  delta Builtin.unsafeString_
  have e0 : ∀ (f : Option Addr → Value → Sem Value) (g : Array Value → Sem Value), Builtin.unsafeString_.match_3 (fun _ => Sem Value) #[.pointer (some ⟨b, 0, none⟩), .int .i64 l.length] f g = f (some ⟨b, 0, none⟩) (.int .i64 l.length) := fun _ _ => rfl
  rw [e0]
  refine hp_val_bind prg _ _ H Q (l.length : Int) (by kernel_rfl) ?_
  simp only [ht]
  have em : IntKind.i64.max = 9223372036854775807 := by decide
  rw [if_neg (by omega), if_neg (by rw [em]; omega)]
  have hn0 : ¬ ((l.length : Int) = 0) := by omega
  simp only [hn0, if_false]
  refine hp_val_bind prg _ _ H Q nzE (by simp only [elemOf, val_bind', val_underlying, hpt, Option.bind_some]; rfl) ?_
  have hs1 : prg.cellsOf nzE = 1 := by kernel_rfl
  refine hp_val_bind prg _ _ H Q true (val_variablesAt hb (by rw [hs1, Nat.div_one]; exact lies_plain hs1 (by kernel_rfl) (by simp; omega))) ?_
  simp only [if_true]
  rw [Int.toNat_natCast]
  refine hp_val_bind prg _ _ H Q _ hld ?_
  simp only [freeze, hp_bind', hp, hb]
  rw [if_neg (by omega)]
  have et : (⟨ByteArray.empty.data ++ l.toArray⟩ : ByteArray) = tS l := by
   show (⟨#[] ++ l.toArray⟩ : ByteArray) = _
   rw [Array.empty_append]; rfl
  rw [et]
  exact hQ _ (fun x o hx hxr hxb => by rw [Hp.put_ne _ _ hxb]; exact hx)
 refine R.pstrings_Builder_String ?_
 unfold F.pstrings_Builder_String
 refine ⟨?_, ?_⟩
 ·refine ob_i (a := .pointer (some ⟨r, 0, none⟩)) rfl ?_
  refine ob_i (a := .pointer (some ⟨r, 1, none⟩)) rfl ?_
  refine ob_i (a := .slice (some ⟨b, 0, none⟩) l.length c) (vLoad_cell h.hdr rfl) ?_
  refine ob_i (a := .pointer (some ⟨r, 0, none⟩)) rfl ?_
  refine ob_i (a := .pointer (some ⟨r, 1, none⟩)) rfl ?_
  refine ob_i (a := .slice (some ⟨b, 0, none⟩) l.length c) (vLoad_cell h.hdr rfl) ?_
  refine ob_i (a := .int .i64 l.length) rfl ?_
  refine hp_v (hp_of_val prg _ _ _ _ (e1 _ _ _) ?_)
  refine hp_v (e2 _ _ _ _ rfl (by kernel_rfl) (fun H' hH' => hk H' hH'))
 ·refine ob_i (a := .pointer (some ⟨r, 0, none⟩)) rfl ?_
  refine ob_i (a := .pointer (some ⟨r, 1, none⟩)) rfl ?_
  refine ob_i (a := .slice (some ⟨b, 0, none⟩) l.length c) (vLoad_cell h.hdr rfl) ?_
  refine ob_i (a := .pointer (some ⟨r, 0, none⟩)) rfl ?_
  refine ob_i (a := .pointer (some ⟨r, 1, none⟩)) rfl ?_
  refine hp_v (hp_of_val prg _ _ _ _ (e1 _ _ _) ?_)
  refine ob_i (a := .slice (some ⟨b, 0, none⟩) l.length c) (vLoad_cell h.hdr rfl) ?_
  refine ob_i (a := .int .i64 l.length) rfl ?_
  refine hp_v (e2 _ _ _ _ rfl (by kernel_rfl) (fun H' hH' => hk H' hH'))
end
end Go.Proofs.YtijmoehbgkibnaaDoor
/- strings.Join, with one byte between the texts. -/
namespace Go.Proofs.YtijmoehbgkibnaaDoor
open HL
set_option maxRecDepth 100000
theorem joinT_len (x : UInt8) (a : List UInt8) : ∀ r : List (List UInt8), (joinT [x] (a :: r)).length = r.length + (a :: r).flatten.length
  | [] => by simp [joinT]
  | b :: r => by
    have ih := joinT_len x a r
    simp only [joinT, List.flatMap_cons, List.length_append, List.length_cons, List.length_nil, List.flatten_cons] at ih ⊢
    omega
theorem flat_snoc (ls : List (List UInt8)) (x : List UInt8) : (ls ++ [x]).flatten.length = ls.flatten.length + x.length := by simp
theorem flat_take (ls : List (List UInt8)) (t : Nat) : (ls.take t).flatten.length ≤ ls.flatten.length := by
  have := congrArg (fun l => l.flatten.length) (List.take_append_drop t ls)
  simp only [List.flatten_append, List.length_append] at this
  omega
theorem flat_at (ls : List (List UInt8)) {t : Nat} (ht : t < ls.length) : (ls.take t).flatten.length + (at_ [] ls (t : Int)).length ≤ ls.flatten.length := by
  have := flat_take ls (t + 1)
  rw [take_at [] ls ht, flat_snoc] at this
  exact this
theorem C.strings_Join {v : Value} {ls : List (List UInt8)} {x : UInt8} {H : Hp} {K : Value → Hp → Prop} (hv : Sl vS H v ls) (h1 : ls.length ≤ 1000000) (h2 : ls.flatten.length ≤ 1000000000) (hk : ∀ H', Le H H' → K (vS (joinT [x] ls)) H') :
    HT prg I.strings_Join [v, vS [x]].toArray H K := by
 refine R.strings_Join ?_
 unfold F.strings_Join
 refine ob_i hv.len ?_
 refine ob_i (vInt_eql _ _ _) ?_
 refine cnd_d (fun h0 => ?_) (fun h0 => ?_)
 ·obtain rfl : ls = [] := List.length_eq_zero_iff.mp (by omega)
  exact hk H (Le.refl H)
 refine ob_i (vInt_eql _ _ _) ?_
 refine cnd_d (fun h3 => ?_) (fun h3 => ?_)
 ·refine ob_i (hv.ix (by omega) (by omega)) ?_
  refine ob_i (hv.ld [] (by omega) (by omega)) ?_
  obtain ⟨a, rfl⟩ := List.length_eq_one_iff.mp (show ls.length = 1 by omega)
  have := hk H (Le.refl H)
  simp only [joinT, List.flatMap_nil, List.append_nil] at this
  exact this
 obtain ⟨a, r, rfl⟩ : ∃ a r, ls = a :: r := by cases ls with | nil => simp at h0 | cons a r => exact ⟨a, r, rfl⟩
 have hjl := joinT_len x a r
 have hrl : (a :: r).length = r.length + 1 := rfl
 have h2' := h2
 generalize hLS : a :: r = ls at *
 refine jn_i (fun σ H' => σ 0 = v ∧ σ 1 = vS [x] ∧ σ 5 = .int .i64 (r.length : Int) ∧ H' = H) (fun σ H6 hP => ?_) (fun J6 hJ6 => ?_)
 ·obtain ⟨g0, g1, g5, rfl⟩ := hP
  refine jn_i (fun σ' H' => σ' 0 = v ∧ σ' 1 = vS [x] ∧ σ' 5 = .int .i64 ((joinT [x] ls).length : Int) ∧ H' = H6) (fun σ7 H7 hP => ?_) (fun J7 hJ7 => ?_)
  ·obtain ⟨g0, g1, g5, rfl⟩ := hP
   simp only [g0, g5]
   intro rb hrb
   have hH : (H7.put rb (.cells #[.pointer none, .slice none 0 0] bdE (0, 0))) rb = some (.cells #[.pointer none, .slice none 0 0] bdE (0, 0)) := Hp.put_same _ _ _
   have hle1 : Le H7 (H7.put rb (.cells #[.pointer none, .slice none 0 0] bdE (0, 0))) := Le.put _ hrb
   refine (?_ : HT prg I.pstrings_Builder_Grow [.pointer (some ⟨rb, 0, none⟩), .int .i64 ((joinT [x] ls).length : Int)].toArray (H7.put rb (.cells #[.pointer none, .slice none 0 0] bdE (0, 0))) _)
   refine C.Builder_Grow hH (by omega) (by omega) (fun b c H11 hc1 hc2 hb hB hoth => ?_)
   have hbH : H7 b = none := by
    have : b ≠ rb := by rintro rfl; rw [hH] at hb; exact absurd hb (by simp)
    rw [Hp.put_ne _ _ this] at hb; exact hb
   have hle2 : Le H7 H11 := fun y o hy => hoth y o (hle1 y o hy) (by rintro rfl; rw [hrb] at hy; exact absurd hy (by simp))
   have keep : ∀ {A B : Hp}, Le H7 A → (∀ y o, A y = some o → y ≠ rb → y ≠ b → B y = some o) → Le H7 B := fun hA hAB y o hy =>
    hAB y o (hA y o hy) (by rintro rfl; rw [hrb] at hy; exact absurd hy (by simp)) (by rintro rfl; rw [hbH] at hy; exact absurd hy (by simp))
   have hv11 := hv.le hle2
   refine ob_i (hv11.ix (by omega) (by omega)) ?_
   refine ob_i (hv11.ld [] (by omega) (by omega)) ?_
   have ha0 : at_ [] ls 0 = a := by rw [← hLS]; rfl
   rw [ha0]
   have hal : a.length ≤ (joinT [x] ls).length := by
    rw [hjl, ← hLS]; simp; omega
   refine C.Builder_WriteString hB (by rw [Int.toNat_natCast] at hc1; simp; omega) (fun H15 hB15 hoth15 => ?_)
   have hle3 := keep hle2 hoth15
   rw [List.nil_append] at hB15
   have e1 : vSl3 1 v (some (.int .i64 1)) none none = some (vSl3 1 v (some (.int .i64 1)) none none).get! := by
    obtain ⟨y, _, hy2, _⟩ := hv.cut (lo := 1) (hi := (ls.length : Int)) (by omega) (by omega) (by omega)
    rw [hy2 rfl]; rfl
   obtain ⟨y, _, hy2, _, _, hy5, _⟩ := hv.cut (lo := 1) (hi := (ls.length : Int)) (by omega) (by omega) (by omega)
   have hy2 := hy2 rfl
   have hyl : ((ls.drop (Int.toNat 1)).take ((ls.length : Int).toNat - Int.toNat 1)) = r := by
    rw [← hLS]; simp
   rw [hyl] at hy5
   refine jn_i (fun σ' H' => σ' 8 = .pointer (some ⟨rb, 0, none⟩) ∧ Bd bdE nzE H' rb b c (joinT [x] ls) ∧ Le H7 H') (fun σ16 H16 hP => ?_) (fun J16 hJ16 => ?_)
   ·obtain ⟨g8, hB16, hle16⟩ := hP
    simp only [g8]
    refine C.Builder_String hB16 (by omega) (by omega) (fun H' hoth' => ?_)
    exact hk H' (keep hle16 hoth')
   ·refine ob_i hy2 ?_
    refine ob_i hy5.len ?_
    refine ⟨fun n σ' H' => ∃ t : Nat, n = r.length - t ∧ t ≤ r.length ∧ σ' 1 = vS [x] ∧ σ' 8 = .pointer (some ⟨rb, 0, none⟩) ∧ σ' 63 = y ∧ σ' 64 = .int .i64 (r.length : Int) ∧ σ' 65 = .int .i64 (t : Int) ∧ Bd bdE nzE H' rb b c (joinT [x] (ls.take (t + 1))) ∧ Le H7 H',
     ⟨_, 0, rfl, by omega, g1, rfl, rfl, rfl, rfl, by rw [← hLS]; simpa [joinT] using hB15, hle3⟩, ?_⟩
    rintro n σ' H21 ⟨t, rfl, ht, q1, q8, q63, q64, q65, hB21, hle21⟩
    simp only [q1, q8, q63, q64, q65]
    refine ob_i (vInt_lss _ _ _) ?_
    refine cnd_d (fun hlt => ?_) (fun hge => ?_)
    ·have hy21 := hy5.le hle21
     refine ob_i (hy21.ix (by omega) (by omega)) ?_
     refine ob_i (hy21.ld [] (by omega) (by omega)) ?_
     have hnx : at_ [] r (t : Int) = at_ [] ls ((t + 1 : Nat) : Int) := by
      rw [at_eq [] r (by omega), at_eq [] ls (by rw [hrl]; omega)]
      subst hLS
      simp
     rw [hnx]
     have hsn := joinT_snoc [x] (at_ [] ls ((t + 1 : Nat) : Int)) (ls.take (t + 1)) (by rw [← hLS]; simp)
     rw [← take_at [] ls (by rw [hrl]; omega)] at hsn
     have hl1 : ((joinT [x] (ls.take (t + 1 + 1))).length) ≤ (joinT [x] ls).length := by
      have e2 : ls.take (t + 1 + 1) = a :: r.take (t + 1) := by rw [← hLS]; simp
      have e3 := joinT_len x a (r.take (t + 1))
      have e4 := flat_take ls (t + 1 + 1)
      rw [e2] at e4
      rw [e2, e3, hjl]
      rw [List.length_take]
      have e5 : ls.flatten.length = (a :: r).flatten.length := by rw [hLS]
      omega
     rw [hsn] at hl1
     simp only [List.length_append, List.length_singleton] at hl1
     rw [Int.toNat_natCast] at hc1
     refine C.Builder_WriteString hB21 (by simp only [List.length_singleton]; omega) (fun H26 hB26 hoth26 => ?_)
     refine C.Builder_WriteString hB26 (by simp only [List.length_append, List.length_singleton]; omega) (fun H28 hB28 hoth28 => ?_)
     refine ob_i (vInt_add (by omega) (by omega)) ?_
     exact nxt (r.length - (t + 1)) (by omega) ⟨t + 1, rfl, by omega, q1, q8, q63, q64, rfl, by rw [hsn]; exact hB28, keep (keep hle21 hoth26) hoth28⟩
    ·obtain rfl : t = r.length := by omega
     refine hJ16 _ _ ⟨q8, ?_, hle21⟩
     rw [← hrl, List.take_length] at hB21
     exact hB21
  ·simp only [g0]
   refine ob_i hv.len ?_
   refine ⟨fun n σ' H' => ∃ t : Nat, n = ls.length - t ∧ t ≤ ls.length ∧ σ' 0 = v ∧ σ' 1 = vS [x] ∧ σ' 39 = v ∧ σ' 40 = .int .i64 (ls.length : Int) ∧ σ' 41 = .int .i64 (t : Int) ∧ σ' 5 = .int .i64 ((r.length : Int) + ((ls.take t).flatten.length : Int)) ∧ H' = H6,
    ⟨_, 0, rfl, by omega, g0, g1, rfl, rfl, rfl, g5.trans (congrArg (Value.int .i64) (by simp)), rfl⟩, ?_⟩
   rintro n σ' H31 ⟨t, rfl, ht, q0, q1, q39, q40, q41, q5, rfl⟩
   simp only [q39, q40, q41, q5]
   refine ob_i (vInt_lss _ _ _) ?_
   refine cnd_d (fun hlt => ?_) (fun hge => ?_)
   ·refine ob_i (hv.ix (by omega) (by omega)) ?_
    refine ob_i (hv.ld [] (by omega) (by omega)) ?_
    refine ob_i (vLenS_t _) ?_
    have hf := flat_at ls (t := t) (by omega)
    refine ob_i (vInt_sub (by omega) (by omega)) ?_
    refine ob_i (vInt_gtr _ _ _) ?_
    rw [decide_eq_false (by omega)]
    refine cnd_f1 ?_
    refine ob_i (vLenS_t _) ?_
    refine ob_i (vInt_add (by omega) (by omega)) ?_
    refine ob_i (vInt_add (by omega) (by omega)) ?_
    exact nxt (ls.length - (t + 1)) (by omega) ⟨t + 1, rfl, by omega, q0, q1, q39, q40, congrArg (Value.int .i64) (by omega), congrArg (Value.int .i64) (by rw [take_at [] ls (by omega), flat_snoc]; omega), rfl⟩
   ·obtain rfl : t = ls.length := by omega
    exact hJ7 _ _ ⟨q0, q1, q5.trans (congrArg (Value.int .i64) (by rw [List.take_length, hjl]; omega)), rfl⟩
 ·refine ob_i (vLenS_t [x]) ?_
  refine ob_i (vInt_gtr _ _ _) ?_
  rw [decide_eq_true (show (0 : Int) < (([x] : List UInt8).length : Int) by simp)]
  refine cnd_t1 ?_
  refine ob_i (vLenS_t [x]) ?_
  refine ob_i hv.len ?_
  refine ob_i (vInt_sub (by omega) (by omega)) ?_
  refine ob_i (vInt_quoN (by omega) (by omega) (by omega)) ?_
  refine ob_i (vInt_geq _ _ _) ?_
  have hq : (2 : Int) ≤ 9223372036854775807 / ((ls.length : Int) - 1) := (Int.le_ediv_iff_mul_le (by omega)).mpr (by omega)
  rw [decide_eq_false (by simp only [List.length_singleton]; omega)]
  refine cnd_f1 ?_
  refine ob_i (vLenS_t [x]) ?_
  refine ob_i hv.len ?_
  refine ob_i (vInt_sub (by omega) (by omega)) ?_
  refine ob_i (vInt_mul (by simp only [List.length_singleton]; omega) (by simp only [List.length_singleton]; omega)) ?_
  refine ob_i (vInt_add (by simp only [List.length_singleton]; omega) (by simp only [List.length_singleton]; omega)) ?_
  exact hJ6 _ _ ⟨rfl, rfl, congrArg (Value.int .i64) (by simp only [List.length_singleton]; omega), rfl⟩
end Go.Proofs.YtijmoehbgkibnaaDoor
/- Fields that are made by a function of rows and columns, and fields that grow. -/
namespace Go.Proofs.YtijmoehbgkibnaaDoor
open HL
set_option maxRecDepth 100000
theorem Apart.app {H : Hp} {x u u' : Value} (hx : ∀ b, bk x = some b → ∃ o, H b = some o) (ha : Apart x u) (hb : ∀ b, bk u' = some b → bk u = some b ∨ H b = none) : Apart x u' := fun b h1 h2 => by
  rcases hb b h2 with h | h
  · exact ha b h1 h
  · obtain ⟨o, ho⟩ := hx b h1; rw [h] at ho; simp at ho
theorem Nw.app {H0 H : Hp} {u u' : Value} (hn : Nw H0 u) (hl : Le H0 H) (hb : ∀ b, bk u' = some b → bk u = some b ∨ H b = none) : Nw H0 u' := fun b h => by
  rcases hb b h with h1 | h1
  · exact hn b h1
  · cases ho : H0 b with
    | none => rfl
    | some o => rw [hl b o ho] at h1; simp at h1
theorem bS_i {α : Type} {enc : α → Value} {len : Nat} {z : Value} {e : TypeId} {parts : List (Nat × Value)} {l : List α} {H : Hp} {K : Value → Hp → Prop} (h1 : len ≤ 1000) (hl : l.length = len)
    (hf : Instr.fill (fun i => some (i * 1, 1)) (if len * 1 = 0 then #[] else zrow #[z] (len * 1)) parts = some (l.map enc).toArray) (hk : ∀ v H', Own enc H' v l → Nw H v → Le H H' → K v H') : bS 1 len #[z] e parts H K := by
  refine ⟨by omega, ?_⟩
  rw [hf]
  intro r hr
  subst hl
  refine hk _ _ ⟨some ⟨r, 0, none⟩, l.length, rfl, Nat.le_refl _, fun _ => ⟨r, 0, _, e, rfl, Hp.put_same _ _ _, by simp, fun i hi => by simp [hi]⟩⟩ ?_ (Le.put _ hr)
  intro b hb
  simp only [bk] at hb
  split at hb
  · simp at hb
  · simp only [Option.some.injEq] at hb; subst hb; exact hr
theorem cast_ix {c : Int} {i k : Nat} (hc : 0 ≤ c) : ((i * c.toNat + k : Nat) : Int) = i * c + k := by rw [Int.natCast_add, Int.natCast_mul, Int.toNat_of_nonneg hc]
end Go.Proofs.YtijmoehbgkibnaaDoor
/- Fields as texts. -/
namespace Go.Proofs.YtijmoehbgkibnaaDoor
open HL
set_option maxRecDepth 100000
attribute [local irreducible] vStr
theorem C.internal_strconv_small {n : Int}  {H : Hp} {K : Value → Hp → Prop} (n0 : 0 ≤ n) (n1 : n < 100)
    (hk : K (vS (decT n.toNat)) H) : HT prg I.internal_strconv_small [(.int .i64 (n))].toArray H K := by
 have lE := Le.refl H
 refine R.internal_strconv_small ?_
 unfold F.internal_strconv_small
 refine ob_i (vInt_lss _ _ _) ?_
 refine cnd_d (fun hg1 => ?_) (fun hg1 => ?_)
 ·skip
  refine ob_i (vInt_add (by omega) (by omega)) ?_
  refine ob_i (vSlS_t (a := ([48, 49, 50, 51, 52, 53, 54, 55, 56, 57, 97, 98, 99, 100, 101, 102, 103, 104, 105, 106, 107, 108, 109, 110, 111, 112, 113, 114, 115, 116, 117, 118, 119, 120, 121, 122] : List UInt8)) (by omega) (by omega) (by first | omega | (simp only [List.length_cons, List.length_nil]; omega))) ?_
  skip
  exact keq (K := K) (by rw [show (decT n.toNat) = (((([48, 49, 50, 51, 52, 53, 54, 55, 56, 57, 97, 98, 99, 100, 101, 102, 103, 104, 105, 106, 107, 108, 109, 110, 111, 112, 113, 114, 115, 116, 117, 118, 119, 120, 121, 122] : List UInt8)).drop (n : Int).toNat).take ((n + 1 : Int).toNat - (n : Int).toNat)) from by exact (small_one (by omega) (by omega)).symm]; try rfl) (hk )
 ·skip
  refine ob_i (vInt_mul (by omega) (by omega)) ?_
  refine ob_i (vInt_mul (by omega) (by omega)) ?_
  refine ob_i (vInt_add (by omega) (by omega)) ?_
  refine ob_i (vSlS_t (a := ([48, 48, 48, 49, 48, 50, 48, 51, 48, 52, 48, 53, 48, 54, 48, 55, 48, 56, 48, 57, 49, 48, 49, 49, 49, 50, 49, 51, 49, 52, 49, 53, 49, 54, 49, 55, 49, 56, 49, 57, 50, 48, 50, 49, 50, 50, 50, 51, 50, 52, 50, 53, 50, 54, 50, 55, 50, 56, 50, 57, 51, 48, 51, 49, 51, 50, 51, 51, 51, 52, 51, 53, 51, 54, 51, 55, 51, 56, 51, 57, 52, 48, 52, 49, 52, 50, 52, 51, 52, 52, 52, 53, 52, 54, 52, 55, 52, 56, 52, 57, 53, 48, 53, 49, 53, 50, 53, 51, 53, 52, 53, 53, 53, 54, 53, 55, 53, 56, 53, 57, 54, 48, 54, 49, 54, 50, 54, 51, 54, 52, 54, 53, 54, 54, 54, 55, 54, 56, 54, 57, 55, 48, 55, 49, 55, 50, 55, 51, 55, 52, 55, 53, 55, 54, 55, 55, 55, 56, 55, 57, 56, 48, 56, 49, 56, 50, 56, 51, 56, 52, 56, 53, 56, 54, 56, 55, 56, 56, 56, 57, 57, 48, 57, 49, 57, 50, 57, 51, 57, 52, 57, 53, 57, 54, 57, 55, 57, 56, 57, 57] : List UInt8)) (by omega) (by omega) (by first | omega | (simp only [List.length_cons, List.length_nil]; omega))) ?_
  skip
  exact keq (K := K) (by rw [show (decT n.toNat) = (((([48, 48, 48, 49, 48, 50, 48, 51, 48, 52, 48, 53, 48, 54, 48, 55, 48, 56, 48, 57, 49, 48, 49, 49, 49, 50, 49, 51, 49, 52, 49, 53, 49, 54, 49, 55, 49, 56, 49, 57, 50, 48, 50, 49, 50, 50, 50, 51, 50, 52, 50, 53, 50, 54, 50, 55, 50, 56, 50, 57, 51, 48, 51, 49, 51, 50, 51, 51, 51, 52, 51, 53, 51, 54, 51, 55, 51, 56, 51, 57, 52, 48, 52, 49, 52, 50, 52, 51, 52, 52, 52, 53, 52, 54, 52, 55, 52, 56, 52, 57, 53, 48, 53, 49, 53, 50, 53, 51, 53, 52, 53, 53, 53, 54, 53, 55, 53, 56, 53, 57, 54, 48, 54, 49, 54, 50, 54, 51, 54, 52, 54, 53, 54, 54, 54, 55, 54, 56, 54, 57, 55, 48, 55, 49, 55, 50, 55, 51, 55, 52, 55, 53, 55, 54, 55, 55, 55, 56, 55, 57, 56, 48, 56, 49, 56, 50, 56, 51, 56, 52, 56, 53, 56, 54, 56, 55, 56, 56, 56, 57, 57, 48, 57, 49, 57, 50, 57, 51, 57, 52, 57, 53, 57, 54, 57, 55, 57, 56, 57, 57] : List UInt8)).drop (n * 2 : Int).toNat).take (((n * 2) + 2 : Int).toNat - (n * 2 : Int).toNat)) from by exact (small_two (by omega) (by omega)).symm]; try rfl) (hk )
theorem C.internal_strconv_FormatInt {n : Int}  {H : Hp} {K : Value → Hp → Prop} (n0 : 0 ≤ n) (n1 : n < 100)
    (hk : K (vS (decT n.toNat)) H) : HT prg I.internal_strconv_FormatInt [(.int .i64 (n)), (.int .i64 (10))].toArray H K := by
 have lE := Le.refl H
 refine R.internal_strconv_FormatInt ?_
 unfold F.internal_strconv_FormatInt
 refine ob_i (a := .bool true) (by kernel_rfl) ?_
 refine cnd_t1 ?_
 refine ob_i (vInt_leq _ _ _) ?_
 by_cases hc1 : 0 ≤ n
 ·skip
  refine gop_e (decide_eq_true hc1) ?_
  refine gop_rt ?_
  refine gop_e (decide_eq_true hc1) ?_
  refine gop_rt ?_
  refine ob_i (vInt_lss _ _ _) ?_
  refine ob_i (vPick_et (decide_eq_true hc1) _ _) ?_
  refine cnd_d (fun hg2 => ?_) (fun hg2 => ?_)
  ·skip
   refine C.internal_strconv_small (by first | omega | assumption) (by first | omega | assumption) ?_
   skip
   exact hk 
  ·skip
   exact absurd hg2 ((fun h => h n1))
 ·skip
  exact absurd hc1 ((fun h => h n0))
theorem C.strconv_FormatInt {n : Int}  {H : Hp} {K : Value → Hp → Prop} (n0 : 0 ≤ n) (n1 : n < 100)
    (hk : K (vS (decT n.toNat)) H) : HT prg I.strconv_FormatInt [(.int .i64 (n)), (.int .i64 (10))].toArray H K := by
 have lE := Le.refl H
 refine R.strconv_FormatInt ?_
 unfold F.strconv_FormatInt
 refine C.internal_strconv_FormatInt (by first | omega | assumption) (by first | omega | assumption) ?_
 skip
 exact hk 
theorem C.impl_Decimal {n : Int}  {H : Hp} {K : Value → Hp → Prop} (n0 : 0 ≤ n) (n1 : n < 100)
    (hk : K (vS (decT n.toNat)) H) : HT prg I.impl_Decimal [(.int .i64 (n))].toArray H K := by
 have lE := Le.refl H
 refine R.impl_Decimal ?_
 unfold F.impl_Decimal
 refine C.strconv_FormatInt (by first | omega | assumption) (by first | omega | assumption) ?_
 skip
 exact hk 
theorem C.l05Number_d {n : Int}  {H : Hp} {K : Value → Hp → Prop} (n0 : 0 ≤ n) (n1 : n < 10)
    (hk : ∀ H', Le H H' → K (vS (decT n.toNat)) H') : HT prg I.spec_l05Number [(.int .i64 (n))].toArray H K := by
 have lE := Le.refl H
 refine R.spec_l05Number ?_
 unfold F.spec_l05Number
 refine ob_i (vInt_lss _ _ _) ?_
 refine cnd_d (fun hg1 => ?_) (fun hg1 => ?_)
 ·skip
  refine ob_i (vInt_add (by omega) (by omega)) ?_
  refine ob_i (vCI_u8 (by omega) (by omega)) ?_
  refine bS_i (enc := eU) (l := [48 + n]) (by omega) rfl (by kernel_rfl) (fun u2 H3 ou2 nn4 le6 => ?_)
  replace lE := lE.trans le6
  refine ob_i (val_convT (by kernel_rfl) ou2.sl) ?_
  skip
  exact keq (K := K) (by rw [show (decT n.toNat) = (btT ([48 + n])) from by exact (num_one (by omega) (by omega)).symm]; try rfl) (hk   _    lE)
 ·skip
  exact absurd hg1 ((fun h => h n1))
theorem C.spec_l05Number {n : Int}  {H : Hp} {K : Value → Hp → Prop} (n0 : 0 ≤ n) (n1 : n < 100)
    (hk : ∀ H', Le H H' → K (vS (decT n.toNat)) H') : HT prg I.spec_l05Number [(.int .i64 (n))].toArray H K := by
 have lE := Le.refl H
 refine R.spec_l05Number ?_
 unfold F.spec_l05Number
 have d1 := decT_len (n / 10).toNat
 have d2 : (btT ([48 + (n % 10)])).length = 1 := rfl
 refine ob_i (vInt_lss _ _ _) ?_
 refine cnd_d (fun hg1 => ?_) (fun hg1 => ?_)
 ·skip
  refine ob_i (vInt_add (by omega) (by omega)) ?_
  refine ob_i (vCI_u8 (by omega) (by omega)) ?_
  refine bS_i (enc := eU) (l := [48 + n]) (by omega) rfl (by kernel_rfl) (fun u2 H3 ou2 nn4 le6 => ?_)
  replace lE := lE.trans le6
  refine ob_i (val_convT (by kernel_rfl) ou2.sl) ?_
  skip
  exact keq (K := K) (by rw [show (decT n.toNat) = (btT ([48 + n])) from by exact (num_one (by omega) (by omega)).symm]; try rfl) (hk   _    lE)
 ·skip
  refine ⟨?_, ?_⟩
  ·skip
   refine ob_i (vInt_quoN (by omega) (by omega) (by omega)) ?_
   refine ob_i (vInt_remN (by omega) (by omega)) ?_
   refine ob_i (vInt_add (by omega) (by omega)) ?_
   refine ob_i (vCI_u8 (by omega) (by omega)) ?_
   refine C.l05Number_d (by first | omega | assumption) (by first | omega | assumption) (fun   H7    le8 => ?_)
   replace lE := lE.trans le8
   refine ⟨le8, ?_⟩
   refine bS_i (enc := eU) (l := [48 + (n % 10)]) (by omega) rfl (by kernel_rfl) (fun u9 H10 ou9 nn11 le13 => ?_)
   replace lE := lE.trans le13
   refine ob_i (val_convT (by kernel_rfl) ou9.sl) ?_
   refine ob_i (vStr_add (a := decT (n / 10).toNat) (b := btT ([48 + (n % 10)])) (by first | omega | (simp only [List.length_append, List.length_cons, List.length_nil, List.length_take, List.length_drop]; omega))) ?_
   skip
   exact keq (K := K) (by rw [show (decT n.toNat) = ((decT (n / 10).toNat) ++ (btT ([48 + (n % 10)]))) from by exact (num_two (by omega) (by omega)).symm]; try rfl) (hk   _    lE)
  ·skip
   refine ob_i (vInt_quoN (by omega) (by omega) (by omega)) ?_
   refine ob_i (vInt_remN (by omega) (by omega)) ?_
   refine ob_i (vInt_add (by omega) (by omega)) ?_
   refine ob_i (vCI_u8 (by omega) (by omega)) ?_
   refine bS_i (enc := eU) (l := [48 + (n % 10)]) (by omega) rfl (by kernel_rfl) (fun u14 H15 ou14 nn16 le18 => ?_)
   replace lE := lE.trans le18
   refine ob_i (val_convT (by kernel_rfl) ou14.sl) ?_
   refine C.l05Number_d (by first | omega | assumption) (by first | omega | assumption) (fun   H19    le20 => ?_)
   replace lE := lE.trans le20
   refine ⟨le20, ?_⟩
   refine ob_i (vStr_add (a := decT (n / 10).toNat) (b := btT ([48 + (n % 10)])) (by first | omega | (simp only [List.length_append, List.length_cons, List.length_nil, List.length_take, List.length_drop]; omega))) ?_
   skip
   exact keq (K := K) (by rw [show (decT n.toNat) = ((decT (n / 10).toNat) ++ (btT ([48 + (n % 10)]))) from by exact (num_two (by omega) (by omega)).symm]; try rfl) (hk   _    lE)
theorem C.impl_runsText {v : Value} {row : List Int}  {H : Hp} {K : Value → Hp → Prop} (hv0 : Sl eI H v row) (h1 : row.length ≤ 24) (hx : ∀ x ∈ row, 0 ≤ x ∧ x ≤ 1)
    (hk : ∀ H', Le H H' → K (vS (rtx row)) H') : HT prg I.impl_runsText [v].toArray H K := by
 have lE := Le.refl H
 have hv := hv0
 refine R.impl_runsText ?_
 unfold F.impl_runsText
 have rl := rtx_len row.length row (Nat.le_refl _)
 refine jn_i (fun σ' H' => σ' 3 = (vS (rtx row)) ∧ Le H H') (fun σ1 H1 hP => ?_) (fun J1 hJ1 => ?_)
 ·skip
  obtain ⟨g3L1, lE⟩ := hP
  try simp only [g3L1]
  skip
  exact hk   _    lE
 refine ⟨fun n' σ' H' => ∃ i : Nat, n' = row.length - i ∧ i ≤ row.length ∧ ∃ out : List UInt8, ∃ a : Nat, σ' 0 = v ∧ σ' 3 = (vS (out)) ∧ σ' 4 = (.int .i64 ((a : Int))) ∧ Le H H' ∧ i ≤ a ∧ a ≤ row.length ∧ out ++ rtx (row.drop a) = rtx row,
  ⟨_, 0, rfl, by omega, [], 0, rfl, rfl, (congrArg (Value.int .i64) (by first | omega | rfl | (simp; done))), lE, (by omega), (by omega), rfl⟩, ?_⟩
 rintro n2 σ2 H2 ⟨i, rfl, hiN, out, a, g0L2, g3L2, g4L2, lE, hm0, hm1, hm2⟩
 have hv := hv0.le lE
 try simp only [g0L2, g4L2]
 have ol := congrArg List.length hm2
 rw [List.length_append] at ol
 refine ob_i (hv.len) ?_
 refine ob_i (vInt_lss _ _ _) ?_
 refine cnd_d (fun hg3 => ?_) (fun hg3 => ?_)
 ·skip
  have ti := hg3
  refine jn_i (fun σ' H' => ∃ k : Nat, σ' 0 = v ∧ σ' 3 = (vS (out)) ∧ σ' 4 = (.int .i64 ((a : Int))) ∧ σ' 5 = (.int .i64 ((a : Int) + (k : Int))) ∧ Le H H' ∧ k = rN (at_ 0 row (a : Int)) (row.drop a) ∧ a + k ≤ row.length ∧ 1 ≤ k) (fun σ4 H4 hP => ?_) (fun J4 hJ4 => ?_)
  ·skip
   obtain ⟨k, g0L4, g3L4, g4L4, g5L4, lE, hk, hk2, hk3⟩ := hP
   have hv := hv0.le lE
   try simp only [g0L4, g3L4, g4L4, g5L4]
   have dl := decT_len (((a : Int) + (k : Int)) - (a : Int)).toNat
   have xa := hx _ (at_mem 0 row (i := (a : Int)) (by omega) (by omega))
   refine ob_i (hv.ix (by omega) (by omega)) ?_
   refine ob_i (hv.ld 0 (by omega) (by omega)) ?_
   refine ob_i (vInt_eql _ _ _) ?_
   by_cases hc5 : (at_ 0 (row) ((a : Int))) = 0
   ·skip
    refine gop_e (decide_eq_true hc5) ?_
    refine gop_rt ?_
    refine gop_e (decide_eq_true hc5) ?_
    refine gop_rt ?_
    refine gop_e (decide_eq_true hc5) ?_
    refine gop_rt ?_
    refine ob_i (hv.len) ?_
    refine gop_e (decide_eq_true hc5) ?_
    refine gop_rt ?_
    refine ob_i (vInt_eql _ _ _) ?_
    refine ob_i (vPick_et (decide_eq_true hc5) _ _) ?_
    refine cnd_d (fun hg6 => ?_) (fun hg6 => ?_)
    ·skip
     have hfin : out = rtx row := by rw [← hm2, rtx_stop (a := a) (k := k) (by omega) hk ⟨hc5, by omega⟩, List.append_nil]
     exact hJ1 _ _ ⟨(g3L4.trans (congrArg vS hfin)), lE⟩
    ·skip
     refine ob_i (vInt_sub (by omega) (by omega)) ?_
     refine ob_i (vInt_gtr _ _ _) ?_
     refine cnd_d (fun hg7 => ?_) (fun hg7 => ?_)
     ·skip
      refine ob_i (vInt_sub (by omega) (by omega)) ?_
      refine C.impl_Decimal (by first | omega | assumption) (by first | omega | assumption) ?_
      refine ob_i (vStr_add (a := out) (b := decT (((a : Int) + (k : Int)) - (a : Int)).toNat) (by first | omega | (simp only [List.length_append, List.length_cons, List.length_nil, List.length_take, List.length_drop]; omega))) ?_
      refine ob_i (hv.ix (by omega) (by omega)) ?_
      refine ob_i (hv.ld 0 (by omega) (by omega)) ?_
      refine ob_i (hv.ix (by omega) (by omega)) ?_
      refine ob_i (hv.ld 0 (by omega) (by omega)) ?_
      refine ob_i (vInt_add (by omega) (by omega)) ?_
      refine ob_i (vSlS_t (a := ([98, 111] : List UInt8)) (by omega) (by omega) (by first | omega | (simp only [List.length_cons, List.length_nil]; omega))) ?_
      refine ob_i (vStr_add (a := out ++ (decT (((a : Int) + (k : Int)) - (a : Int)).toNat)) (b := ((([98, 111] : List UInt8)).drop (at_ 0 (row) ((a : Int)) : Int).toNat).take (((at_ 0 (row) ((a : Int))) + 1 : Int).toNat - (at_ 0 (row) ((a : Int)) : Int).toNat)) (by first | omega | (simp only [List.length_append, List.length_cons, List.length_nil, List.length_take, List.length_drop]; omega))) ?_
      exact nxt (row.length - (i + 1)) (by omega) ⟨i + 1, rfl, by omega, ((out ++ (decT (((a : Int) + (k : Int)) - (a : Int)).toNat)) ++ (((([98, 111] : List UInt8)).drop (at_ 0 (row) ((a : Int)) : Int).toNat).take (((at_ 0 (row) ((a : Int))) + 1 : Int).toNat - (at_ 0 (row) ((a : Int)) : Int).toNat))), (a + k), g0L4, rfl, (congrArg (Value.int .i64) (by omega)), lE, (by omega), (by omega), (by have hr := rtx_run (a := a) (k := k) (by omega) hk (fun h => by exact hg6 (by omega)); rw [← hm2, hr, if_neg (show ¬ k = 1 by omega)]; rw [bo_T (hx _ (at_mem 0 row (by omega) (by omega))).1 (hx _ (at_mem 0 row (by omega) (by omega))).2]; rw [show ((a : Int) + (k : Int) - (a : Int)).toNat = k by omega]; simp only [List.append_assoc])⟩
     ·skip
      refine ob_i (hv.ix (by omega) (by omega)) ?_
      refine ob_i (hv.ld 0 (by omega) (by omega)) ?_
      refine ob_i (hv.ix (by omega) (by omega)) ?_
      refine ob_i (hv.ld 0 (by omega) (by omega)) ?_
      refine ob_i (vInt_add (by omega) (by omega)) ?_
      refine ob_i (vSlS_t (a := ([98, 111] : List UInt8)) (by omega) (by omega) (by first | omega | (simp only [List.length_cons, List.length_nil]; omega))) ?_
      refine ob_i (vStr_add (a := out) (b := ((([98, 111] : List UInt8)).drop (at_ 0 (row) ((a : Int)) : Int).toNat).take (((at_ 0 (row) ((a : Int))) + 1 : Int).toNat - (at_ 0 (row) ((a : Int)) : Int).toNat)) (by first | omega | (simp only [List.length_cons, List.length_nil, List.length_take, List.length_drop]; omega))) ?_
      exact nxt (row.length - (i + 1)) (by omega) ⟨i + 1, rfl, by omega, (out ++ (((([98, 111] : List UInt8)).drop (at_ 0 (row) ((a : Int)) : Int).toNat).take (((at_ 0 (row) ((a : Int))) + 1 : Int).toNat - (at_ 0 (row) ((a : Int)) : Int).toNat))), (a + k), g0L4, rfl, (congrArg (Value.int .i64) (by omega)), lE, (by omega), (by omega), (by have hr := rtx_run (a := a) (k := k) (by omega) hk (fun h => by exact hg6 (by omega)); rw [← hm2, hr, if_pos (show k = 1 by omega)]; rw [bo_T (hx _ (at_mem 0 row (by omega) (by omega))).1 (hx _ (at_mem 0 row (by omega) (by omega))).2]; simp only [List.append_assoc, List.nil_append])⟩
   ·skip
    refine gop_e (decide_eq_false hc5) ?_
    refine gop_sf ?_
    refine gop_e (decide_eq_false hc5) ?_
    refine gop_sf ?_
    refine gop_e (decide_eq_false hc5) ?_
    refine gop_sf ?_
    refine gop_e (decide_eq_false hc5) ?_
    refine gop_sf ?_
    refine ob_i (vPick_ef (decide_eq_false hc5) _ _) ?_
    refine cnd_f1 ?_
    refine ob_i (vInt_sub (by omega) (by omega)) ?_
    refine ob_i (vInt_gtr _ _ _) ?_
    refine cnd_d (fun hg8 => ?_) (fun hg8 => ?_)
    ·skip
     refine ob_i (vInt_sub (by omega) (by omega)) ?_
     refine C.impl_Decimal (by first | omega | assumption) (by first | omega | assumption) ?_
     refine ob_i (vStr_add (a := out) (b := decT (((a : Int) + (k : Int)) - (a : Int)).toNat) (by first | omega | (simp only [List.length_append, List.length_cons, List.length_nil, List.length_take, List.length_drop]; omega))) ?_
     refine ob_i (hv.ix (by omega) (by omega)) ?_
     refine ob_i (hv.ld 0 (by omega) (by omega)) ?_
     refine ob_i (hv.ix (by omega) (by omega)) ?_
     refine ob_i (hv.ld 0 (by omega) (by omega)) ?_
     refine ob_i (vInt_add (by omega) (by omega)) ?_
     refine ob_i (vSlS_t (a := ([98, 111] : List UInt8)) (by omega) (by omega) (by first | omega | (simp only [List.length_cons, List.length_nil]; omega))) ?_
     refine ob_i (vStr_add (a := out ++ (decT (((a : Int) + (k : Int)) - (a : Int)).toNat)) (b := ((([98, 111] : List UInt8)).drop (at_ 0 (row) ((a : Int)) : Int).toNat).take (((at_ 0 (row) ((a : Int))) + 1 : Int).toNat - (at_ 0 (row) ((a : Int)) : Int).toNat)) (by first | omega | (simp only [List.length_append, List.length_cons, List.length_nil, List.length_take, List.length_drop]; omega))) ?_
     exact nxt (row.length - (i + 1)) (by omega) ⟨i + 1, rfl, by omega, ((out ++ (decT (((a : Int) + (k : Int)) - (a : Int)).toNat)) ++ (((([98, 111] : List UInt8)).drop (at_ 0 (row) ((a : Int)) : Int).toNat).take (((at_ 0 (row) ((a : Int))) + 1 : Int).toNat - (at_ 0 (row) ((a : Int)) : Int).toNat))), (a + k), g0L4, rfl, (congrArg (Value.int .i64) (by omega)), lE, (by omega), (by omega), (by have hr := rtx_run (a := a) (k := k) (by omega) hk (fun h => by exact hc5 h.1); rw [← hm2, hr, if_neg (show ¬ k = 1 by omega)]; rw [bo_T (hx _ (at_mem 0 row (by omega) (by omega))).1 (hx _ (at_mem 0 row (by omega) (by omega))).2]; rw [show ((a : Int) + (k : Int) - (a : Int)).toNat = k by omega]; simp only [List.append_assoc])⟩
    ·skip
     refine ob_i (hv.ix (by omega) (by omega)) ?_
     refine ob_i (hv.ld 0 (by omega) (by omega)) ?_
     refine ob_i (hv.ix (by omega) (by omega)) ?_
     refine ob_i (hv.ld 0 (by omega) (by omega)) ?_
     refine ob_i (vInt_add (by omega) (by omega)) ?_
     refine ob_i (vSlS_t (a := ([98, 111] : List UInt8)) (by omega) (by omega) (by first | omega | (simp only [List.length_cons, List.length_nil]; omega))) ?_
     refine ob_i (vStr_add (a := out) (b := ((([98, 111] : List UInt8)).drop (at_ 0 (row) ((a : Int)) : Int).toNat).take (((at_ 0 (row) ((a : Int))) + 1 : Int).toNat - (at_ 0 (row) ((a : Int)) : Int).toNat)) (by first | omega | (simp only [List.length_cons, List.length_nil, List.length_take, List.length_drop]; omega))) ?_
     exact nxt (row.length - (i + 1)) (by omega) ⟨i + 1, rfl, by omega, (out ++ (((([98, 111] : List UInt8)).drop (at_ 0 (row) ((a : Int)) : Int).toNat).take (((at_ 0 (row) ((a : Int))) + 1 : Int).toNat - (at_ 0 (row) ((a : Int)) : Int).toNat))), (a + k), g0L4, rfl, (congrArg (Value.int .i64) (by omega)), lE, (by omega), (by omega), (by have hr := rtx_run (a := a) (k := k) (by omega) hk (fun h => by exact hc5 h.1); rw [← hm2, hr, if_pos (show k = 1 by omega)]; rw [bo_T (hx _ (at_mem 0 row (by omega) (by omega))).1 (hx _ (at_mem 0 row (by omega) (by omega))).2]; simp only [List.append_assoc, List.nil_append])⟩
  refine ⟨fun n' σ' H' => ∃ j : Nat, n' = row.length - j ∧ j ≤ row.length ∧ σ' 0 = v ∧ σ' 3 = (vS (out)) ∧ σ' 4 = (.int .i64 ((a : Int))) ∧ σ' 5 = (.int .i64 ((a : Int) + (j : Int))) ∧ Le H H' ∧ j ≤ rN (at_ 0 row (a : Int)) (row.drop a) ∧ a + j ≤ row.length,
   ⟨_, 0, rfl, by omega, g0L2, g3L2, g4L2, (congrArg (Value.int .i64) (by first | omega | rfl | (simp; done))), lE, (by omega), (by omega)⟩, ?_⟩
  rintro n9 σ9 H9 ⟨j, rfl, hjN, g0L9, g3L9, g4L9, g5L9, lE, hm0', hm1'⟩
  have hv := hv0.le lE
  try simp only [g0L9, g4L9, g5L9]
  refine ob_i (hv.len) ?_
  refine ob_i (vInt_lss _ _ _) ?_
  by_cases hc10 : ((a : Int) + (j : Int)) < (((row).length : Int))
  ·skip
   refine gop_e (decide_eq_true hc10) ?_
   refine gop_rt ?_
   refine gop_e (decide_eq_true hc10) ?_
   refine gop_rt ?_
   refine gop_e (decide_eq_true hc10) ?_
   refine gop_rt ?_
   refine ob_i (hv.ix (by omega) (by omega)) ?_
   refine gop_e (decide_eq_true hc10) ?_
   refine gop_rt ?_
   refine ob_i (hv.ld 0 (by omega) (by omega)) ?_
   refine gop_e (decide_eq_true hc10) ?_
   refine gop_rt ?_
   refine gop_e (decide_eq_true hc10) ?_
   refine gop_rt ?_
   refine gop_e (decide_eq_true hc10) ?_
   refine gop_rt ?_
   refine ob_i (hv.ix (by omega) (by omega)) ?_
   refine gop_e (decide_eq_true hc10) ?_
   refine gop_rt ?_
   refine ob_i (hv.ld 0 (by omega) (by omega)) ?_
   refine gop_e (decide_eq_true hc10) ?_
   refine gop_rt ?_
   refine ob_i (vInt_eql _ _ _) ?_
   refine ob_i (vPick_et (decide_eq_true hc10) _ _) ?_
   refine cnd_d (fun hg11 => ?_) (fun hg11 => ?_)
   ·skip
    refine ob_i (vInt_add (by omega) (by omega)) ?_
    exact nxt (row.length - (j + 1)) (by omega) ⟨j + 1, rfl, by omega, g0L9, g3L9, g4L9, (congrArg (Value.int .i64) (by first | omega | rfl | (simp; done))), lE, (by have := run_next (a := a) (e := a + j) (by omega) (by rw [show a + j - a = j by omega]; exact hm0') (by omega) (by rw [show ((a + j : Nat) : Int) = (a : Int) + (j : Int) by omega]; exact hg11); omega), (by omega)⟩
   ·skip
    exact hJ4 _ _ ⟨j, g0L9, g3L9, g4L9, (g5L9.trans (congrArg (Value.int .i64) (by first | omega | rfl | (simp; done)))), lE, (by have := run_end (a := a) (e := a + j) (by omega) (by rw [show a + j - a = j by omega]; exact hm0') (by omega) (Or.inr (by rw [show ((a + j : Nat) : Int) = (a : Int) + (j : Int) by omega]; exact hg11)); omega), (by omega), (by have h9 := run_end (a := a) (e := a + j) (by omega) (by rw [show a + j - a = j by omega]; exact hm0') (by omega) (Or.inr (by rw [show ((a + j : Nat) : Int) = (a : Int) + (j : Int) by omega]; exact hg11)); have := (run_pos (row := row) (a := a) (by omega)).1; omega)⟩
  ·skip
   refine gop_e (decide_eq_false hc10) ?_
   refine gop_sf ?_
   refine gop_e (decide_eq_false hc10) ?_
   refine gop_sf ?_
   refine gop_e (decide_eq_false hc10) ?_
   refine gop_sf ?_
   refine gop_e (decide_eq_false hc10) ?_
   refine gop_sf ?_
   refine gop_e (decide_eq_false hc10) ?_
   refine gop_sf ?_
   refine gop_e (decide_eq_false hc10) ?_
   refine gop_sf ?_
   refine gop_e (decide_eq_false hc10) ?_
   refine gop_sf ?_
   refine gop_e (decide_eq_false hc10) ?_
   refine gop_sf ?_
   refine gop_e (decide_eq_false hc10) ?_
   refine gop_sf ?_
   refine ob_i (vPick_ef (decide_eq_false hc10) _ _) ?_
   refine cnd_f1 ?_
   exact hJ4 _ _ ⟨j, g0L9, g3L9, g4L9, (g5L9.trans (congrArg (Value.int .i64) (by first | omega | rfl | (simp; done)))), lE, (by have := run_end (a := a) (e := a + j) (by omega) (by rw [show a + j - a = j by omega]; exact hm0') (by omega) (Or.inl (by omega)); omega), (by omega), (by have h9 := run_end (a := a) (e := a + j) (by omega) (by rw [show a + j - a = j by omega]; exact hm0') (by omega) (Or.inl (by omega)); have := (run_pos (row := row) (a := a) (by omega)).1; omega)⟩
 ·skip
  have ti := hg3
  have hfin : out = rtx row := by rw [← hm2, show row.drop a = [] from List.drop_eq_nil_of_le (by omega), rtx_nil, List.append_nil]
  exact hJ1 _ _ ⟨(g3L2.trans (congrArg vS hfin)), lE⟩
theorem C.spec_l05Write {p vc : Value} {r c : Int} {l : List Int}  {H : Hp} {K : Value → Hp → Prop} (hp0 : CelR H p [(.int .i64 (r)), (.int .i64 (c)), vc]) (hvc0 : Sl eI H vc l) (hf : fieldN 1 r c l)
    (hk : ∀ H', Le H H' → K (vS (fieldT r c l)) H') : HT prg I.spec_l05Write [p].toArray H K := by
 have lE := Le.refl H
 have hp := hp0
 refine R.spec_l05Write ?_
 unfold F.spec_l05Write
 have hs := hf.1
 have hl := hf.2.1
 have q1 := hs.1
 have q2 := hs.2
 have qm := sidesF_mul hs
 have l1 := fieldN_len hf
 have dc := decT_len c.toNat
 have dr := decT_len r.toNat
 refine ob_i (hp.nilC) ?_
 refine ob_i (hp.fa 1) ?_
 refine ob_i (hp.ld 1 rfl) ?_
 refine ob_i (hp.nilC) ?_
 refine ob_i (hp.fa 0) ?_
 refine ob_i (hp.ld 0 rfl) ?_
 refine C.spec_l05Number (by first | omega | assumption) (by first | omega | assumption) (fun   H1    le2 => ?_)
 replace hp := hp.le le2
 replace lE := lE.trans le2
 refine ⟨le2, ?_⟩
 refine ob_i (vStr_add (a := decT c.toNat) (b := ([44] : List UInt8)) (by first | omega | (simp only [List.length_cons, List.length_nil]; omega))) ?_
 refine C.spec_l05Number (by first | omega | assumption) (by first | omega | assumption) (fun   H3    le4 => ?_)
 replace hp := hp.le le4
 replace lE := lE.trans le4
 refine ⟨le4, ?_⟩
 refine ob_i (vStr_add (a := (decT c.toNat) ++ ([44] : List UInt8)) (b := decT r.toNat) (by first | omega | (simp only [List.length_append, List.length_cons, List.length_nil]; omega))) ?_
 refine ob_i (vStr_add (a := ((decT c.toNat) ++ ([44] : List UInt8)) ++ (decT r.toNat)) (b := ([58] : List UInt8)) (by first | omega | (simp only [List.length_append, List.length_cons, List.length_nil]; omega))) ?_
 refine jn_i (fun σ' H' => σ' 3 = (vS (headT r c ++ joinR c.toNat l r.toNat)) ∧ Le H H') (fun σ5 H5 hP => ?_) (fun J5 hJ5 => ?_)
 ·skip
  obtain ⟨g3L5, lE⟩ := hP
  try simp only [g3L5]
  have jl0 := joinR_len (c := c.toNat) (l := l) r.toNat
  have jm0 : r.toNat * (3 * c.toNat + 1) ≤ 24 * 73 := Nat.mul_le_mul (by omega) (by omega)
  have hl0 := headT_len r c
  refine ob_i (vStr_add (a := headT r c ++ joinR c.toNat l r.toNat) (b := ([33] : List UInt8)) (by first | omega | (simp only [List.length_append, List.length_cons, List.length_nil]; omega))) ?_
  skip
  exact keq (K := K) (by rw [show (fieldT r c l) = ((headT r c ++ joinR c.toNat l r.toNat) ++ ([33] : List UInt8)) from by rfl]; try rfl) (hk   _    lE)
 refine ⟨fun n' σ' H' => ∃ i : Nat, n' = r.toNat - i ∧ i ≤ r.toNat ∧ σ' 0 = p ∧ σ' 3 = (vS (headT r c ++ joinR c.toNat l i)) ∧ σ' 4 = (.int .i64 ((i : Int))) ∧ Le H H',
  ⟨_, 0, rfl, by omega, rfl, (congrArg vS (by rw [joinR_zero, List.append_nil]; rfl)), (congrArg (Value.int .i64) (by first | omega | rfl | (simp; done))), lE⟩, ?_⟩
 rintro n6 σ6 H6 ⟨i, rfl, hiN, g0L6, g3L6, g4L6, lE⟩
 have hp := hp0.le lE
 try simp only [g0L6, g3L6, g4L6]
 have jl0 := joinR_len (c := c.toNat) (l := l) i
 have jm0 : i * (3 * c.toNat + 1) ≤ 24 * 73 := Nat.mul_le_mul (by omega) (by omega)
 have hl0 := headT_len r c
 refine ob_i (hp.nilC) ?_
 refine ob_i (hp.fa 0) ?_
 refine ob_i (hp.ld 0 rfl) ?_
 refine ob_i (vInt_lss _ _ _) ?_
 refine cnd_d (fun hg7 => ?_) (fun hg7 => ?_)
 ·skip
  have ti := hg7
  have rm := row_mul (i := i) hs (by omega)
  refine jn_i (fun σ' H' => σ' 0 = p ∧ σ' 3 = (vS (headT r c ++ joinR c.toNat l (i + 1))) ∧ σ' 4 = (.int .i64 ((i : Int))) ∧ Le H H') (fun σ8 H8 hP => ?_) (fun J8 hJ8 => ?_)
  ·skip
   obtain ⟨g0L8, g3L8, g4L8, lE⟩ := hP
   try simp only [g4L8]
   refine ob_i (vInt_add (by omega) (by omega)) ?_
   exact nxt (r.toNat - (i + 1)) (by omega) ⟨i + 1, rfl, by omega, g0L8, g3L8, (congrArg (Value.int .i64) (by first | omega | rfl | (simp; done))), lE⟩
  refine jn_i (fun σ' H' => ∃ B : List UInt8, σ' 0 = p ∧ σ' 3 = (vS (B)) ∧ σ' 4 = (.int .i64 ((i : Int))) ∧ Le H H' ∧ B ++ rtx (rowL c.toNat l i) = headT r c ++ joinR c.toNat l (i + 1)) (fun σ9 H9 hP => ?_) (fun J9 hJ9 => ?_)
  ·skip
   obtain ⟨B, g0L9, g3L9, g4L9, lE, hB⟩ := hP
   have hp := hp0.le lE
   try simp only [g0L9, g4L9]
   refine ob_i (hp.nilC) ?_
   refine ob_i (hp.fa 2) ?_
   refine ob_i (hp.ld 2 rfl) ?_
   refine ob_i (hp.nilC) ?_
   refine ob_i (hp.fa 1) ?_
   refine ob_i (hp.ld 1 rfl) ?_
   refine ob_i (vInt_mul (by omega) (by omega)) ?_
   refine ob_i (vInt_add (by omega) (by omega)) ?_
   refine ob_i (hp.nilC) ?_
   refine ob_i (hp.fa 1) ?_
   refine ob_i (hp.ld 1 rfl) ?_
   refine ob_i (vInt_mul (by omega) (by omega)) ?_
   obtain ⟨x10, eq11a, eq11b, eq11c, eq11d, hx100, hb12⟩ := hvc0.cut (lo := (i : Int) * c) (hi := ((i : Int) + 1) * c) (by omega) (by omega) (by omega)
   refine ob_i (eq11a) ?_
   rw [row_eq (l := l) (i := i) hs (by omega)] at hx100
   obtain ⟨row, hr0⟩ : ∃ row, row = rowL c.toNat l i := ⟨_, rfl⟩
   rw [← hr0] at hx100 hB
   have hrl : row.length = c.toNat := by rw [hr0]; exact rowL_len (r := r.toNat) (by rw [← Int.natCast_inj]; rw [Int.natCast_mul, Int.toNat_of_nonneg (by omega), Int.toNat_of_nonneg (by omega)]; exact hl) (by omega)
   have rtl := rtx_len row.length row (Nat.le_refl _)
   have bl := congrArg List.length hB
   simp only [List.length_append] at bl
   have jl := joinR_len (c := c.toNat) (l := l) (i + 1)
   have jm : (i + 1) * (3 * c.toNat + 1) ≤ 24 * 73 := Nat.mul_le_mul (by omega) (by omega)
   have hl6 := headT_len r c
   have hx10 := hx100.le lE
   refine ob_i (hx10.len) ?_
   refine jn_i (fun σ' H' => ∃ e : Nat, σ' 0 = p ∧ σ' 3 = (vS (B)) ∧ σ' 4 = (.int .i64 ((i : Int))) ∧ σ' 5 = x10 ∧ σ' 6 = (.int .i64 ((e : Int))) ∧ Le H H' ∧ endP row e ∧ (0 < e → at_ 0 row ((e - 1 : Nat) : Int) ≠ 0) ∧ e ≤ c.toNat) (fun σ13 H13 hP => ?_) (fun J13 hJ13 => ?_)
   ·skip
    obtain ⟨e, g0L13, g3L13, g4L13, g5L13, g6L13, lE, hend, hlast, hec⟩ := hP
    have hx10 := hx100.le lE
    try simp only [g3L13, g5L13, g6L13]
    refine ⟨fun n' σ' H' => ∃ t : Nat, n' = c.toNat - t ∧ t ≤ c.toNat ∧ ∃ out : List UInt8, ∃ a : Nat, σ' 0 = p ∧ σ' 3 = (vS (out)) ∧ σ' 4 = (.int .i64 ((i : Int))) ∧ σ' 5 = x10 ∧ σ' 6 = (.int .i64 ((e : Int))) ∧ σ' 7 = (.int .i64 ((a : Int))) ∧ Le H H' ∧ t ≤ a ∧ a ≤ e ∧ out ++ rtx (row.drop a) = B ++ rtx row,
     ⟨_, 0, rfl, by omega, B, 0, g0L13, g3L13, g4L13, g5L13, g6L13, (congrArg (Value.int .i64) (by first | omega | rfl | (simp; done))), lE, (by omega), (by omega), rfl⟩, ?_⟩
    rintro n14 σ14 H14 ⟨t, rfl, htN, out, a, g0L14, g3L14, g4L14, g5L14, g6L14, g7L14, lE, hq0, hq1, hq2⟩
    have hx10 := hx100.le lE
    try simp only [g6L14, g7L14]
    have ol := congrArg List.length hq2
    simp only [List.length_append] at ol
    refine ob_i (vInt_lss _ _ _) ?_
    refine cnd_d (fun hg15 => ?_) (fun hg15 => ?_)
    ·skip
     have tt := hg15
     refine jn_i (fun σ' H' => ∃ k : Nat, σ' 0 = p ∧ σ' 3 = (vS (out)) ∧ σ' 4 = (.int .i64 ((i : Int))) ∧ σ' 5 = x10 ∧ σ' 6 = (.int .i64 ((e : Int))) ∧ σ' 7 = (.int .i64 ((a : Int))) ∧ σ' 8 = (.int .i64 ((k : Int))) ∧ Le H H' ∧ k = rN (at_ 0 row (a : Int)) (row.drop a) ∧ ¬ (at_ 0 row (a : Int) = 0 ∧ a + k = row.length) ∧ 1 ≤ k ∧ a + k ≤ e) (fun σ16 H16 hP => ?_) (fun J16 hJ16 => ?_)
     ·skip
      obtain ⟨k, g0L16, g3L16, g4L16, g5L16, g6L16, g7L16, g8L16, lE, hk, hne, hk1, hk2⟩ := hP
      have hx10 := hx100.le lE
      try simp only [g3L16, g5L16, g7L16, g8L16]
      have dl := decT_len (k : Int).toNat
      refine ob_i (vInt_gtr _ _ _) ?_
      refine cnd_d (fun hg17 => ?_) (fun hg17 => ?_)
      ·skip
       refine C.spec_l05Number (by first | omega | assumption) (by first | omega | assumption) (fun   H18    le19 => ?_)
       replace hx10 := hx10.le le19
       replace lE := lE.trans le19
       refine ob_i (vStr_add (a := out) (b := decT (k : Int).toNat) (by first | omega | (simp only [List.length_append, List.length_cons, List.length_nil, List.length_take, List.length_drop]; omega))) ?_
       refine ob_i (hx10.ix (by omega) (by omega)) ?_
       refine ob_i (hx10.ld 0 (by omega) (by omega)) ?_
       refine ob_i (vInt_eql _ _ _) ?_
       refine cnd_d (fun hg20 => ?_) (fun hg20 => ?_)
       ·skip
        refine ob_i (vStr_add (a := out ++ (decT (k : Int).toNat)) (b := ([111] : List UInt8)) (by first | omega | (simp only [List.length_append, List.length_cons, List.length_nil]; omega))) ?_
        refine ob_i (vInt_add (by omega) (by omega)) ?_
        exact nxt (c.toNat - (t + 1)) (by omega) ⟨t + 1, rfl, by omega, ((out ++ (decT (k : Int).toNat)) ++ ([111] : List UInt8)), (a + k), g0L16, rfl, g4L16, g5L16, g6L16, (congrArg (Value.int .i64) (by omega)), lE, (by omega), (by omega), (by rw [← hq2, rtx_run (a := a) (k := k) (by omega) hk hne, if_neg (show ¬ k = 1 by omega), chT_1 hg20]; simp only [List.append_assoc, Int.toNat_natCast])⟩
       ·skip
        refine ob_i (vStr_add (a := out ++ (decT (k : Int).toNat)) (b := ([98] : List UInt8)) (by first | omega | (simp only [List.length_append, List.length_cons, List.length_nil]; omega))) ?_
        refine ob_i (vInt_add (by omega) (by omega)) ?_
        exact nxt (c.toNat - (t + 1)) (by omega) ⟨t + 1, rfl, by omega, ((out ++ (decT (k : Int).toNat)) ++ ([98] : List UInt8)), (a + k), g0L16, rfl, g4L16, g5L16, g6L16, (congrArg (Value.int .i64) (by omega)), lE, (by omega), (by omega), (by rw [← hq2, rtx_run (a := a) (k := k) (by omega) hk hne, if_neg (show ¬ k = 1 by omega), chT_0 hg20]; simp only [List.append_assoc, Int.toNat_natCast])⟩
      ·skip
       refine ob_i (hx10.ix (by omega) (by omega)) ?_
       refine ob_i (hx10.ld 0 (by omega) (by omega)) ?_
       refine ob_i (vInt_eql _ _ _) ?_
       refine cnd_d (fun hg21 => ?_) (fun hg21 => ?_)
       ·skip
        refine ob_i (vStr_add (a := out) (b := ([111] : List UInt8)) (by first | omega | (simp only [List.length_cons, List.length_nil]; omega))) ?_
        refine ob_i (vInt_add (by omega) (by omega)) ?_
        exact nxt (c.toNat - (t + 1)) (by omega) ⟨t + 1, rfl, by omega, (out ++ ([111] : List UInt8)), (a + k), g0L16, rfl, g4L16, g5L16, g6L16, (congrArg (Value.int .i64) (by omega)), lE, (by omega), (by omega), (by rw [← hq2, rtx_run (a := a) (k := k) (by omega) hk hne, if_pos (show k = 1 by omega), chT_1 hg21]; simp only [List.append_assoc, List.nil_append])⟩
       ·skip
        refine ob_i (vStr_add (a := out) (b := ([98] : List UInt8)) (by first | omega | (simp only [List.length_cons, List.length_nil]; omega))) ?_
        refine ob_i (vInt_add (by omega) (by omega)) ?_
        exact nxt (c.toNat - (t + 1)) (by omega) ⟨t + 1, rfl, by omega, (out ++ ([98] : List UInt8)), (a + k), g0L16, rfl, g4L16, g5L16, g6L16, (congrArg (Value.int .i64) (by omega)), lE, (by omega), (by omega), (by rw [← hq2, rtx_run (a := a) (k := k) (by omega) hk hne, if_pos (show k = 1 by omega), chT_0 hg21]; simp only [List.append_assoc, List.nil_append])⟩
     refine ⟨fun n' σ' H' => ∃ j : Nat, n' = c.toNat - j ∧ j ≤ c.toNat ∧ σ' 0 = p ∧ σ' 3 = (vS (out)) ∧ σ' 4 = (.int .i64 ((i : Int))) ∧ σ' 5 = x10 ∧ σ' 6 = (.int .i64 ((e : Int))) ∧ σ' 7 = (.int .i64 ((a : Int))) ∧ σ' 8 = (.int .i64 ((1 : Int) + (j : Int))) ∧ Le H H' ∧ 1 + j ≤ rN (at_ 0 row (a : Int)) (row.drop a) ∧ a + (1 + j) ≤ e,
      ⟨_, 0, rfl, by omega, g0L14, g3L14, g4L14, g5L14, g6L14, g7L14, (congrArg (Value.int .i64) (by first | omega | rfl | (simp; done))), lE, (by have := run_zero (row := row) (a := a) (by omega); omega), (by omega)⟩, ?_⟩
     rintro n22 σ22 H22 ⟨j, rfl, hjN, g0L22, g3L22, g4L22, g5L22, g6L22, g7L22, g8L22, lE, hj0, hj1⟩
     have hx10 := hx100.le lE
     try simp only [g5L22, g6L22, g7L22, g8L22]
     refine ob_i (vInt_add (by omega) (by omega)) ?_
     refine ob_i (vInt_lss _ _ _) ?_
     by_cases hc23 : ((a : Int) + ((1 : Int) + (j : Int))) < (e : Int)
     ·skip
      refine gop_e (decide_eq_true hc23) ?_
      refine gop_rt ?_
      refine gop_e (decide_eq_true hc23) ?_
      refine gop_rt ?_
      refine gop_e (decide_eq_true hc23) ?_
      refine gop_rt ?_
      refine gop_e (decide_eq_true hc23) ?_
      refine gop_rt ?_
      refine ob_i (vInt_add (by omega) (by omega)) ?_
      refine gop_e (decide_eq_true hc23) ?_
      refine gop_rt ?_
      refine ob_i (hx10.ix (by omega) (by omega)) ?_
      refine gop_e (decide_eq_true hc23) ?_
      refine gop_rt ?_
      refine ob_i (hx10.ld 0 (by omega) (by omega)) ?_
      refine gop_e (decide_eq_true hc23) ?_
      refine gop_rt ?_
      refine gop_e (decide_eq_true hc23) ?_
      refine gop_rt ?_
      refine gop_e (decide_eq_true hc23) ?_
      refine gop_rt ?_
      refine ob_i (hx10.ix (by omega) (by omega)) ?_
      refine gop_e (decide_eq_true hc23) ?_
      refine gop_rt ?_
      refine ob_i (hx10.ld 0 (by omega) (by omega)) ?_
      refine gop_e (decide_eq_true hc23) ?_
      refine gop_rt ?_
      refine ob_i (vInt_eql _ _ _) ?_
      refine ob_i (vPick_et (decide_eq_true hc23) _ _) ?_
      refine cnd_d (fun hg24 => ?_) (fun hg24 => ?_)
      ·skip
       refine ob_i (vInt_add (by omega) (by omega)) ?_
       exact nxt (c.toNat - (j + 1)) (by omega) ⟨j + 1, rfl, by omega, g0L22, g3L22, g4L22, g5L22, g6L22, g7L22, (congrArg (Value.int .i64) (by first | omega | rfl | (simp; done))), lE, (by have := run_next (a := a) (e := a + (1 + j)) (by omega) (by rw [show a + (1 + j) - a = 1 + j by omega]; exact hj0) (by omega) (by rw [show ((a + (1 + j) : Nat) : Int) = (a : Int) + ((1 : Int) + (j : Int)) by omega]; exact hg24); omega), (by omega)⟩
      ·skip
       have hcut := run_cut (k := 1 + j) hend hlast (a := a) (by omega) (by omega) hj0 (by omega) (.inr (by rw [show ((a + (1 + j) : Nat) : Int) = (a : Int) + ((1 : Int) + (j : Int)) by omega]; exact hg24))
       exact hJ16 _ _ ⟨(1 + j), g0L22, g3L22, g4L22, g5L22, g6L22, g7L22, (g8L22.trans (congrArg (Value.int .i64) (by first | omega | rfl | (simp; done)))), lE, hcut.1, hcut.2, (by omega), (by omega)⟩
     ·skip
      refine gop_e (decide_eq_false hc23) ?_
      refine gop_sf ?_
      refine gop_e (decide_eq_false hc23) ?_
      refine gop_sf ?_
      refine gop_e (decide_eq_false hc23) ?_
      refine gop_sf ?_
      refine gop_e (decide_eq_false hc23) ?_
      refine gop_sf ?_
      refine gop_e (decide_eq_false hc23) ?_
      refine gop_sf ?_
      refine gop_e (decide_eq_false hc23) ?_
      refine gop_sf ?_
      refine gop_e (decide_eq_false hc23) ?_
      refine gop_sf ?_
      refine gop_e (decide_eq_false hc23) ?_
      refine gop_sf ?_
      refine gop_e (decide_eq_false hc23) ?_
      refine gop_sf ?_
      refine gop_e (decide_eq_false hc23) ?_
      refine gop_sf ?_
      refine gop_e (decide_eq_false hc23) ?_
      refine gop_sf ?_
      refine ob_i (vPick_ef (decide_eq_false hc23) _ _) ?_
      refine cnd_f1 ?_
      have hcut := run_cut (k := 1 + j) hend hlast (a := a) (by omega) (by omega) hj0 (by omega) (.inl (by omega))
      exact hJ16 _ _ ⟨(1 + j), g0L22, g3L22, g4L22, g5L22, g6L22, g7L22, (g8L22.trans (congrArg (Value.int .i64) (by first | omega | rfl | (simp; done)))), lE, hcut.1, hcut.2, (by omega), (by omega)⟩
    ·skip
     have tt := hg15
     exact hJ8 _ _ ⟨g0L14, (g3L14.trans (congrArg vS (by rw [show a = e by omega, endP_rtx hend, List.append_nil] at hq2; rw [hq2, hB]))), g4L14, lE⟩
   refine ⟨fun n' σ' H' => ∃ j : Nat, n' = c.toNat - j ∧ j ≤ c.toNat ∧ σ' 0 = p ∧ σ' 3 = (vS (B)) ∧ σ' 4 = (.int .i64 ((i : Int))) ∧ σ' 5 = x10 ∧ σ' 6 = (.int .i64 (((c.toNat - j : Nat) : Int))) ∧ Le H H' ∧ endP row (c.toNat - j),
    ⟨_, 0, rfl, by omega, g0L9, g3L9, g4L9, rfl, (congrArg (Value.int .i64) (by first | omega | rfl | (simp; done))), lE, ⟨by omega, fun q h1 h2 => by omega⟩⟩, ?_⟩
   rintro n25 σ25 H25 ⟨j, rfl, hjN, g0L25, g3L25, g4L25, g5L25, g6L25, lE, he0⟩
   have hx10 := hx100.le lE
   try simp only [g5L25, g6L25]
   refine ob_i (vInt_gtr _ _ _) ?_
   by_cases hc26 : 0 < (((c.toNat - j : Nat) : Int))
   ·skip
    refine gop_e (decide_eq_true hc26) ?_
    refine gop_rt ?_
    refine gop_e (decide_eq_true hc26) ?_
    refine gop_rt ?_
    refine gop_e (decide_eq_true hc26) ?_
    refine gop_rt ?_
    refine ob_i (vInt_sub (by omega) (by omega)) ?_
    refine gop_e (decide_eq_true hc26) ?_
    refine gop_rt ?_
    refine ob_i (hx10.ix (by omega) (by omega)) ?_
    refine gop_e (decide_eq_true hc26) ?_
    refine gop_rt ?_
    refine ob_i (hx10.ld 0 (by omega) (by omega)) ?_
    refine gop_e (decide_eq_true hc26) ?_
    refine gop_rt ?_
    refine ob_i (vInt_eql _ _ _) ?_
    refine ob_i (vPick_et (decide_eq_true hc26) _ _) ?_
    refine cnd_d (fun hg27 => ?_) (fun hg27 => ?_)
    ·skip
     refine ob_i (vInt_sub (by omega) (by omega)) ?_
     exact nxt (c.toNat - (j + 1)) (by omega) ⟨j + 1, rfl, by omega, g0L25, g3L25, g4L25, g5L25, (congrArg (Value.int .i64) (by first | omega | rfl | (simp; done))), lE, (endP_back he0 (by omega) hg27 (by omega))⟩
    ·skip
     exact hJ13 _ _ ⟨(c.toNat - j), g0L25, g3L25, g4L25, g5L25, (g6L25.trans (congrArg (Value.int .i64) (by first | omega | rfl | (simp; done)))), lE, he0, (fun h => by rw [show ((c.toNat - j - 1 : Nat) : Int) = ((c.toNat - j : Nat) : Int) - 1 by omega]; exact hg27), (by omega)⟩
   ·skip
    refine gop_e (decide_eq_false hc26) ?_
    refine gop_sf ?_
    refine gop_e (decide_eq_false hc26) ?_
    refine gop_sf ?_
    refine gop_e (decide_eq_false hc26) ?_
    refine gop_sf ?_
    refine gop_e (decide_eq_false hc26) ?_
    refine gop_sf ?_
    refine gop_e (decide_eq_false hc26) ?_
    refine gop_sf ?_
    refine gop_e (decide_eq_false hc26) ?_
    refine gop_sf ?_
    refine ob_i (vPick_ef (decide_eq_false hc26) _ _) ?_
    refine cnd_f1 ?_
    exact hJ13 _ _ ⟨(c.toNat - j), g0L25, g3L25, g4L25, g5L25, (g6L25.trans (congrArg (Value.int .i64) (by first | omega | rfl | (simp; done)))), lE, he0, (fun h => absurd h (by omega)), (by omega)⟩
  refine ob_i (vInt_gtr _ _ _) ?_
  refine cnd_d (fun hg28 => ?_) (fun hg28 => ?_)
  ·skip
   have tj := hg28
   refine ob_i (vStr_add (a := headT r c ++ joinR c.toNat l i) (b := ([36] : List UInt8)) (by first | omega | (simp only [List.length_append, List.length_cons, List.length_nil]; omega))) ?_
   exact hJ9 _ _ ⟨_, g0L6, rfl, g4L6, lE, (by rw [joinR_succ (by omega)]; simp only [List.append_assoc])⟩
  ·skip
   have tj := hg28
   exact hJ9 _ _ ⟨_, g0L6, g3L6, g4L6, lE, (by rw [joinR_one (by omega), show joinR c.toNat l i = [] by rw [show i = 0 by omega, joinR_zero], List.append_nil])⟩
 ·skip
  have ti := hg7
  exact hJ5 _ _ ⟨(g3L6.trans (congrArg vS (by rw [show i = r.toNat by omega]))), lE⟩
theorem C.impl_Field_text {vc : Value} {r c : Int} {l : List Int}  {H : Hp} {K : Value → Hp → Prop} (hvc0 : Sl eI H vc l) (hf : fieldN 1 r c l)
    (hk : ∀ H', Le H H' → K (vS (fieldT r c l)) H') : HT prg I.impl_Field_text [(.agg #[(.int .i64 (r)), (.int .i64 (c)), vc])].toArray H K := by
 have lE := Le.refl H
 have hvc := hvc0
 refine R.impl_Field_text ?_
 unfold F.impl_Field_text
 have hs := hf.1
 have hl := hf.2.1
 have q1 := hs.1
 have q2 := hs.2
 have qm := sidesF_mul hs
 have l1 := fieldN_len hf
 have hlN : l.length = r.toNat * c.toNat := by rw [← Int.natCast_inj, Int.natCast_mul, Int.toNat_of_nonneg (by omega), Int.toNat_of_nonneg (by omega)]; exact hl
 have dc := decT_len c.toNat
 have dr := decT_len r.toNat
 have rf := rowsT_flat (c := c.toNat) (l := l) r.toNat
 have rg : r.toNat * (3 * c.toNat) ≤ 24 * 72 := Nat.mul_le_mul (by omega) (by omega)
 have rjl : (joinT [36] (rowsT c.toNat l r.toNat)).length ≤ r.toNat * (3 * c.toNat + 1) := joinR_len _
 have rjm : r.toNat * (3 * c.toNat + 1) ≤ 24 * 73 := Nat.mul_le_mul (by omega) (by omega)
 have rn := rowsT_len (c := c.toNat) (l := l) (n := r.toNat)
 refine nw_i (fun pf H1 opf nn2 le3 => ?_)
 replace hvc := hvc.le le3
 replace lE := lE.trans le3
 replace opf : Cel H1 pf [(.int .i64 (r)), (.int .i64 (c)), vc] := opf
 refine bS_nil (enc := vS) (fun ou H4 oou nn5 kk6 le7 => ?_)
 have apfXou : Apart pf ou := opf.apart nn5
 have nou : Nw H ou := nn5.le lE
 replace opf := opf.le le7
 replace hvc := hvc.le le7
 replace lE := lE.trans le7
 refine nw_i (fun po H8 opo nn9 le10 => ?_)
 have apfXpo : Apart pf po := opf.apart nn9
 have aouXpo : Apart ou po := oou.apart nn9
 have npo : Nw H po := nn9.le lE
 replace opf := opf.le le10
 replace oou := oou.le le10
 replace hvc := hvc.le le10
 replace lE := lE.trans le10
 replace opo : Cel H8 po [(.slice none 0 0)] := opo
 refine opo.st0 (by simp) oou.one oou.cells (fun H11 opo off12 => ?_)
 replace opf := opf.off off12 apfXpo
 replace oou := oou.off off12 aouXpo
 replace hvc := hvc0.le (off12.le lE npo)
 replace lE := off12.le lE npo
 replace opo : Cel H11 po [ou] := opo
 refine jn_i (fun σ' H' => ∃ ou, σ' 1 = pf ∧ σ' 3 = po ∧ Cel H' pf [(.int .i64 (r)), (.int .i64 (c)), vc] ∧ Own vS H' ou (rowsT c.toNat l r.toNat) ∧ Cel H' po [ou] ∧ Nw H ou ∧ Apart pf ou ∧ Apart ou po ∧ Le H H') (fun σ13 H13 hP => ?_) (fun J13 hJ13 => ?_)
 ·skip
  obtain ⟨ou, g1L13, g3L13, opf, oou, opo, nou, apfXou, aouXpo, lE⟩ := hP
  try simp only [g1L13, g3L13]
  refine ob_i (opf.fa 1) ?_
  refine ob_i (opf.ld 1 rfl) ?_
  refine ob_i (opf.fa 0) ?_
  refine ob_i (opf.ld 0 rfl) ?_
  refine ob_i (opo.ld0 rfl) ?_
  refine C.impl_Decimal (by first | omega | assumption) (by first | omega | assumption) ?_
  refine ⟨Le.refl _, ?_⟩
  refine ob_i (vStr_add (a := decT c.toNat) (b := ([44] : List UInt8)) (by first | omega | (simp only [List.length_cons, List.length_nil]; omega))) ?_
  refine C.impl_Decimal (by first | omega | assumption) (by first | omega | assumption) ?_
  refine ⟨Le.refl _, ?_⟩
  refine ob_i (vStr_add (a := (decT c.toNat) ++ ([44] : List UInt8)) (b := decT r.toNat) (by first | omega | (simp only [List.length_append, List.length_cons, List.length_nil]; omega))) ?_
  refine ob_i (vStr_add (a := ((decT c.toNat) ++ ([44] : List UInt8)) ++ (decT r.toNat)) (b := ([58] : List UInt8)) (by first | omega | (simp only [List.length_append, List.length_cons, List.length_nil]; omega))) ?_
  refine C.strings_Join oou.sl (by first | omega | assumption) (by first | omega | assumption) (fun   H14    le15 => ?_)
  replace lE := lE.trans le15
  refine ⟨le15, ?_⟩
  refine ob_i (vStr_add (a := (((decT c.toNat) ++ ([44] : List UInt8)) ++ (decT r.toNat)) ++ ([58] : List UInt8)) (b := joinT [36] (rowsT c.toNat l r.toNat)) (by first | omega | (simp only [List.length_append, List.length_cons, List.length_nil]; omega))) ?_
  refine ob_i (vStr_add (a := ((((decT c.toNat) ++ ([44] : List UInt8)) ++ (decT r.toNat)) ++ ([58] : List UInt8)) ++ (joinT [36] (rowsT c.toNat l r.toNat))) (b := ([33] : List UInt8)) (by first | omega | (simp only [List.length_append, List.length_cons, List.length_nil]; omega))) ?_
  skip
  exact keq (K := K) (by rw [show (fieldT r c l) = ((((((decT c.toNat) ++ ([44] : List UInt8)) ++ (decT r.toNat)) ++ ([58] : List UInt8)) ++ (joinT [36] (rowsT c.toNat l r.toNat))) ++ ([33] : List UInt8)) from by rfl]; try rfl) (hk   _    lE)
 refine ob_i (opf.fa 2) ?_
 refine ob_i (opf.ld 2 rfl) ?_
 refine ob_i (opf.fa 1) ?_
 refine ob_i (opf.ld 1 rfl) ?_
 refine C.slices_Chunk hvc (by omega) (fun ps16 pn17 H18 ops16 opn17 nn20 nn21 aps16Xpn17 le19 => ?_)
 have aouXps16 : Apart ou ps16 := oou.apart nn20
 have apoXps16 : Apart po ps16 := opo.apart nn20
 have aouXpn17 : Apart ou pn17 := oou.apart nn21
 have apoXpn17 : Apart po pn17 := opo.apart nn21
 replace opf := opf.le le19
 replace oou := oou.le le19
 replace opo := opo.le le19
 replace hvc := hvc.le le19
 replace lE := lE.trans le19
 replace ops16 : Cel H18 ps16 [vc] := ops16
 replace opn17 : Cel H18 pn17 [(.int .i64 (c))] := opn17
 refine rgE_i (r.toNat) (fun (i : Nat) => [chV vc (i * c.toNat) c.toNat]) (fun (i : Nat) H' => ∃ ou, Cel H' pf [(.int .i64 (r)), (.int .i64 (c)), vc] ∧ Own vS H' ou (rowsT c.toNat l i) ∧ Cel H' po [ou] ∧ Cel H' ps16 [vc] ∧ Cel H' pn17 [(.int .i64 (c))] ∧ Nw H ou ∧ Apart pf ou ∧ Apart ou po ∧ Apart ou ps16 ∧ Apart ou pn17 ∧ Le H H') trivial (fun _ => rfl) ⟨ou, opf, (Own.cast (by first | rfl | (simp; done)) oou), opo, ops16, opn17, nou, apfXou, aouXpo, aouXps16, aouXpn17, lE⟩ (fun i H22 σ22 Q22 hiN hσ22 qn22 qr22 qx22 hI22 => ?_) (fun H22 hI22 => ?_) (fun yv J St H1 K1 hJ h0 hst hk1 hs1 => ?_)
 ·obtain ⟨ou, opf, oou, opo, ops16, opn17, nou, apfXou, aouXpo, aouXps16, aouXpn17, lE⟩ := hI22
  have hvc := hvc0.le lE
  have hmz23 : (i + 1) * c.toNat ≤ r.toNat * c.toNat := Nat.mul_le_mul_right _ (by omega)
  rw [Nat.add_mul, Nat.one_mul] at hmz23
  have hz230 : Sl eI H (chV vc (i * c.toNat) c.toNat) (rowL c.toNat l i) := (chV_sl hvc0 (lo := i * c.toNat) (c := c.toNat) (by omega)).2
  obtain ⟨z23, ez23⟩ : ∃ z, z = chV vc (i * c.toNat) c.toNat := ⟨_, rfl⟩
  rw [← ez23] at hz230
  have hz23 := hz230.le lE
  have rz23 : (rowL c.toNat l i).length = c.toNat := rowL_len (r := r.toNat) hlN (by omega)
  have g3L22 : σ22 3 = po := by rw [hσ22]; exact rfl
  have g11L22 : σ22 11 = z23 := by rw [hσ22, ← ez23]; rfl
  try simp only [g3L22, g11L22]
  have ri := rowsT_len (c := c.toNat) (l := l) (n := i)
  refine ob_i (opo.ld0 rfl) ?_
  refine C.impl_runsText hz23 (by first | omega | assumption) (by exact row_01 hf.2.2) (fun   H24    le25 => ?_)
  replace opf := opf.le le25
  replace oou := oou.le le25
  replace opo := opo.le le25
  replace ops16 := ops16.le le25
  replace opn17 := opn17.le le25
  replace hvc := hvc.le le25
  replace hz23 := hz23.le le25
  replace lE := lE.trans le25
  refine ⟨le25, ?_⟩
  refine bS_i (enc := vS) (l := [rtx (rowL c.toNat l i)]) (by omega) rfl (by kernel_rfl) (fun u26 H27 ou26 nn28 le30 => ?_)
  replace opf := opf.le le30
  replace oou := oou.le le30
  replace opo := opo.le le30
  replace ops16 := ops16.le le30
  replace opn17 := opn17.le le30
  replace hvc := hvc.le le30
  replace hz23 := hz23.le le30
  replace lE := lE.trans le30
  refine apd_any oou ou26.sl (fun _ => rfl) (by omega) (by first | omega | (simp only [List.length_cons, List.length_nil]; omega)) (fun u34 H31 ou34 off32 hb33 => ?_)
  have apfXu34 : Apart pf u34 := Apart.ap2 opf.known apfXou hb33
  have apoXu34 : Apart po u34 := Apart.ap2 opo.known aouXpo.symm hb33
  have aps16Xu34 : Apart ps16 u34 := Apart.ap2 ops16.known aouXps16.symm hb33
  have apn17Xu34 : Apart pn17 u34 := Apart.ap2 opn17.known aouXpn17.symm hb33
  have nu34 : Nw H u34 := Nw.ap2 nou lE hb33
  replace opf := opf.off off32 apfXou
  replace opo := opo.off off32 aouXpo.symm
  replace ops16 := ops16.off off32 aouXps16.symm
  replace opn17 := opn17.off off32 aouXpn17.symm
  replace hvc := hvc0.le (off32.le lE nou)
  replace hz23 := hz230.le (off32.le lE nou)
  replace lE := off32.le lE nou
  refine opo.st0 (by simp) ou34.one ou34.cells (fun H35 opo off36 => ?_)
  replace opf := opf.off off36 apfXpo
  replace ops16 := ops16.off off36 apoXps16.symm
  replace opn17 := opn17.off off36 apoXpn17.symm
  replace ou34 := ou34.off off36 apoXu34.symm
  replace hvc := hvc0.le (off36.le lE npo)
  replace hz23 := hz230.le (off36.le lE npo)
  replace lE := off36.le lE npo
  replace opo : Cel H35 po [u34] := opo
  exact qn22 _ _ ⟨u34, opf, (Own.cast rowsT_succ.symm ou34), opo, ops16, opn17, nu34, apfXu34, apoXu34.symm, aps16Xu34.symm, apn17Xu34.symm, lE⟩
 ·obtain ⟨ou, opf, oou, opo, ops16, opn17, nou, apfXou, aouXpo, aouXps16, aouXpn17, lE⟩ := hI22
  exact hJ13 _ _ ⟨ou, rfl, rfl, opf, oou, opo, nou, apfXou, aouXpo, lE⟩
 ·refine ⟨by kernel_rfl, C.slices_ChunkZ1 (r := r.toNat) (c := c.toNat) hvc0 hlN (by omega) (by omega) (by omega) (fun t A hA => ?_) h0 hst hk1 hs1⟩
  obtain ⟨A', b, o, rfl, hn, ou, opf, oou, opo, ops16, opn17, nou, apfXou, aouXpo, aouXps16, aouXpn17, lE⟩ := hJ t A hA
  exact ⟨ops16.le (Le.put _ hn), Cel.castX (by rw [Int.toNat_of_nonneg (by omega)]) (opn17.le (Le.put _ hn))⟩
end Go.Proofs.YtijmoehbgkibnaaDoor
/- Fields that are read back by the program. -/
namespace Go.Proofs.YtijmoehbgkibnaaDoor
open HL
set_option maxRecDepth 100000
attribute [local irreducible] vStr
attribute [local irreducible] Go.Lib.cut Go.Lib.trimSuffix Go.Lib.hasSuffix Go.Lib.indexAny
theorem HL.vInt_subU8 {a b : Int} (h0 : 0 ≤ a - b) (h1 : a - b < 256) : vInt .sub (.int .u8 a) (.int .u8 b) = some (.int .u8 (a - b)) := by
  have : IntKind.u8.wrap (a - b) = a - b := by unfold IntKind.wrap; simp [IntKind.signed, IntKind.bits]; omega
  simp only [vInt, if_true, this]
theorem chT_eq (x : Int) : (chT x).toNat = 111 ↔ x = 1 := by
  unfold chT; split
  · rename_i h; exact ⟨fun _ => h, fun _ => rfl⟩
  · rename_i h; exact ⟨fun h1 => absurd h1 (by decide), fun h1 => absurd h1 h⟩
theorem bit_t {x : Int} {c : UInt8} (hc : c = chT x) (h : ((c.toNat : Nat) : Int) = 111) : x = 1 := by subst hc; exact (chT_eq x).mp (by omega)
theorem bit_f {x : Int} {c : UInt8} (hc : c = chT x) (h : ¬ ((c.toNat : Nat) : Int) = 111) (h0 : 0 ≤ x) (h1 : x ≤ 1) : x = 0 := by
  subst hc
  have : x ≠ 1 := fun e => h (by have := (chT_eq x).mpr e; omega)
  omega
theorem take_bit {row : List Int} {a j : Nat} {x : Int} (h : a + j < row.length) (e : at_ 0 row ((a + j : Nat) : Int) = x) : row.take (a + j) ++ [x] = row.take (a + (j + 1)) := by
  rw [← e, ← Nat.add_assoc, take_at 0 row h]
theorem C.parse_ok {n : Int} {H : Hp} {K : Value → Hp → Prop} (n0 : 0 ≤ n) (n1 : n < 100) (hk : K (.tuple #[.int .i64 n, .nilIface]) H) : HT prg I.strconv_ParseInt [vS (decT n.toNat), .int .i64 10, .int .i64 64].toArray H K :=
  HT_below fun w hw => by
    have hd := decT_len n.toNat
    refine (parse_ok_calls (tS (decT n.toNat)) (by rw [tS_size]; omega) n (by rw [tS_data, parse_dec _ (by omega), Int.toNat_of_nonneg n0]) w).mono fun e w' ⟨he, hn⟩ => ?_
    rcases hn with hn | ⟨t, hn⟩
    · exact ⟨_, he, hn ▸ Go.RowKit.Below.refl _ _, hk⟩
    · exact ⟨_, he, hn ▸ below_bytes w 5 t, hk⟩
theorem C.impl_isValue {n : Int}  {H : Hp} {K : Value → Hp → Prop}
    (hk : K (.bool (decide (-1000000000000000 ≤ n ∧ n ≤ 1000000000000000))) H) : HT prg I.impl_isValue [(.int .i64 (n))].toArray H K := by
 have lE := Le.refl H
 refine R.impl_isValue ?_
 unfold F.impl_isValue
 refine C.impl_within  ?_
 skip
 exact keq (K := K) (by rw [show decide ((-1000000000000000) ≤ n ∧ n ≤ 1000000000000000) = decide (-1000000000000000 ≤ n ∧ n ≤ 1000000000000000) from decide_eq_decide.mpr (by first | omega | assumption)]; try rfl) (hk )
theorem C.read_ok {n : Int} {H : Hp} {K : Value → Hp → Prop} (n0 : 0 ≤ n) (n1 : n < 100) (hk : K (.tuple #[.int .i64 n, .bool true]) H) : HT prg I.impl_ReadDecimal [vS (decT n.toNat)].toArray H K := by
 refine R.impl_ReadDecimal ?_
 unfold F.impl_ReadDecimal
 refine C.parse_ok n0 n1 ?_
 refine ob_i (vExt_20 _ _) ?_
 refine ob_i (vExt_21 _ _) ?_
 refine ob_i (a := .bool false) (by kernel_rfl) ?_
 refine gop_rf ?_
 refine gop_rf ?_
 refine C.impl_isValue ?_
 rw [decide_eq_true (show -1000000000000000 ≤ n ∧ n ≤ 1000000000000000 by omega)]
 refine gop_rf ?_
 refine ob_i (a := .bool false) rfl ?_
 refine ob_i (vPick_f _ _) ?_
 refine gop_rf ?_
 refine gop_rf ?_
 refine C.impl_Decimal n0 n1 ?_
 refine gop_rf ?_
 refine gop_rf ?_
 refine ob_i (vStr_neq_same _) ?_
 refine ob_i (vPick_f _ _) ?_
 exact cnd_f1 hk
theorem C.impl_readRow {c : Int} {t0 : List UInt8} {row : List Int} {H : Hp} {K : Value → Hp → Prop} (hrl : (row.length : Int) = c) (hc : c ≤ 24) (h01 : ∀ x ∈ row, 0 ≤ x ∧ x ≤ 1) (ht : t0 = rtx row)
    (hk : ∀ u1 H', Own eI H' u1 row → Nw H u1 → Le H H' → K (.tuple #[u1, (.bool true)]) H') : HT prg I.impl_readRow [(vS (t0)), (.int .i64 (c))].toArray H K := by
 have lE := Le.refl H
 refine R.impl_readRow ?_
 unfold F.impl_readRow
 have rl := rtx_len row.length row (Nat.le_refl _)
 subst ht
 refine bS_nil (enc := eI) (fun u1 H2 ou1 nn3 kk4 le5 => ?_)
 have nu1 : Nw H u1 := nn3.le lE
 replace lE := lE.trans le5
 refine jn_i (fun σ' H' => ∃ u, ∃ a : Nat, σ' 1 = (.int .i64 (c)) ∧ σ' 6 = u ∧ Own eI H' u (row.take a) ∧ Nw H u ∧ Le H H' ∧ rtx (row.drop a) = [] ∧ a ≤ row.length) (fun σ6 H6 hP => ?_) (fun J6 hJ6 => ?_)
 ·skip
  obtain ⟨u, a, g1L6, g6L6, ou, nu, lE, hz, hal⟩ := hP
  try simp only [g1L6, g6L6]
  have tl : (row.take a).length = a := by rw [List.length_take]; omega
  have hfin : row.take a ++ List.replicate (c - ((row.take a).length : Int)).toNat 0 = row := by rw [tl, show (c - (a : Int)).toNat = row.length - a by omega]; exact rtx_end (by omega) hz hal
  refine ob_i (ou.len) ?_
  refine ob_i (vInt_gtr _ _ _) ?_
  refine cnd_d (fun hg7 => ?_) (fun hg7 => ?_)
  ·skip
   exact absurd hg7 (by omega)
  ·skip
   refine ob_i (ou.len) ?_
   refine ob_i (vInt_sub (by omega) (by omega)) ?_
   refine apm_any (x0 := (0 : Int)) ou rfl (by omega) (by omega) (by first | omega | (simp only [List.length_append, List.length_cons, List.length_nil, List.length_take, List.length_drop]; omega)) (fun u11 H8 ou11 off9 hb10 => ?_)
   have nu11 : Nw H u11 := Nw.ap2 nu lE hb10
   replace lE := off9.le lE nu
   skip
   exact hk  u11 _ (Own.cast (show (row.take a) ++ List.replicate (c - (((row.take a).length : Int)) : Int).toNat 0 = row by exact hfin) ou11) nu11  lE
 refine ⟨fun n' σ' H' => ∃ i : Nat, n' = row.length - i ∧ i ≤ row.length ∧ ∃ u, ∃ a : Nat, σ' 0 = (vS (rtx (row.drop a))) ∧ σ' 1 = (.int .i64 (c)) ∧ σ' 6 = u ∧ Own eI H' u (row.take a) ∧ Nw H u ∧ Le H H' ∧ i ≤ a ∧ a ≤ row.length,
  ⟨_, 0, rfl, by omega, u1, 0, rfl, rfl, rfl, (Own.cast (by first | rfl | (simp; done)) ou1), nu1, lE, (by omega), (by omega)⟩, ?_⟩
 rintro n12 σ12 H12 ⟨i, rfl, hiN, u, a, g0L12, g1L12, g6L12, ou, nu, lE, hm0, hm1⟩
 try simp only [g0L12, g1L12]
 have tl : (row.take a).length = a := by rw [List.length_take]; omega
 have rl2 := rtx_len row.length (row.drop a) (by simp)
 have dl : (row.drop a).length = row.length - a := List.length_drop
 refine ob_i (vStr_neq (rtx (row.drop a)) (([] : List UInt8))) ?_
 refine cnd_d (fun hg13 => ?_) (fun hg13 => ?_)
 ·skip
  have ti := hg13
  obtain ⟨ha, k, p, hak, hk1, hkp, hidx, hpl, hch, hdr, hsame⟩ := rtx_round (a := a) (by omega) hg13
  have hxa := h01 _ (at_mem 0 row (i := (a : Int)) (by omega) (by omega))
  refine C.strings_IndexAny (by omega) (by simp) (fun b hb => ?_) (by decide) ?_
  ·rcases rtx_asc row.length (row.drop a) (by simp) (by omega) b hb with h | rfl | rfl <;> first | omega | decide
  rw [hidx]
  refine ob_i (vInt_lss _ _ _) ?_
  refine cnd_d (fun hg14 => ?_) (fun hg14 => ?_)
  ·skip
   exact absurd hg14 (by omega)
  ·skip
   refine jn_i (fun σ' H' => σ' 0 = (vS (rtx (row.drop a))) ∧ σ' 1 = (.int .i64 (c)) ∧ σ' 6 = u ∧ σ' 7 = (.int .i64 ((p : Int))) ∧ σ' 8 = (.int .i64 ((k : Int))) ∧ Own eI H' u (row.take a) ∧ Le H H') (fun σ15 H15 hP => ?_) (fun J15 hJ15 => ?_)
   ·skip
    obtain ⟨g0L15, g1L15, g6L15, g7L15, g8L15, ou, lE⟩ := hP
    try simp only [g8L15]
    refine jn_i (fun σ' H' => ∃ u, σ' 0 = (vS (rtx (row.drop a))) ∧ σ' 1 = (.int .i64 (c)) ∧ σ' 6 = u ∧ σ' 7 = (.int .i64 ((p : Int))) ∧ Own eI H' u (row.take (a + k)) ∧ Nw H u ∧ Le H H') (fun σ16 H16 hP => ?_) (fun J16 hJ16 => ?_)
    ·skip
     obtain ⟨u, g0L16, g1L16, g6L16, g7L16, ou, nu, lE⟩ := hP
     try simp only [g0L16, g7L16]
     refine ob_i (vInt_add (by omega) (by omega)) ?_
     refine ob_i (vSlS_lo (a := rtx (row.drop a)) (by omega) (by first | omega | (simp only [List.length_append, List.length_cons, List.length_nil, List.length_take, List.length_drop]; omega))) ?_
     exact nxt (row.length - (i + 1)) (by omega) ⟨i + 1, rfl, by omega, u, (a + k), (congrArg vS (by rw [show ((p : Int) + 1).toNat = p + 1 by omega]; exact hdr)), g1L16, g6L16, ou, nu, lE, (by omega), (by omega)⟩
    refine ⟨fun n' σ' H' => ∃ j : Nat, n' = k - j ∧ j ≤ k ∧ ∃ u, σ' 0 = (vS (rtx (row.drop a))) ∧ σ' 1 = (.int .i64 (c)) ∧ σ' 6 = u ∧ σ' 7 = (.int .i64 ((p : Int))) ∧ σ' 36 = (.int .i64 ((k : Int))) ∧ σ' 37 = (.int .i64 ((j : Int))) ∧ Own eI H' u (row.take (a + j)) ∧ Nw H u ∧ Le H H',
     ⟨_, 0, rfl, by omega, u, g0L15, g1L15, g6L15, g7L15, rfl, (congrArg (Value.int .i64) (by first | omega | rfl | (simp; done))), (Own.cast (by first | rfl | (simp; done)) ou), nu, lE⟩, ?_⟩
    rintro n17 σ17 H17 ⟨j, rfl, hjN, u, g0L17, g1L17, g6L17, g7L17, g36L17, g37L17, ou, nu, lE⟩
    try simp only [g0L17, g6L17, g7L17, g36L17, g37L17]
    have tj : (row.take (a + j)).length = a + j := by rw [List.length_take]; omega
    refine ob_i (vInt_lss _ _ _) ?_
    refine cnd_d (fun hg18 => ?_) (fun hg18 => ?_)
    ·skip
     have tj := hg18
     refine ob_i (vIndexS_t (a := rtx (row.drop a)) (by omega) (by first | omega | (simp only [List.length_append, List.length_cons, List.length_nil, List.length_take, List.length_drop]; omega))) ?_
     refine ob_i (vInt_eql _ _ _) ?_
     refine R.impl_bit ?_
     unfold F.impl_bit
     refine cnd_d (fun hg19 => ?_) (fun hg19 => ?_)
     ·skip
      refine bS_i (enc := eI) (l := [(1 : Int)]) (by omega) rfl (by kernel_rfl) (fun u20 H21 ou20 nn22 le24 => ?_)
      replace ou := ou.le le24
      replace lE := lE.trans le24
      refine apd_any ou ou20.sl (fun _ => rfl) (by omega) (by first | omega | (simp only [List.length_cons, List.length_nil]; omega)) (fun u28 H25 ou28 off26 hb27 => ?_)
      have nu28 : Nw H u28 := Nw.ap2 nu lE hb27
      replace lE := off26.le lE nu
      refine ob_i (vInt_add (by omega) (by omega)) ?_
      exact nxt (k - (j + 1)) (by omega) ⟨j + 1, rfl, by omega, u28, g0L17, g1L17, rfl, g7L17, g36L17, (congrArg (Value.int .i64) (by first | omega | rfl | (simp; done))), (Own.cast (take_bit (by omega) ((hsame j (by omega)).trans (bit_t hch hg19))) ou28), nu28, lE⟩
     ·skip
      refine bS_i (enc := eI) (l := [(0 : Int)]) (by omega) rfl (by kernel_rfl) (fun u29 H30 ou29 nn31 le33 => ?_)
      replace ou := ou.le le33
      replace lE := lE.trans le33
      refine apd_any ou ou29.sl (fun _ => rfl) (by omega) (by first | omega | (simp only [List.length_cons, List.length_nil]; omega)) (fun u37 H34 ou37 off35 hb36 => ?_)
      have nu37 : Nw H u37 := Nw.ap2 nu lE hb36
      replace lE := off35.le lE nu
      refine ob_i (vInt_add (by omega) (by omega)) ?_
      exact nxt (k - (j + 1)) (by omega) ⟨j + 1, rfl, by omega, u37, g0L17, g1L17, rfl, g7L17, g36L17, (congrArg (Value.int .i64) (by first | omega | rfl | (simp; done))), (Own.cast (take_bit (by omega) ((hsame j (by omega)).trans (bit_f hch hg19 (by omega) (by omega)))) ou37), nu37, lE⟩
    ·skip
     have tj := hg18
     obtain rfl : j = k := by omega
     exact hJ16 _ _ ⟨u, g0L17, g1L17, g6L17, g7L17, ou, nu, lE⟩
   refine ob_i (vInt_gtr _ _ _) ?_
   refine cnd_d (fun hg38 => ?_) (fun hg38 => ?_)
   ·skip
    refine ob_i (vSlS_hi (a := rtx (row.drop a)) (by omega) (by first | omega | (simp only [List.length_append, List.length_cons, List.length_nil, List.length_take, List.length_drop]; omega))) ?_
    rw [show ((rtx (row.drop a)).take ((p : Int)).toNat) = decT (k : Int).toNat by rw [Int.toNat_natCast, Int.toNat_natCast]; rcases hkp with h | h; exact absurd h.2 (by omega); exact h.2.2]
    refine C.read_ok (n := (k : Int)) (by omega) (by omega) ?_
    refine ob_i (vExt_20 _ _) ?_
    refine ob_i (vExt_21 _ _) ?_
    refine ob_i (a := .bool false) rfl ?_
    refine gop_rf ?_
    refine gop_rf ?_
    refine gop_rf ?_
    refine C.impl_within  ?_
    refine gop_rf ?_
    refine ob_nd (fun hc39 => ?_) (fun hc39 => ?_)
    ·skip
     refine ob_i (vPick_f _ _) ?_
     refine cnd_f1 ?_
     exact hJ15 _ _ ⟨g0L12, g1L12, g6L12, rfl, (congrArg (Value.int .i64) (by first | rfl | omega)), ou, lE⟩
    ·skip
     exact absurd hc39 (by omega)
   ·skip
    exact hJ15 _ _ ⟨g0L12, g1L12, g6L12, rfl, (congrArg (Value.int .i64) (by first | rfl | omega)), ou, lE⟩
 ·skip
  have ti := hg13
  exact hJ6 _ _ ⟨u, a, g1L12, g6L12, ou, nu, lE, (Decidable.not_not.mp hg13), (by omega)⟩
theorem C.cut_eq {H : Hp} {K : Value → Hp → Prop} {s a b : List UInt8} {c : UInt8} (h : Go.Lib.cut s [c] = (a, b, true)) (hs : s.length ≤ 1000000000) (hv : VR H) (hk : K (.tuple #[vS a, vS b, .bool true]) H) : HT prg I.strings_Cut [vS s, vS [c]].toArray H K :=
  C.strings_Cut hs hv (by rw [h]; exact hk)
theorem C.suffix_eq {H : Hp} {K : Value → Hp → Prop} {a : List UInt8} {c : UInt8} (hs : a.length ≤ 1000000) (hk : K (.tuple #[vS a, .bool true]) H) : HT prg I.strings_CutSuffix [vS (a ++ [c]), vS [c]].toArray H K :=
  C.strings_CutSuffix (by simp only [List.length_append, List.length_singleton]; omega) (by rw [(suffix_one a c).1, (suffix_one a c).2]; exact hk)
theorem rows_at {c r i : Nat} {l : List Int} (h : i < r) : at_ [] (rowsT c l r) (i : Int) = rtx (rowL c l i) := by
  rw [at_eq [] _ (by rw [rowsT_len]; exact h)]; simp [rowsT]
theorem take_row {c i : Nat} {l : List Int} : l.take (i * c) ++ rowL c l i = l.take ((i + 1) * c) := by
  unfold rowL
  rw [Nat.add_mul, Nat.one_mul, List.take_add]
theorem C.readRuns_ok {r c : Int} {l : List Int} {H : Hp} {K : Value → Hp → Prop} (hf : fieldN 1 r c l) (hv : VR H) (hlen : (fieldT r c l).length ≤ 1200)
    (hk : ∀ u1 H', Own eI H' u1 l → Nw H u1 → Le H H' → K (.tuple #[(.agg #[(.int .i64 (r)), (.int .i64 (c)), u1]), (.bool true)]) H') : HT prg I.impl_ReadRuns [(vS (fieldT r c l))].toArray H K := by
 have lE := Le.refl H
 refine R.impl_ReadRuns ?_
 unfold F.impl_ReadRuns
 have hs := hf.1
 have hl := hf.2.1
 have q1 := hs.1
 have q2 := hs.2
 have qm := sidesF_mul hs
 have l1 := fieldN_len hf
 have hlN : l.length = r.toNat * c.toNat := by rw [← Int.natCast_inj, Int.natCast_mul, Int.toNat_of_nonneg (by omega), Int.toNat_of_nonneg (by omega)]; exact hl
 have dc := decT_len c.toNat
 have dr := decT_len r.toNat
 have rn := rowsT_len (c := c.toNat) (l := l) (n := r.toNat)
 have rjl := joinR_len (c := c.toNat) (l := l) r.toNat
 have rjm : r.toNat * (3 * c.toNat + 1) ≤ 24 * 73 := Nat.mul_le_mul (by omega) (by omega)
 refine nw_i (fun p1 H2 op1 nn3 le4 => ?_)
 have np1 : Nw H p1 := nn3.le lE
 replace lE := lE.trans le4
 replace op1 : Cel H2 p1 [(.int .i64 (0)), (.int .i64 (0)), (.slice none 0 0)] := op1
 refine ob_i (vLenS_t (fieldT r c l)) ?_
 refine ob_i (vInt_gtr _ _ _) ?_
 refine cnd_d (fun hg5 => ?_) (fun hg5 => ?_)
 ·skip
  exact absurd hg5 (by omega)
 ·skip
  refine C.cut_eq (field_cut (by omega) (by omega) (by omega) (by omega)) (by first | omega | (simp only [List.length_append, List.length_cons, List.length_nil, List.length_take, List.length_drop]; omega)) (hv.le lE) ?_
  refine ob_i (vExt_30 _ _ _) ?_
  refine ob_i (vExt_31 _ _ _) ?_
  refine ob_i (vExt_32 _ _ _) ?_
  refine C.cut_eq (head_cut (by omega) (by omega)) (by first | omega | (simp only [List.length_append, List.length_cons, List.length_nil]; omega)) (hv.le lE) ?_
  refine ob_i (vExt_30 _ _ _) ?_
  refine ob_i (vExt_31 _ _ _) ?_
  refine ob_i (vExt_32 _ _ _) ?_
  refine C.read_ok (n := c) (by omega) (by omega) ?_
  refine ob_i (vExt_20 _ _) ?_
  refine ob_i (vExt_21 _ _) ?_
  refine C.read_ok (n := r) (by omega) (by omega) ?_
  refine ob_i (vExt_20 _ _) ?_
  refine ob_i (vExt_21 _ _) ?_
  refine C.suffix_eq (by omega) ?_
  refine ob_i (vExt_20 _ _) ?_
  refine ob_i (vExt_21 _ _) ?_
  refine ob_i (a := .bool false) rfl ?_
  refine gop_rf ?_
  refine gop_rf ?_
  refine ob_i (a := .bool false) rfl ?_
  refine ob_i (vPick_f _ _) ?_
  refine gop_rf ?_
  refine gop_rf ?_
  refine ob_i (a := .bool false) rfl ?_
  refine ob_i (vPick_f _ _) ?_
  refine gop_rf ?_
  refine gop_rf ?_
  refine C.impl_isSide  ?_
  refine gop_rf ?_
  refine ob_nd (fun hc6 => ?_) (fun hc6 => ?_)
  ·skip
   refine ob_i (vPick_f _ _) ?_
   refine gop_rf ?_
   refine gop_rf ?_
   refine C.impl_isSide  ?_
   refine gop_rf ?_
   refine ob_nd (fun hc7 => ?_) (fun hc7 => ?_)
   ·skip
    refine ob_i (vPick_f _ _) ?_
    refine cnd_f1 ?_
    refine ob_i (a := (.agg #[(.int .i64 (r)), (.int .i64 (c)), (.slice none 0 0)])) (by rfl) ?_
    refine nw_i (fun pf H8 opf nn9 le10 => ?_)
    have ap1Xpf : Apart p1 pf := op1.apart nn9
    have npf : Nw H pf := nn9.le lE
    replace op1 := op1.le le10
    replace lE := lE.trans le10
    replace opf : Cel H8 pf [(.int .i64 (0)), (.int .i64 (0)), (.slice none 0 0)] := opf
    refine opf.stn (ws := [(.int .i64 (r)), (.int .i64 (c)), (.slice none 0 0)]) rfl rfl (oc1 rfl (oc1 rfl (oc1 rfl oc0))) (fun H11 opf off12 => ?_)
    replace op1 := op1.off off12 ap1Xpf
    replace lE := off12.le lE npf
    replace opf : Cel H11 pf [(.int .i64 (r)), (.int .i64 (c)), (.slice none 0 0)] := opf
    refine jn_i (fun σ' H' => ∃ u, σ' 0 = (vS (fieldT r c l)) ∧ σ' 2 = p1 ∧ σ' 15 = pf ∧ Cel H' p1 [(.int .i64 (0)), (.int .i64 (0)), (.slice none 0 0)] ∧ Cel H' pf [(.int .i64 (r)), (.int .i64 (c)), u] ∧ Own eI H' u (l) ∧ Nw H u ∧ Apart p1 u ∧ Apart pf u ∧ Le H H') (fun σ13 H13 hP => ?_) (fun J13 hJ13 => ?_)
    ·skip
     obtain ⟨u, g0L13, g2L13, g15L13, op1, opf, ou, nu, ap1Xu, apfXu, lE⟩ := hP
     try simp only [g0L13, g2L13, g15L13]
     refine ob_i (opf.ldn rfl) ?_
     refine C.impl_isPlain ou.sl (by first | omega | assumption) (fun   H14    le15 => ?_)
     replace op1 := op1.le le15
     replace opf := opf.le le15
     replace ou := ou.le le15
     replace lE := lE.trans le15
     refine ob_nd (fun hc16 => ?_) (fun hc16 => ?_)
     ·skip
      refine gop_rf ?_
      refine ob_i (opf.ldn rfl) ?_
      refine gop_rf ?_
      refine C.impl_Field_text ou.sl (by exact hf) (fun   H17    le18 => ?_)
      replace op1 := op1.le le18
      replace opf := opf.le le18
      replace ou := ou.le le18
      replace lE := lE.trans le18
      refine gop_rf ?_
      refine gop_rf ?_
      refine ob_i (vStr_neq_same _) ?_
      refine ob_i (vPick_f _ _) ?_
      refine cnd_f1 ?_
      refine ob_i (opf.ldn rfl) ?_
      refine op1.stn (ws := [(.int .i64 (r)), (.int .i64 (c)), u]) rfl rfl (oc1 rfl (oc1 rfl (oc1 ou.one oc0))) (fun H19 op1 off20 => ?_)
      replace ou := ou.off off20 ap1Xu.symm
      replace lE := off20.le lE np1
      replace op1 : Cel H19 p1 [(.int .i64 (r)), (.int .i64 (c)), u] := op1
      refine ob_i (op1.ldn rfl) ?_
      skip
      exact hk  u _ ou nu  lE
     ·skip
      exact absurd hc16 (fun h => h hf)
    refine C.strings_Split (by omega) (hv.le lE) (fun u21 H22 ou21 nn23 le24 => ?_)
    rw [rows_split (by omega) (by omega)] at ou21
    have apfXu21 : Apart pf u21 := opf.apart nn23
    replace op1 := op1.le le24
    replace opf := opf.le le24
    replace lE := lE.trans le24
    refine ob_i (ou21.len) ?_
    refine ⟨fun n' σ' H' => ∃ i : Nat, n' = r.toNat - i ∧ i ≤ r.toNat ∧ ∃ u, σ' 0 = (vS (fieldT r c l)) ∧ σ' 2 = p1 ∧ σ' 10 = (.int .i64 (c)) ∧ σ' 15 = pf ∧ σ' 76 = u21 ∧ σ' 77 = (.int .i64 (((rowsT c.toNat l r.toNat).length : Int))) ∧ σ' 78 = (.int .i64 ((i : Int))) ∧ Cel H' p1 [(.int .i64 (0)), (.int .i64 (0)), (.slice none 0 0)] ∧ Cel H' pf [(.int .i64 (r)), (.int .i64 (c)), u] ∧ Own vS H' u21 (rowsT c.toNat l r.toNat) ∧ Own eI H' u (l.take (i * c.toNat)) ∧ Nw H u ∧ Apart p1 u ∧ Apart pf u ∧ Apart u21 u ∧ Le H H',
     ⟨_, 0, rfl, by omega, _, rfl, rfl, rfl, rfl, rfl, rfl, (congrArg (Value.int .i64) (by first | omega | rfl | (simp; done))), op1, opf, ou21, (Own.cast (by first | rfl | (simp; done)) (Own.nil_of none)), (fun b hb => by simp [bk] at hb), (fun b _ hb => by simp [bk] at hb), (fun b _ hb => by simp [bk] at hb), (fun b _ hb => by simp [bk] at hb), lE⟩, ?_⟩
    rintro n25 σ25 H25 ⟨i, rfl, hiN, u, g0L25, g2L25, g10L25, g15L25, g76L25, g77L25, g78L25, op1, opf, ou21, ou, nu, ap1Xu, apfXu, au21Xu, lE⟩
    try simp only [g2L25, g10L25, g15L25, g76L25, g77L25, g78L25]
    have tl := List.length_take (i := i * c.toNat) (l := l)
    refine ob_i (vInt_lss _ _ _) ?_
    refine cnd_d (fun hg26 => ?_) (fun hg26 => ?_)
    ·skip
     have ti := hg26
     have im : (i + 1) * c.toNat ≤ r.toNat * c.toNat := Nat.mul_le_mul_right _ (by omega)
     rw [Nat.add_mul, Nat.one_mul] at im
     have rw1 : (rowL c.toNat l i).length = c.toNat := rowL_len (r := r.toNat) hlN (by omega)
     refine ob_i (ou21.sl.ix (by omega) (by omega)) ?_
     refine ob_i (ou21.sl.ld [] (by omega) (by omega)) ?_
     rw [rows_at (by omega)]
     refine C.impl_readRow (row := rowL c.toNat l i) (by omega) (by omega) (row_01 hf.2.2) rfl (fun u27 H28 ou27 nn29 le30 => ?_)
     replace op1 := op1.le le30
     replace opf := opf.le le30
     replace ou21 := ou21.le le30
     replace ou := ou.le le30
     replace lE := lE.trans le30
     refine ob_i (vExt_20 _ _) ?_
     refine ob_i (vExt_21 _ _) ?_
     refine ob_i (a := .bool false) rfl ?_
     refine cnd_f1 ?_
     refine ob_i (opf.fa 2) ?_
     refine ob_i (opf.ld 2 rfl) ?_
     refine apd_any ou ou27.sl (fun _ => rfl) (by omega) (by first | omega | (simp only [List.length_cons, List.length_nil, List.length_append, List.length_replicate, List.length_map, List.length_range]; omega)) (fun u34 H31 ou34 off32 hb33 => ?_)
     have ap1Xu34 : Apart p1 u34 := Apart.ap2 op1.known ap1Xu hb33
     have apfXu34 : Apart pf u34 := Apart.ap2 opf.known apfXu hb33
     have au21Xu34 : Apart u21 u34 := Apart.ap2 ou21.known au21Xu hb33
     have nu34 : Nw H u34 := Nw.ap2 nu lE hb33
     replace op1 := op1.off off32 ap1Xu
     replace opf := opf.off off32 apfXu
     replace ou21 := ou21.off off32 au21Xu
     replace lE := off32.le lE nu
     refine ob_i (opf.fa 2) ?_
     refine opf.st (by simp) ou34.one ou34.cells (fun H35 opf off36 => ?_)
     replace op1 := op1.off off36 ap1Xpf
     replace ou21 := ou21.off off36 apfXu21.symm
     replace ou34 := ou34.off off36 apfXu34.symm
     replace lE := off36.le lE npf
     replace opf : Cel H35 pf [(.int .i64 (r)), (.int .i64 (c)), u34] := opf
     refine ob_i (vInt_add (by omega) (by omega)) ?_
     exact nxt (r.toNat - (i + 1)) (by omega) ⟨i + 1, rfl, by omega, u34, g0L25, g2L25, g10L25, g15L25, g76L25, g77L25, (congrArg (Value.int .i64) (by first | omega | rfl | (simp; done))), op1, opf, ou21, (Own.cast take_row ou34), nu34, ap1Xu34, apfXu34, au21Xu34, lE⟩
    ·skip
     have ti := hg26
     obtain rfl : i = r.toNat := by omega
     rw [← hlN, List.take_length] at ou
     exact hJ13 _ _ ⟨u, g0L25, g2L25, g15L25, op1, opf, ou, nu, ap1Xu, apfXu, lE⟩
   ·skip
    exact absurd hc7 (fun h => h q2)
  ·skip
   exact absurd hc6 (fun h => h q1)
end Go.Proofs.YtijmoehbgkibnaaDoor
/- Fields with a border of zeros: the program's and the reference's. -/
namespace Go.Proofs.YtijmoehbgkibnaaDoor
open HL
set_option maxRecDepth 100000
def groOk (r c : Int) (l : List Int) (b : Int) : Prop := fieldN 1 r c l ∧ (0 ≤ b ∧ b ≤ 24) ∧ (1 ≤ r + 2 * b ∧ r + 2 * b ≤ 24) ∧ (1 ≤ c + 2 * b ∧ c + 2 * b ≤ 24)
instance (r c : Int) (l : List Int) (b : Int) : Decidable (groOk r c l b) := by unfold groOk; infer_instance
theorem C.spec_l04New {rr cc : Int} {H : Hp} {K : Value → Hp → Prop} (r0 : 0 ≤ rr) (r1 : rr ≤ 24) (c0 : 0 ≤ cc) (c1 : cc ≤ 24)
    (hk : ∀ u H', Own eI H' u (List.replicate (rr.toNat * cc.toNat) 0) → Nw H u → Le H H' → K (.agg #[.int .i64 rr, .int .i64 cc, u]) H') : HT prg I.spec_l04New [.int .i64 rr, .int .i64 cc].toArray H K := by
 refine R.spec_l04New ?_
 unfold F.spec_l04New
 have m := Int.mul_le_mul r1 c1 c0 (by omega)
 have m0 := Int.mul_nonneg r0 c0
 refine nw_i (fun q H1 oq nq le1 => ?_)
 rw [vInt_mul (by omega) (by omega), ob_some]
 refine Own.mk_ (z := (0 : Int)) (by omega) (by omega) (by omega) (by omega) (fun u H2 ou nu le2 => ?_)
 have aqu : Apart q u := oq.apart nu
 replace oq := oq.le le2
 refine ob_i (a := .agg #[.int .i64 rr, .int .i64 cc, u]) (by obtain ⟨_, _, _, rfl⟩ := ou.isSl; rfl) ?_
 refine oq.stn (ws := [.int .i64 rr, .int .i64 cc, u]) rfl rfl (oc1 rfl (oc1 rfl (oc1 ou.one oc0))) (fun H3 oq off3 => ?_)
 refine ob_i (oq.ldn rfl) ?_
 rw [Int.toNat_mul r0 c0] at ou
 exact hk u H3 (ou.off off3 aqu.symm) (nu.le le1) (off3.le (le1.trans le2) nq)
end Go.Proofs.YtijmoehbgkibnaaDoor
/- Fields that are read back by the reference. -/
namespace Go.Proofs.YtijmoehbgkibnaaDoor
open HL
set_option maxRecDepth 100000
attribute [local irreducible] vStr
theorem C.spec_l05Digits {p : Int} {s : List UInt8}  {H : Hp} {K : Value → Hp → Prop} (p0 : 0 ≤ p) (p1 : p ≤ s.length) (pl : s.length ≤ 1000000000)
    (hk : ∀ H', Le H H' → K (.tuple #[(.int .i64 (dgX s p)), (.int .i64 (p + (dgC s p : Int)))]) H') : HT prg I.spec_l05Digits [(vS (s)), (.int .i64 (p))].toArray H K := by
 have lE := Le.refl H
 refine R.spec_l05Digits ?_
 unfold F.spec_l05Digits
 refine jn_i (fun σ' H' => ∃ i : Nat, σ' 1 = (.int .i64 (p)) ∧ σ' 6 = (.int .i64 (dgV s p i)) ∧ σ' 7 = (.int .i64 (p + (i : Int))) ∧ Le H H' ∧ dgC s p = i ∧ i ≤ 2) (fun σ1 H1 hP => ?_) (fun J1 hJ1 => ?_)
 ·skip
  obtain ⟨i, g1L1, g6L1, g7L1, lE, hcN, hi2⟩ := hP
  try simp only [g1L1, g6L1, g7L1]
  refine ob_i (vInt_eql _ _ _) ?_
  refine cnd_d (fun hg2 => ?_) (fun hg2 => ?_)
  ·skip
   skip
   exact keq (K := K) (by rw [show ((dgX s p) : Int) = ((-1)) from by first | (unfold dgX; simp only [hcN]; first | (rw [if_neg (by omega)]; done) | (rw [if_pos (by omega)]; done)) | (simp only [hcN]; done) | (simp only [hcN]; omega) | omega]; rw [show ((p + (dgC s p : Int)) : Int) = (p) from by first | (unfold dgX; simp only [hcN]; first | (rw [if_neg (by omega)]; done) | (rw [if_pos (by omega)]; done)) | (simp only [hcN]; done) | (simp only [hcN]; omega) | omega]; try rfl) (hk   _    lE)
  ·skip
   skip
   exact keq (K := K) (by rw [show ((dgV s p i) : Int) = (dgX s p) from by first | (unfold dgX; simp only [hcN]; first | (rw [if_neg (by omega)]; done) | (rw [if_pos (by omega)]; done)) | (simp only [hcN]; done) | (simp only [hcN]; omega) | omega]; rw [show ((p + (dgC s p : Int)) : Int) = (p + (i : Int)) from by first | (unfold dgX; simp only [hcN]; first | (rw [if_neg (by omega)]; done) | (rw [if_pos (by omega)]; done)) | (simp only [hcN]; done) | (simp only [hcN]; omega) | omega]; try rfl) (hk   _    lE)
 refine ⟨fun n' σ' H' => ∃ i : Nat, n' = 2 - i ∧ i ≤ 2 ∧ σ' 0 = (vS (s)) ∧ σ' 1 = (.int .i64 (p)) ∧ σ' 6 = (.int .i64 (dgV s p i)) ∧ σ' 7 = (.int .i64 (p + (i : Int))) ∧ Le H H' ∧ (∀ j : Nat, j < i → digP s (p + (j : Int))),
  ⟨_, 0, rfl, by omega, rfl, rfl, (congrArg (Value.int .i64) (by first | omega | rfl | (simp; done))), (congrArg (Value.int .i64) (by first | omega | rfl | (simp; done))), lE, (fun j hj => absurd hj (by omega))⟩, ?_⟩
 rintro n3 σ3 H3 ⟨i, rfl, hiN, g0L3, g1L3, g6L3, g7L3, lE, hd⟩
 try simp only [g0L3, g1L3, g6L3, g7L3]
 have db := dgV_bnd (by omega) hd
 refine ob_i (vLenS_t (s)) ?_
 refine ob_i (vInt_lss _ _ _) ?_
 by_cases hc4 : (p + (i : Int)) < (((s).length : Int))
 ·skip
  refine gop_e (decide_eq_true hc4) ?_
  refine gop_rt ?_
  refine gop_e (decide_eq_true hc4) ?_
  refine gop_rt ?_
  refine gop_e (decide_eq_true hc4) ?_
  refine gop_rt ?_
  refine ob_i (vInt_add (by omega) (by omega)) ?_
  refine gop_e (decide_eq_true hc4) ?_
  refine gop_rt ?_
  refine ob_i (vInt_lss _ _ _) ?_
  refine ob_i (vPick_et (decide_eq_true hc4) _ _) ?_
  by_cases hc5 : (p + (i : Int)) < (p + 2)
  ·skip
   refine gop_e (decide_eq_true hc5) ?_
   refine gop_rt ?_
   refine gop_e (decide_eq_true hc5) ?_
   refine gop_rt ?_
   refine gop_e (decide_eq_true hc5) ?_
   refine gop_rt ?_
   refine ob_i (vIndexS_t (a := s) (by omega) (by first | omega | (simp only [List.length_append, List.length_cons, List.length_nil, List.length_take, List.length_drop]; omega))) ?_
   refine gop_e (decide_eq_true hc5) ?_
   refine gop_rt ?_
   refine ob_i (vInt_geq _ _ _) ?_
   refine ob_i (vPick_et (decide_eq_true hc5) _ _) ?_
   by_cases hc6 : 48 ≤ (((at_ 0 (s) (p + (i : Int))).toNat : Int))
   ·skip
    refine gop_e (decide_eq_true hc6) ?_
    refine gop_rt ?_
    refine gop_e (decide_eq_true hc6) ?_
    refine gop_rt ?_
    refine gop_e (decide_eq_true hc6) ?_
    refine gop_rt ?_
    refine ob_i (vIndexS_t (a := s) (by omega) (by first | omega | (simp only [List.length_append, List.length_cons, List.length_nil, List.length_take, List.length_drop]; omega))) ?_
    refine gop_e (decide_eq_true hc6) ?_
    refine gop_rt ?_
    refine ob_i (vInt_leq _ _ _) ?_
    refine ob_i (vPick_et (decide_eq_true hc6) _ _) ?_
    refine cnd_d (fun hg7 => ?_) (fun hg7 => ?_)
    ·skip
     refine ob_i (vInt_mul (by omega) (by omega)) ?_
     refine ob_i (vIndexS_t (a := s) (by omega) (by first | omega | (simp only [List.length_append, List.length_cons, List.length_nil, List.length_take, List.length_drop]; omega))) ?_
     refine ob_i (vInt_subU8 (by omega) (by omega)) ?_
     refine ob_i (vCI_64 _ (by omega) (by omega)) ?_
     refine ob_i (vInt_add (by omega) (by omega)) ?_
     refine ob_i (vInt_add (by omega) (by omega)) ?_
     exact nxt (2 - (i + 1)) (by omega) ⟨i + 1, rfl, by omega, g0L3, g1L3, (congrArg (Value.int .i64) rfl), (congrArg (Value.int .i64) (by first | omega | rfl | (simp; done))), lE, (fun j hj => by rcases Nat.lt_or_ge j i with h | h; exact hd j h; obtain rfl : j = i := (by omega); exact ⟨by omega, by omega, by omega⟩)⟩
    ·skip
     exact hJ1 _ _ ⟨i, g1L3, g6L3, g7L3, lE, (dgC_of (by omega) hd (by unfold digP; omega)), (by omega)⟩
   ·skip
    refine gop_e (decide_eq_false hc6) ?_
    refine gop_sf ?_
    refine gop_e (decide_eq_false hc6) ?_
    refine gop_sf ?_
    refine gop_e (decide_eq_false hc6) ?_
    refine gop_sf ?_
    refine gop_e (decide_eq_false hc6) ?_
    refine gop_sf ?_
    refine ob_i (vPick_ef (decide_eq_false hc6) _ _) ?_
    refine cnd_f1 ?_
    exact hJ1 _ _ ⟨i, g1L3, g6L3, g7L3, lE, (dgC_of (by omega) hd (by unfold digP; omega)), (by omega)⟩
  ·skip
   refine gop_e (decide_eq_false hc5) ?_
   refine gop_sf ?_
   refine gop_e (decide_eq_false hc5) ?_
   refine gop_sf ?_
   refine gop_e (decide_eq_false hc5) ?_
   refine gop_sf ?_
   refine gop_e (decide_eq_false hc5) ?_
   refine gop_sf ?_
   refine ob_i (vPick_ef (decide_eq_false hc5) _ _) ?_
   refine gop_sf ?_
   refine gop_sf ?_
   refine gop_sf ?_
   refine gop_sf ?_
   refine ob_i (vPick_f _ _) ?_
   refine cnd_f1 ?_
   exact hJ1 _ _ ⟨i, g1L3, g6L3, g7L3, lE, (dgC_of (by omega) hd (by unfold digP; omega)), (by omega)⟩
 ·skip
  refine gop_e (decide_eq_false hc4) ?_
  refine gop_sf ?_
  refine gop_e (decide_eq_false hc4) ?_
  refine gop_sf ?_
  refine gop_e (decide_eq_false hc4) ?_
  refine gop_sf ?_
  refine gop_e (decide_eq_false hc4) ?_
  refine gop_sf ?_
  refine ob_i (vPick_ef (decide_eq_false hc4) _ _) ?_
  refine gop_sf ?_
  refine gop_sf ?_
  refine gop_sf ?_
  refine gop_sf ?_
  refine ob_i (vPick_f _ _) ?_
  refine gop_sf ?_
  refine gop_sf ?_
  refine gop_sf ?_
  refine gop_sf ?_
  refine ob_i (vPick_f _ _) ?_
  refine cnd_f1 ?_
  exact hJ1 _ _ ⟨i, g1L3, g6L3, g7L3, lE, (dgC_of (by omega) hd (by unfold digP; omega)), (by omega)⟩
theorem C.sReadRuns_ok {s : List UInt8} {r c : Int} {l : List Int} {H : Hp} {K : Value → Hp → Prop} (hf : fieldN 1 r c l) (hs0 : s = fieldT r c l) (hlen : s.length ≤ 1200)
    (hk : ∀ u1 H', Own eI H' u1 l → Nw H u1 → Le H H' → K (.tuple #[(.agg #[(.int .i64 (r)), (.int .i64 (c)), u1]), (.bool true)]) H') : HT prg I.spec_ReadRuns [(vS (s))].toArray H K := by
 have lE := Le.refl H
 refine R.spec_ReadRuns ?_
 unfold F.spec_ReadRuns
 have hs := hf.1
 have hl := hf.2.1
 have q1 := hs.1
 have q2 := hs.2
 have qm := sidesF_mul hs
 have l1 := fieldN_len hf
 have hlN : l.length = r.toNat * c.toNat := by rw [← Int.natCast_inj, Int.natCast_mul, Int.toNat_of_nonneg (by omega), Int.toNat_of_nonneg (by omega)]; exact hl
 have dc := decT_len c.toNat
 have dr := decT_len r.toNat
 have e1 : s.drop 0 = decT c.toNat ++ [44] ++ (decT r.toNat ++ [58] ++ (joinR c.toNat l r.toNat ++ [33])) := by rw [hs0]; simp [fieldT, headT]
 obtain ⟨a1, a2, a3, a4, a5⟩ := dg_dec (k := c.toNat) (by omega) (by decide) e1
 rw [Nat.zero_add] at a4 a5
 obtain ⟨b1, b2, b3, b4, b5⟩ := dg_dec (k := r.toNat) (by omega) (by decide) a5
 obtain ⟨u, hu⟩ : ∃ u, u = (decT c.toNat).length := ⟨_, rfl⟩
 obtain ⟨v, hv⟩ : ∃ v, v = (decT r.toNat).length := ⟨_, rfl⟩
 rw [← hu] at a1 a3 a4 a5 b1 b2 b3 b4 b5
 rw [← hv] at b1 b3 b4 b5
 rw [Int.toNat_of_nonneg (by omega)] at a2 b2
 rw [join_rest (by omega)] at b5
 rw [show ((0 : Nat) : Int) + (u : Int) = (u : Int) by omega] at a3
 have b1' : dgC s ((u : Int) + 1) = v := b1
 have b2' : dgX s ((u : Int) + 1) = r := b2
 have b3' : at_ 0 s ((u : Int) + 1 + (v : Int)) = 58 := b3
 refine nw_i (fun p1 H2 op1 nn3 le4 => ?_)
 have np1 : Nw H p1 := nn3.le lE
 replace lE := lE.trans le4
 replace op1 : Cel H2 p1 [(.int .i64 (0)), (.int .i64 (0)), (.slice none 0 0)] := op1
 refine ob_i (vLenS_t (s)) ?_
 refine ob_i (vInt_gtr _ _ _) ?_
 refine cnd_d (fun hg5 => ?_) (fun hg5 => ?_)
 ·skip
  exact absurd hg5 (by omega)
 ·skip
  refine C.spec_l05Digits (by omega) (by omega) (by omega) (fun H5x le5x => ?_)
  replace op1 := op1.le le5x
  replace lE := lE.trans le5x
  rw [show dgX s 0 = c from a2, show dgC s 0 = u from a1, show (0 : Int) + (u : Int) = (u : Int) by omega]
  refine ob_i (vExt_20 _ _) ?_
  refine ob_i (vExt_21 _ _) ?_
  refine ob_i (vLenS_t (s)) ?_
  refine ob_i (vInt_geq _ _ _) ?_
  by_cases hc7 : (((s).length : Int)) ≤ (u : Int)
  ·skip
   exact absurd hc7 (by omega)
  ·skip
   refine gop_e (decide_eq_false hc7) ?_
   refine gop_rf ?_
   refine gop_e (decide_eq_false hc7) ?_
   refine gop_rf ?_
   refine gop_e (decide_eq_false hc7) ?_
   refine gop_rf ?_
   refine ob_i (vIndexS_t (a := s) (by omega) (by first | omega | (simp only [List.length_append, List.length_cons, List.length_nil, List.length_take, List.length_drop]; omega))) ?_
   refine gop_e (decide_eq_false hc7) ?_
   refine gop_rf ?_
   refine ob_i (vInt_neq _ _ _) ?_
   refine ob_i (vPick_ef (decide_eq_false hc7) _ _) ?_
   refine cnd_d (fun hg8 => ?_) (fun hg8 => ?_)
   ·skip
    exact absurd hg8 (fun h => h (by rw [a3]; rfl))
   ·skip
    refine ob_i (vInt_add (by omega) (by omega)) ?_
    refine C.spec_l05Digits (by omega) (by omega) (by omega) (fun H8x le8x => ?_)
    replace op1 := op1.le le8x
    replace lE := lE.trans le8x
    rw [show dgX s ((u : Int) + 1) = r from b2, show dgC s ((u : Int) + 1) = v from b1]
    refine ob_i (vExt_20 _ _) ?_
    refine ob_i (vExt_21 _ _) ?_
    refine ob_i (vLenS_t (s)) ?_
    refine ob_i (vInt_geq _ _ _) ?_
    by_cases hc10 : (((s).length : Int)) ≤ ((u : Int) + 1 + (v : Int))
    ·skip
     exact absurd hc10 (by omega)
    ·skip
     refine gop_e (decide_eq_false hc10) ?_
     refine gop_rf ?_
     refine gop_e (decide_eq_false hc10) ?_
     refine gop_rf ?_
     refine gop_e (decide_eq_false hc10) ?_
     refine gop_rf ?_
     refine ob_i (vIndexS_t (a := s) (by omega) (by first | omega | (simp only [List.length_append, List.length_cons, List.length_nil, List.length_take, List.length_drop]; omega))) ?_
     refine gop_e (decide_eq_false hc10) ?_
     refine gop_rf ?_
     refine ob_i (vInt_neq _ _ _) ?_
     refine ob_i (vPick_ef (decide_eq_false hc10) _ _) ?_
     by_cases hc11 : (((at_ 0 (s) ((u : Int) + 1 + (v : Int))).toNat : Int)) ≠ 58
     ·skip
      exact absurd hc11 (fun h => h (by rw [b3']; rfl))
     ·skip
      refine gop_e (decide_eq_false hc11) ?_
      refine gop_rf ?_
      refine gop_e (decide_eq_false hc11) ?_
      refine gop_rf ?_
      refine C.spec_l00In  ?_
      refine gop_e (decide_eq_false hc11) ?_
      refine gop_rf ?_
      refine ob_nd (fun hc12 => ?_) (fun hc12 => ?_)
      ·skip
       refine ob_i (vPick_ef (decide_eq_false hc11) _ _) ?_
       refine gop_rf ?_
       refine gop_rf ?_
       refine C.spec_l00In  ?_
       refine gop_rf ?_
       refine ob_nd (fun hc13 => ?_) (fun hc13 => ?_)
       ·skip
        refine ob_i (vPick_f _ _) ?_
        refine cnd_f1 ?_
        refine C.spec_l04New (by first | omega | assumption) (by first | omega | assumption) (by first | omega | assumption) (by first | omega | assumption) (fun  z H14 oz nn16  le15 => ?_)
        have ap1Xz : Apart p1 z := op1.apart nn16
        have nz : Nw H z := nn16.le lE
        replace op1 := op1.le le15
        replace lE := lE.trans le15
        refine nw_i (fun pf H17 opf nn18 le19 => ?_)
        have ap1Xpf : Apart p1 pf := op1.apart nn18
        have azXpf : Apart z pf := oz.apart nn18
        have npf : Nw H pf := nn18.le lE
        replace op1 := op1.le le19
        replace oz := oz.le le19
        replace lE := lE.trans le19
        replace opf : Cel H17 pf [(.int .i64 (0)), (.int .i64 (0)), (.slice none 0 0)] := opf
        refine opf.stn (ws := [(.int .i64 (r)), (.int .i64 (c)), z]) rfl rfl (oc1 rfl (oc1 rfl (oc1 oz.one oc0))) (fun H20 opf off21 => ?_)
        replace op1 := op1.off off21 ap1Xpf
        replace oz := oz.off off21 azXpf
        replace lE := off21.le lE npf
        replace opf : Cel H20 pf [(.int .i64 (r)), (.int .i64 (c)), z] := opf
        refine jn_i (fun σ' H' => σ' 2 = p1 ∧ Cel H' p1 [(.int .i64 (0)), (.int .i64 (0)), (.slice none 0 0)] ∧ Own eI H' z (List.replicate ((r : Int).toNat * (c : Int).toNat) 0) ∧ Cel H' pf [(.int .i64 (r)), (.int .i64 (c)), z] ∧ Le H H' ∧ False) (fun σ22 H22 hP => ?_) (fun J22 hJ22 => ?_)
        ·skip
         obtain ⟨g2L22, op1, oz, opf, lE, ho0⟩ := hP
         try simp only [g2L22]
         refine ob_i (a := (.agg #[(.int .i64 (0)), (.int .i64 (0)), (.slice none 0 0)])) (by rfl) ?_
         refine op1.stn (ws := [(.int .i64 (0)), (.int .i64 (0)), (.slice none 0 0)]) rfl rfl (oc1 rfl (oc1 rfl (oc1 rfl oc0))) (fun H23 op1 off24 => ?_)
         replace lE := off24.le lE np1
         replace op1 : Cel H23 p1 [(.int .i64 (0)), (.int .i64 (0)), (.slice none 0 0)] := op1
         refine ob_i (op1.ldn rfl) ?_
         exact ho0.elim
        refine ob_i (vInt_add (by omega) (by omega)) ?_
        refine ⟨fun n' σ' H' => ∃ t : Nat, n' = s.length - t ∧ t ≤ s.length ∧ ∃ p : Nat, ∃ i : Nat, ∃ a : Nat, σ' 0 = (vS (s)) ∧ σ' 2 = p1 ∧ σ' 4 = (.int .i64 (c)) ∧ σ' 5 = (.int .i64 ((p : Int))) ∧ σ' 6 = (.int .i64 (r)) ∧ σ' 8 = pf ∧ σ' 9 = (.int .i64 ((i : Int))) ∧ σ' 10 = (.int .i64 ((a : Int))) ∧ Cel H' p1 [(.int .i64 (0)), (.int .i64 (0)), (.slice none 0 0)] ∧ Own eI H' z (rdL l (i * c.toNat + a)) ∧ Cel H' pf [(.int .i64 (r)), (.int .i64 (c)), z] ∧ Le H H' ∧ t ≤ p ∧ i < r.toNat ∧ a ≤ c.toNat ∧ s.drop p = rtx ((rowL c.toNat l i).drop a) ++ restT c.toNat l (r.toNat - 1 - i) i,
         ⟨_, 0, rfl, by omega, (u + 1 + v + 1), 0, 0, rfl, rfl, rfl, (congrArg (Value.int .i64) (by first | omega | rfl | (simp; done))), rfl, rfl, (congrArg (Value.int .i64) (by first | omega | rfl | (simp; done))), (congrArg (Value.int .i64) (by first | omega | rfl | (simp; done))), op1, (Own.cast (by rw [Nat.zero_mul, Nat.add_zero, rdL_zero, hlN]) oz), opf, lE, (by omega), (by omega), (by omega), (by rw [List.drop_zero]; exact b5)⟩, ?_⟩
        rintro n25 σ25 H25 ⟨t, rfl, htN, p, i, a, g0L25, g2L25, g4L25, g5L25, g6L25, g8L25, g9L25, g10L25, op1, oz, opf, lE, hm0, hm1, hm2, hpos⟩
        try simp only [g0L25, g2L25, g5L25]
        have rwl : (rowL c.toNat l i).length = c.toNat := rowL_len (r := r.toNat) hlN (by omega)
        have hrd := rd_round (r := r.toNat) (by omega) rwl (by omega) hpos
        have hpl := hrd.1
        refine ob_i (vLenS_t (s)) ?_
        refine ob_i (vInt_lss _ _ _) ?_
        refine cnd_d (fun hg26 => ?_) (fun hg26 => ?_)
        ·skip
         have tt := hg26
         refine jn_i (fun σ' H' => ∃ q3 : Nat, ∃ i2 : Nat, ∃ a2 : Nat, σ' 0 = (vS (s)) ∧ σ' 2 = p1 ∧ σ' 4 = (.int .i64 (c)) ∧ σ' 5 = (.int .i64 ((q3 : Int))) ∧ σ' 6 = (.int .i64 (r)) ∧ σ' 8 = pf ∧ σ' 9 = (.int .i64 ((i2 : Int))) ∧ σ' 10 = (.int .i64 ((a2 : Int))) ∧ Cel H' p1 [(.int .i64 (0)), (.int .i64 (0)), (.slice none 0 0)] ∧ Own eI H' z (rdL l (i2 * c.toNat + a2)) ∧ Cel H' pf [(.int .i64 (r)), (.int .i64 (c)), z] ∧ Le H H' ∧ s.drop (q3 + 1) = rtx ((rowL c.toNat l i2).drop a2) ++ restT c.toNat l (r.toNat - 1 - i2) i2 ∧ i2 < r.toNat ∧ a2 ≤ c.toNat ∧ p ≤ q3 ∧ q3 < s.length) (fun σ27 H27 hP => ?_) (fun J27 hJ27 => ?_)
         ·skip
          obtain ⟨q3, i2, a2, g0L27, g2L27, g4L27, g5L27, g6L27, g8L27, g9L27, g10L27, op1, oz, opf, lE, ho0, ho1, ho2, ho3, ho4⟩ := hP
          try simp only [g5L27]
          refine ob_i (vInt_add (by omega) (by omega)) ?_
          exact nxt (s.length - (t + 1)) (by omega) ⟨t + 1, rfl, by omega, (q3 + 1), i2, a2, g0L27, g2L27, g4L27, (congrArg (Value.int .i64) (by first | omega | rfl | (simp; done))), g6L27, g8L27, (g9L27.trans (congrArg (Value.int .i64) (by first | omega | rfl | (simp; done)))), (g10L27.trans (congrArg (Value.int .i64) (by first | omega | rfl | (simp; done)))), op1, oz, opf, lE, (by omega), ho1, ho2, ho0⟩
         refine jn_i (fun σ' H' => ∃ q : Nat, ∃ k : Nat, σ' 0 = (vS (s)) ∧ σ' 2 = p1 ∧ σ' 4 = (.int .i64 (c)) ∧ σ' 5 = (.int .i64 ((q : Int))) ∧ σ' 6 = (.int .i64 (r)) ∧ σ' 8 = pf ∧ σ' 9 = (.int .i64 ((i : Int))) ∧ σ' 10 = (.int .i64 ((a : Int))) ∧ σ' 11 = (.int .i64 ((k : Int))) ∧ Cel H' p1 [(.int .i64 (0)), (.int .i64 (0)), (.slice none 0 0)] ∧ Own eI H' z (rdL l (i * c.toNat + a)) ∧ Cel H' pf [(.int .i64 (r)), (.int .i64 (c)), z] ∧ Le H H' ∧ rdW r.toNat c.toNat l s i a q k ∧ q < s.length ∧ p ≤ q ∧ 1 ≤ k ∧ k ≤ 24) (fun σ28 H28 hP => ?_) (fun J28 hJ28 => ?_)
         ·skip
          obtain ⟨q, k, g0L28, g2L28, g4L28, g5L28, g6L28, g8L28, g9L28, g10L28, g11L28, op1, oz, opf, lE, hWq, hq1, hq2, hk1⟩ := hP
          try simp only [g0L28, g2L28, g5L28, g8L28, g9L28, g10L28, g11L28]
          refine ob_i (vIndexS_t (a := s) (by omega) (by first | omega | (simp only [List.length_append, List.length_cons, List.length_nil, List.length_take, List.length_drop]; omega))) ?_
          refine ob_i (vInt_eql _ _ _) ?_
          refine cnd_d (fun hg29 => ?_) (fun hg29 => ?_)
          ·skip
           obtain ⟨w1, w2, w3⟩ := W36 hWq hg29
           have im : (i + 1) * c.toNat ≤ r.toNat * c.toNat := Nat.mul_le_mul_right _ (by omega)
           rw [Nat.add_mul, Nat.one_mul] at im
           refine ob_i (vInt_add (by omega) (by omega)) ?_
           rw [rdL_skips (c.toNat - a) (by omega) (row_zero rwl (by omega) w2 (by omega)), show i * c.toNat + a + (c.toNat - a) = (i + 1) * c.toNat + 0 by rw [Nat.add_mul, Nat.one_mul]; omega] at oz
           exact hJ27 _ _ ⟨q, (i + 1), 0, g0L28, g2L28, g4L28, (g5L28.trans (congrArg (Value.int .i64) (by first | omega | rfl | (simp; done)))), g6L28, g8L28, (congrArg (Value.int .i64) (by first | omega | rfl | (simp; done))), (congrArg (Value.int .i64) (by first | omega | rfl | (simp; done))), op1, oz, opf, lE, w3, (by omega), (by omega), (by omega), (by omega)⟩
          ·skip
           refine ob_i (vInt_eql _ _ _) ?_
           refine cnd_d (fun hg30 => ?_) (fun hg30 => ?_)
           ·skip
            obtain ⟨w1, w2, w3, w4, w5⟩ := Wch hWq (by assumption) (by omega)
            have im : (i + 1) * c.toNat ≤ r.toNat * c.toNat := Nat.mul_le_mul_right _ (by omega)
            rw [Nat.add_mul, Nat.one_mul] at im
            have x1 : at_ 0 l ((i * c.toNat + a : Nat) : Int) = at_ 0 (rowL c.toNat l i) (a : Int) := (row_at (by omega)).symm
            have x0 := hf.2.2 _ (at_mem 0 l (i := ((i * c.toNat + a : Nat) : Int)) (by omega) (by omega))
            have im0 := cast_ix (c := c) (i := i) (k := a) (by omega)
            refine ⟨fun n' σ' H' => ∃ j : Nat, n' = k - j ∧ j ≤ k ∧ σ' 0 = (vS (s)) ∧ σ' 2 = p1 ∧ σ' 4 = (.int .i64 (c)) ∧ σ' 5 = (.int .i64 ((q : Int))) ∧ σ' 6 = (.int .i64 (r)) ∧ σ' 8 = pf ∧ σ' 9 = (.int .i64 ((i : Int))) ∧ σ' 10 = (.int .i64 ((a : Int) + (j : Int))) ∧ σ' 11 = (.int .i64 ((k : Int))) ∧ σ' 14 = (.int .i64 ((j : Int))) ∧ Cel H' p1 [(.int .i64 (0)), (.int .i64 (0)), (.slice none 0 0)] ∧ Own eI H' z (rdL l (i * c.toNat + a + j)) ∧ Cel H' pf [(.int .i64 (r)), (.int .i64 (c)), z] ∧ Le H H',
             ⟨_, 0, rfl, by omega, g0L28, g2L28, g4L28, g5L28, g6L28, g8L28, g9L28, (g10L28.trans (congrArg (Value.int .i64) (by first | omega | rfl | (simp; done)))), g11L28, (congrArg (Value.int .i64) (by first | omega | rfl | (simp; done))), op1, oz, opf, lE⟩, ?_⟩
            rintro n31 σ31 H31 ⟨j, rfl, hjN, g0L31, g2L31, g4L31, g5L31, g6L31, g8L31, g9L31, g10L31, g11L31, g14L31, op1, oz, opf, lE⟩
            try simp only [g2L31, g4L31, g6L31, g8L31, g9L31, g10L31, g11L31, g14L31]
            have xj := rdL_len (l := l) (t := i * c.toNat + a + j) (by omega)
            refine ob_i (vInt_lss _ _ _) ?_
            refine cnd_d (fun hg32 => ?_) (fun hg32 => ?_)
            ·skip
             have tj := hg32
             have h1j : at_ 0 l ((i * c.toNat + a + j : Nat) : Int) = 1 := by rw [Nat.add_assoc, ← row_at (by omega), w5 j (by omega)]; exact bit_t w1 (by assumption)
             refine ob_i (vInt_geq _ _ _) ?_
             by_cases hc33 : r ≤ (i : Int)
             ·skip
              exact absurd hc33 (by omega)
             ·skip
              refine gop_e (decide_eq_false hc33) ?_
              refine gop_rf ?_
              refine gop_e (decide_eq_false hc33) ?_
              refine gop_rf ?_
              refine gop_e (decide_eq_false hc33) ?_
              refine gop_rf ?_
              refine ob_i (vInt_geq _ _ _) ?_
              refine ob_i (vPick_ef (decide_eq_false hc33) _ _) ?_
              refine cnd_d (fun hg34 => ?_) (fun hg34 => ?_)
              ·skip
               exact absurd hg34 (by omega)
              ·skip
               refine ob_i (opf.fa 2) ?_
               refine ob_i (opf.ld 2 rfl) ?_
               refine ob_i (vInt_mul (by omega) (by omega)) ?_
               refine ob_i (vInt_add (by omega) (by omega)) ?_
               refine ob_i (oz.sl.ix (by omega) (by omega)) ?_
               refine oz.st (x := 1) (by omega) (by omega) rfl rfl (fun H35 oz off36 => ?_)
               replace op1 := op1.off off36 ap1Xz
               replace opf := opf.off off36 azXpf.symm
               replace lE := off36.le lE nz
               refine ob_i (vInt_add (by omega) (by omega)) ?_
               refine ob_i (vInt_add (by omega) (by omega)) ?_
               exact nxt (k - (j + 1)) (by omega) ⟨j + 1, rfl, by omega, g0L31, g2L31, g4L31, g5L31, g6L31, g8L31, g9L31, (congrArg (Value.int .i64) (by first | omega | rfl | (simp; done))), g11L31, (congrArg (Value.int .i64) (by first | omega | rfl | (simp; done))), op1, (Own.cast (by rw [show ((i : Int) * c + ((a : Int) + (j : Int))).toNat = i * c.toNat + a + j by omega, rdL_set (by omega) h1j]; rfl) oz), opf, lE⟩
            ·skip
             have tj := hg32
             obtain rfl : j = k := by omega
             rw [Nat.add_assoc] at oz
             exact hJ27 _ _ ⟨q, i, (a + j), g0L31, g2L31, g4L31, (g5L31.trans (congrArg (Value.int .i64) (by first | omega | rfl | (simp; done)))), g6L31, g8L31, (g9L31.trans (congrArg (Value.int .i64) (by first | omega | rfl | (simp; done)))), (g10L31.trans (congrArg (Value.int .i64) (by first | omega | rfl | (simp; done)))), op1, oz, opf, lE, w4, (by omega), (by omega), (by omega), (by omega)⟩
           ·skip
            refine ob_i (vInt_eql _ _ _) ?_
            refine cnd_d (fun hg37 => ?_) (fun hg37 => ?_)
            ·skip
             obtain ⟨w1, w2, w3, w4, w5⟩ := Wch hWq (by assumption) (by omega)
             have im : (i + 1) * c.toNat ≤ r.toNat * c.toNat := Nat.mul_le_mul_right _ (by omega)
             rw [Nat.add_mul, Nat.one_mul] at im
             have x1 : at_ 0 l ((i * c.toNat + a : Nat) : Int) = at_ 0 (rowL c.toNat l i) (a : Int) := (row_at (by omega)).symm
             have x0 := hf.2.2 _ (at_mem 0 l (i := ((i * c.toNat + a : Nat) : Int)) (by omega) (by omega))
             refine ob_i (vInt_add (by omega) (by omega)) ?_
             rw [rdL_skips k (by omega) (fun j hj => by rw [Nat.add_assoc, ← row_at (by omega), w5 j hj]; exact bit_f w1 hg30 (by omega) (by omega)), Nat.add_assoc] at oz
             exact hJ27 _ _ ⟨q, i, (a + k), g0L28, g2L28, g4L28, (g5L28.trans (congrArg (Value.int .i64) (by first | omega | rfl | (simp; done)))), g6L28, g8L28, (g9L28.trans (congrArg (Value.int .i64) (by first | omega | rfl | (simp; done)))), (congrArg (Value.int .i64) (by first | omega | rfl | (simp; done))), op1, oz, opf, lE, w4, (by omega), (by omega), (by omega), (by omega)⟩
            ·skip
             refine ob_i (vInt_eql _ _ _) ?_
             refine cnd_d (fun hg38 => ?_) (fun hg38 => ?_)
             ·skip
              obtain ⟨x1, x2, x3, x4⟩ := W33 hWq (by assumption) (by assumption) (by assumption)
              have im : (i + 1) * c.toNat = r.toNat * c.toNat := by rw [x2]
              rw [Nat.add_mul, Nat.one_mul] at im
              have hL : rdL l (i * c.toNat + a) = l := by rw [rdL_skips (c.toNat - a) (by omega) (row_zero rwl (by omega) x3 (by omega)), show i * c.toNat + a + (c.toNat - a) = l.length by omega, rdL_all]
              rw [hL] at oz
              refine C.spec_l05Write opf.r oz.sl (by exact hf) (fun   H39    le40 => ?_)
              replace op1 := op1.le le40
              replace oz := oz.le le40
              replace opf := opf.le le40
              replace lE := lE.trans le40
              refine ob_i (vStr_neq (fieldT r c l) (s)) ?_
              refine cnd_d (fun hg41 => ?_) (fun hg41 => ?_)
              ·skip
               exact absurd hg41 (fun h => h hs0.symm)
              ·skip
               refine ob_i (opf.ldn rfl) ?_
               refine op1.stn (ws := [(.int .i64 (r)), (.int .i64 (c)), z]) rfl rfl (oc1 rfl (oc1 rfl (oc1 oz.one oc0))) (fun H42 op1 off43 => ?_)
               replace oz := oz.off off43 ap1Xz.symm
               replace lE := off43.le lE np1
               replace op1 : Cel H42 p1 [(.int .i64 (r)), (.int .i64 (c)), z] := op1
               show ob (vLoadN 3 (σ28 2) H42) (fun w0 => K (.tuple #[w0, (.bool true)]) H42)
               rw [g2L28]
               refine ob_i (op1.ldn rfl) ?_
               skip
               exact hk  z _ oz nz  lE
             ·skip
              exact absurd hg38 (fun h => h (by have := W33 hWq (by assumption) (by assumption) (by assumption); rw [this.1]; rfl))
         refine ob_i (vIndexS_t (a := s) (by omega) (by first | omega | (simp only [List.length_append, List.length_cons, List.length_nil, List.length_take, List.length_drop]; omega))) ?_
         refine ob_i (vInt_geq _ _ _) ?_
         by_cases hc44 : 48 ≤ (((at_ 0 (s) ((p : Int))).toNat : Int))
         ·skip
          refine gop_e (decide_eq_true hc44) ?_
          refine gop_rt ?_
          refine gop_e (decide_eq_true hc44) ?_
          refine gop_rt ?_
          refine gop_e (decide_eq_true hc44) ?_
          refine gop_rt ?_
          refine ob_i (vIndexS_t (a := s) (by omega) (by first | omega | (simp only [List.length_append, List.length_cons, List.length_nil, List.length_take, List.length_drop]; omega))) ?_
          refine gop_e (decide_eq_true hc44) ?_
          refine gop_rt ?_
          refine ob_i (vInt_leq _ _ _) ?_
          refine ob_i (vPick_et (decide_eq_true hc44) _ _) ?_
          refine cnd_d (fun hg45 => ?_) (fun hg45 => ?_)
          ·skip
           obtain ⟨g1, g2, g3, hW⟩ := hrd.2.1 ⟨by omega, by omega, by omega⟩
           refine C.spec_l05Digits (by omega) (by omega) (by omega) (fun H45x le45x => ?_)
           replace op1 := op1.le le45x
           replace oz := oz.le le45x
           replace opf := opf.le le45x
           replace lE := lE.trans le45x
           refine ob_i (vExt_20 _ _) ?_
           refine ob_i (vExt_21 _ _) ?_
           refine ob_i (vLenS_t (s)) ?_
           refine ob_i (vInt_geq _ _ _) ?_
           refine cnd_d (fun hg47 => ?_) (fun hg47 => ?_)
           ·skip
            exact absurd hg47 (by omega)
           ·skip
            have hWq := hW
            exact hJ28 _ _ ⟨(p + dgC s (p : Int)), (dgX s (p : Int)).toNat, g0L25, g2L25, g4L25, (congrArg (Value.int .i64) (by first | omega | rfl | (simp; done))), g6L25, g8L25, g9L25, g10L25, (congrArg (Value.int .i64) (by first | omega | rfl | (simp; done))), op1, oz, opf, lE, hWq, (by omega), (by omega), ⟨by omega, by omega⟩⟩
          ·skip
           have hWq := hrd.2.2 (fun hh => by have h1 := hh.2.1; have h2 := hh.2.2; omega)
           exact hJ28 _ _ ⟨p, 1, g0L25, g2L25, g4L25, (g5L25.trans (congrArg (Value.int .i64) (by first | omega | rfl | (simp; done)))), g6L25, g8L25, g9L25, g10L25, (congrArg (Value.int .i64) (by first | omega | rfl | (simp; done))), op1, oz, opf, lE, hWq, (by omega), (by omega), ⟨by omega, by omega⟩⟩
         ·skip
          refine gop_e (decide_eq_false hc44) ?_
          refine gop_sf ?_
          refine gop_e (decide_eq_false hc44) ?_
          refine gop_sf ?_
          refine gop_e (decide_eq_false hc44) ?_
          refine gop_sf ?_
          refine gop_e (decide_eq_false hc44) ?_
          refine gop_sf ?_
          refine ob_i (vPick_ef (decide_eq_false hc44) _ _) ?_
          refine cnd_f1 ?_
          have hWq := hrd.2.2 (fun hh => by have h1 := hh.2.1; have h2 := hh.2.2; omega)
          exact hJ28 _ _ ⟨p, 1, g0L25, g2L25, g4L25, (g5L25.trans (congrArg (Value.int .i64) (by first | omega | rfl | (simp; done)))), g6L25, g8L25, g9L25, g10L25, (congrArg (Value.int .i64) (by first | omega | rfl | (simp; done))), op1, oz, opf, lE, hWq, (by omega), (by omega), ⟨by omega, by omega⟩⟩
        ·skip
         have tt := hg26
         exact absurd hg26 (by omega)
       ·skip
        exact absurd hc13 (fun h => h q1)
      ·skip
       exact absurd hc12 (fun h => h q2)
end Go.Proofs.YtijmoehbgkibnaaDoor
/- The library's IndexAny at two letters: every short text, whatever its bytes. -/
namespace Go.Proofs.YtijmoehbgkibnaaDoor
open Go.Shelf Go.RowKit Go.Lib
variable {P : Program} {ρ : Ren}
theorem ba2 (b : ByteArray) (h : b.size = 2) : ∃ x y : UInt8, b = ⟨#[x, y]⟩ := by
  obtain ⟨a⟩ := b
  obtain ⟨l⟩ := a
  match l, h with
  | [x, y], _ => exact ⟨x, y, rfl⟩
theorem ba3 (b : ByteArray) (h : b.size = 3) : ∃ x y z : UInt8, b = ⟨#[x, y, z]⟩ := by
  obtain ⟨a⟩ := b
  obtain ⟨l⟩ := a
  match l, h with
  | [x, y, z], _ => exact ⟨x, y, z, rfl⟩
theorem ba4 (b : ByteArray) (h : b.size = 4) : ∃ x y z u : UInt8, b = ⟨#[x, y, z, u]⟩ := by
  obtain ⟨a⟩ := b
  obtain ⟨l⟩ := a
  match l, h with
  | [x, y, z, u], _ => exact ⟨x, y, z, u, rfl⟩
theorem inBlockX_ret {Q : Exit → Act → World → Prop} (id : Nat) (a : Act) (w : World) : Exit.inBlock id Q Exit.ret a w = Q Exit.ret a w := rfl
theorem thenX_ret {K : Act → World → Prop} {Q : Exit → Act → World → Prop} (a : Act) (w : World) : Exit.then K Q Exit.ret a w = Q Exit.ret a w := rfl
theorem iter_below (w : World) (s : ByteArray) (i : Nat) : Below w.heap.size w (w.iter s i) := Below.alloc (Below.refl _ w) (Nat.le_refl _) _
set_option maxHeartbeats 8000000 in
set_option maxRecDepth 1000000 in
theorem indexRune_bo (L : Lays.n152 P ρ) (r : Int) (w : World) (h0 : 128 ≤ r) (h1 : r ≤ 2147483647) :
    Calls P (ρ.f 152) #[.string ⟨#[98, 111]⟩, .int .i32 r] w fun e w' => e = .returned (.int .i64 (-1)) ∧ Below w.heap.size w w' := by
  have t3 := L.t3; have a3 := L.a3; have z3 := L.z3; have v3 := L.v3
  have t4 := L.t4; have a4 := L.a4; have z4 := L.z4; have v4 := L.v4
  have t5 := L.t5; have a5 := L.a5; have z5 := L.z5; have v5 := L.v5
  have t9 := L.t9; have a9 := L.a9; have z9 := L.z9; have v9 := L.v9
  have t21 := L.t21; have a21 := L.a21; have z21 := L.z21; have v21 := L.v21
  have e137 : ∀ args w, (callFunc (ρ.f 137) args).run P w = .ok (.enter (ρ.f 137) args) w := enters_of L.f137 (by kernel_rfl) rfl
  have e119 : ∀ args w, (callFunc (ρ.f 119) args).run P w = .ok (.enter (ρ.f 119) args) w := enters_of L.f119 (by kernel_rfl) rfl
  have hn0 : ¬ (r < 128) := by omega
  have mixed := L.mixed
  go_enter L.f152, Body.n152_ntmps ρ
  by_cases hE : r = 65533
  · subst hE
    go_wp2
    go_loopg [5, 6] 2 (fun g _ _ wx => ∃ i : Nat, i + g = 2 ∧ wx = w.iter (⟨#[98, 111]⟩ : ByteArray) i)
    case atStart => exact ⟨0, by omega, rfl⟩
    case round =>
      obtain ⟨i, hig, rfl⟩ := hrel
      cases gk with
      | zero =>
        obtain rfl : i = 2 := by omega
        have hnx := run_next_end (P := P) w (⟨#[98, 111]⟩ : ByteArray) 2
        go_wp2
        go_ret
        exact ⟨rfl, iter_below w _ _⟩
      | succ g =>
        have hi : i < (⟨#[98, 111]⟩ : ByteArray).size := by show i < 2; omega
        obtain ⟨x, hx⟩ : ∃ x : UInt8, (⟨#[98, 111]⟩ : ByteArray)[i]'hi = x := ⟨_, rfl⟩
        have hx128 : x.toNat < 128 := by
          rcases show i = 0 ∨ i = 1 by omega with rfl | rfl
          · have e : (⟨#[98, 111]⟩ : ByteArray)[0]'hi = 98 := rfl
            rw [← hx, e]; decide
          · have e : (⟨#[98, 111]⟩ : ByteArray)[1]'hi = 111 := rfl
            rw [← hx, e]; decide
        have hnx := fun ty => run_next_ascii (P := P) w (⟨#[98, 111]⟩ : ByteArray) i ty hi (by rw [hx]; exact hx128)
        rw [hx] at hnx
        have hxe : ((x.toNat : Int) == 65533) = false := by simp; omega
        clear hx
        go_wp2
        go_roundg g
        case measure => omega
        case rel => exact ⟨i + 1, by omega, rfl⟩
  · have hE2 : (r == 65533) = false := beq_eq_false_iff_ne.2 hE
    go_wp2_with (first | (go_at_fn (ρ.f 137); refine (Any.strings_IndexByte { L with } _ _ _).mono ?_; rintro e w' ⟨rfl, hw⟩; rw [hw]) | (go_at_fn (ρ.f 119); refine (Any.utf8_ValidRune { L with } _ _).mono ?_; rintro e w' ⟨rfl, hw⟩; rw [hw]))
    · go_ret
      exact ⟨rfl, Below.refl _ _⟩
    · rename_i h
      have h2 : Lib.validRune r = true := by simpa using h
      have hv : Utf8.valid r = true := by rw [validRune_eq]; exact h2
      obtain ⟨g2, g4, gl⟩ := encode_facts r hv h0
      have hcv : ∀ w, (convert (ρ.t 21) (ρ.t 9) (.int .i32 r)).run P w = .ok (.string (Utf8.encode r)) w := fun w => run_convert_int_string w _ _ _ _ (by rw [t21]; rfl) t9
      generalize Utf8.encode r = rs at g2 g4 gl hcv
      rcases show rs.size = 2 ∨ rs.size = 3 ∨ rs.size = 4 by omega with hz | hz | hz
      · obtain ⟨x, y, rfl⟩ := ba2 rs hz
        have hy : 128 ≤ y.toNat := gl (by rw [hz]; omega)
        have hy2 : ¬ (((({ data := #[98, 111] } : ByteArray)[1]'(by decide)).toNat : Int) != ((({ data := #[x, y] } : ByteArray)[1]'(by show 1 < 2; omega)).toNat : Int)) = false := by
          show ¬ ((111 : Int) != (y.toNat : Int)) = false
          simp; omega
        clear g2 g4 gl hz
        go_step3
        go_wp2_with (go_at_fn (ρ.f 137); refine (Any.strings_IndexByte { L with } _ _ _).mono ?_; rintro e w' ⟨rfl, hw⟩; rw [hw])
        go_loopg [9, 10] 0 (fun g u v wx => u = .int .i64 1 ∧ v = .int .i64 0 ∧ wx = w)
        case atStart => exact ⟨rfl, rfl, rfl⟩
        case round =>
          obtain ⟨rfl, rfl, rfl⟩ := hrel
          go_wp2_with (go_at_fn (ρ.f 137); refine (Any.strings_IndexByte { L with } _ _ _).mono ?_; rintro e w' ⟨rfl, hw⟩; rw [hw])
          go_step3
          go_wp2_with (go_at_fn (ρ.f 137); refine (Any.strings_IndexByte { L with } _ _ _).mono ?_; rintro e w' ⟨rfl, hw⟩; rw [hw])
          go_region_o
          go_wp2_with (go_at_fn (ρ.f 137); refine (Any.strings_IndexByte { L with } _ _ _).mono ?_; rintro e w' ⟨rfl, hw⟩; rw [hw])
          all_goals
            go_region_with_o (go_at_fn (ρ.f 137); refine (Any.strings_IndexByte { L with } _ _ _).mono ?_; rintro e w' ⟨rfl, hw⟩; rw [hw])
            go_wp2
            all_goals
              rw [Exit.noGoto_ret, inBlockX_ret, thenX_ret, inBlockX_ret, thenX_ret, Exit.noGoto_ret]
              go_ret
              exact ⟨rfl, (Below.refl _ _).trans ⟨rfl, rfl, rfl, Nat.le_refl _, fun _ _ => rfl⟩⟩
      · obtain ⟨x, y, z, rfl⟩ := ba3 rs hz
        clear g2 g4 gl hz
        go_step3
        go_wp2_with (go_at_fn (ρ.f 137); refine (Any.strings_IndexByte { L with } _ _ _).mono ?_; rintro e w' ⟨rfl, hw⟩; rw [hw])
        go_loopg [9, 10] 0 (fun g u v wx => u = .int .i64 2 ∧ v = .int .i64 0 ∧ wx = w)
        case atStart => exact ⟨rfl, rfl, rfl⟩
        case round =>
          obtain ⟨rfl, rfl, rfl⟩ := hrel
          go_wp2
          rw [Exit.noGoto_ret]
          go_ret
          exact ⟨rfl, Below.refl _ _⟩
      · obtain ⟨x, y, z, u, rfl⟩ := ba4 rs hz
        clear g2 g4 gl hz
        go_step3
        go_wp2_with (go_at_fn (ρ.f 137); refine (Any.strings_IndexByte { L with } _ _ _).mono ?_; rintro e w' ⟨rfl, hw⟩; rw [hw])
        go_loopg [9, 10] 0 (fun g u v wx => u = .int .i64 3 ∧ v = .int .i64 0 ∧ wx = w)
        case atStart => exact ⟨rfl, rfl, rfl⟩
        case round =>
          obtain ⟨rfl, rfl, rfl⟩ := hrel
          go_wp2
          rw [Exit.noGoto_ret]
          go_ret
          exact ⟨rfl, Below.refl _ _⟩
theorem width_posX (s : ByteArray) (i : Nat) : 1 ≤ (Utf8.decode s i).2 := by
  unfold Utf8.decode
  dsimp only
  repeat' split
  all_goals simp
set_option maxHeartbeats 8000000 in
set_option maxRecDepth 1000000 in
theorem indexAny_bo_short (L : Lays.n153 P ρ) (s : ByteArray) (w : World) (h8 : s.size ≤ 8) :
    Calls P (ρ.f 153) #[.string s, .string ⟨#[98, 111]⟩] w fun e w' => ∃ x : Int, e = .returned (.int .i64 x) ∧ (-1 ≤ x ∧ x < s.size) ∧ Below w.heap.size w w' := by
  have h8z : decide ((8 : Int) < (s.size : Int)) = false := decide_eq_false (by omega)
  have t3 := L.t3; have a3 := L.a3; have z3 := L.z3; have v3 := L.v3
  have t4 := L.t4; have a4 := L.a4; have z4 := L.z4; have v4 := L.v4
  have t5 := L.t5; have a5 := L.a5; have z5 := L.z5; have v5 := L.v5
  have t9 := L.t9; have a9 := L.a9; have z9 := L.z9; have v9 := L.v9
  have t21 := L.t21; have a21 := L.a21; have z21 := L.z21; have v21 := L.v21
  have e152 : ∀ args w, (callFunc (ρ.f 152) args).run P w = .ok (.enter (ρ.f 152) args) w := enters_of L.f152 (by kernel_rfl) rfl
  have e226 : ∀ args w, (callFunc (ρ.f 226) args).run P w = .ok (.enter (ρ.f 226) args) w := enters_of L.f226 (by kernel_rfl) rfl
  go_enter L.f153, Body.n153_ntmps ρ
  go_wp2_with (go_at_fn (ρ.f 226); refine (Any.strings_shouldUseASCIISet { L with } _ _).mono ?_; rintro e w' ⟨rfl, hw⟩; rw [hw, h8z])
  go_loopg [9, 10] s.size (fun g _ _ wx => ∃ i : Nat, s.size ≤ i + g ∧ wx.heap[w.heap.size]? = some (.stringIter s i) ∧ Below w.heap.size w wx)
  case atStart => exact ⟨0, by omega, World.iter_heap w s 0, iter_below w s 0⟩
  case round =>
    obtain ⟨i, hig, hit, hbw⟩ := hrel
    by_cases hi : i < s.size
    · cases gk with
      | zero => exfalso; omega
      | succ g =>
        have hnx : ∀ ty, (Instr.next (.pointer (some ⟨w.heap.size, 0, none⟩)) true ty).run P wr = _ := fun ty => Lib.run_next_any_at wr w.heap.size s i ty hit hi
        have hwd := width_posX s i
        have hd1 := decode_le s i
        have hit2 := Lib.iterAt_heap wr w.heap.size s i (i + (Utf8.decode s i).2) hit
        have hbw2 := Lib.below_iterAt hbw (k := w.heap.size) (Nat.le_refl _) s (i + (Utf8.decode s i).2)
        have hsz2 : w.heap.size ≤ (wr.iterAt w.heap.size s (i + (Utf8.decode s i).2)).heap.size := hbw2.size
        generalize wr.iterAt w.heap.size s (i + (Utf8.decode s i).2) = wi at hnx hit2 hbw2 hsz2
        generalize (Utf8.decode s i).2 = wd at hwd hit2
        generalize (Utf8.decode s i).1 = c at hd1 hnx
        by_cases hc : c < 128
        · go_wp2_with (go_at_fn (ρ.f 152); refine (Any.strings_IndexRune_ascii { L with } _ _ _ (by omega) (by omega)).mono ?_; rintro e w' ⟨rfl, hw⟩; rw [hw])
          · go_ret
            exact ⟨_, rfl, by omega, hbw2⟩
          · go_roundg g
            case measure => omega
            case rel => exact ⟨i + wd, by omega, hit2, hbw2⟩
        · have hd2 : (c : Int) ≤ 2147483647 := by omega
          go_wp2_with (go_at_fn (ρ.f 152); refine (indexRune_bo { L with } _ _ (by omega) (by omega)).mono ?_; rintro e w' ⟨rfl, hw⟩)
          have hlt : w.heap.size < wi.heap.size := (Array.getElem?_eq_some_iff.1 hit2).1
          go_roundg g
          case measure => omega
          case rel => exact ⟨i + wd, by omega, (hw.block _ hlt).trans hit2, hbw2.trans ⟨hw.os, hw.tape, hw.output, hw.size, fun k hk => hw.block k (by omega)⟩⟩
    · have hnx : ∀ ty, (Instr.next (.pointer (some ⟨w.heap.size, 0, none⟩)) true ty).run P wr = _ := fun ty => Lib.run_next_end_at wr w.heap.size s i ty hit hi
      go_wp2
      go_ret
      exact ⟨_, rfl, by omega, hbw⟩
end Go.Proofs.YtijmoehbgkibnaaDoor
