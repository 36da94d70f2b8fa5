/- Builders of texts: what each of their operations does; strings.Join. -/
import Derived.Test.YtialllbbbpmkbaaDoorXB
import Derived.Test.YtialllbbbpmkbaaDoorXR
import Derived.Test.YtialllbbbpmkbaaDoorKB
import Derived.Test.YtialllbbbpmkbaaDoorSY
namespace Go.Proofs.YtialllbbbpmkbaaDoor
open HL
set_option maxRecDepth 100000
namespace HL
/-- A byte as a value. -/
abbrev eC (b : UInt8) : Value := .int .u8 (b.toNat : Int)
section
variable {P : Program} {H : Hp}
theorem val_eqP0 (d : Nat) {t e : TypeId} (b : Option Addr) (ht : P.underlying t = some (.pointer e)) : val P (Op.equalIn (d + 1) t (.pointer none) (.pointer b)) H = some b.isNone := by
  simp only [Op.equalIn, val_bind', val_underlying, ht, Option.bind_some]; cases b <;> rfl
theorem val_eqP1 (d : Nat) {t e : TypeId} (a : Addr) (ht : P.underlying t = some (.pointer e)) : val P (Op.equalIn (d + 1) t (.pointer (some a)) (.pointer none)) H = some false := by
  simp only [Op.equalIn, val_bind', val_underlying, ht, Option.bind_some]; rfl
theorem val_eqP2 (d : Nat) {t e : TypeId} (a : Addr) {k : Nat} (ht : P.underlying t = some (.pointer e)) (he : szO P e = some (k + 1)) : val P (Op.equalIn (d + 1) t (.pointer (some a)) (.pointer (some a))) H = some true := by
  simp only [Op.equalIn, val_bind', val_underlying, ht, Option.bind_some, val_sizeOf, he]
  rw [if_pos (by omega)]
  simp only [sameAddr, beq_self_eq_true, if_true]
  rfl
theorem val_ptr_nil {t e : TypeId} {x y : Operand} (ht : P.underlying t = some (.pointer e)) : val P (do eqGuard .eql t x y (.pointer none) (.pointer none); binOp .eql t (.pointer none) (.pointer none)) H = some (.bool true) := by
  have e1 : val P (Op.equal t (.pointer none) (.pointer none)) H = some true := val_eqP0 9999 none ht
  rw [val_bind', val_eqGuard_other P .eql t x y _ _ H (by simp) (by simp)]
  simp only [Option.bind_some, binOp, val_bind', e1, val_pure]
theorem val_ptr_some {t e : TypeId} {x y : Operand} {a : Addr} (ht : P.underlying t = some (.pointer e)) : val P (do eqGuard .eql t x y (.pointer (some a)) (.pointer none); binOp .eql t (.pointer (some a)) (.pointer none)) H = some (.bool false) := by
  have e1 : val P (Op.equal t (.pointer (some a)) (.pointer none)) H = some false := val_eqP1 9999 a ht
  rw [val_bind', val_eqGuard_other P .eql t x y _ _ H (by simp) (by simp)]
  simp only [Option.bind_some, binOp, val_bind', e1, val_pure]
theorem val_ptr_same {t e : TypeId} {x y : Operand} {a : Addr} {k : Nat} (ht : P.underlying t = some (.pointer e)) (he : szO P e = some (k + 1)) : val P (do eqGuard .neq t x y (.pointer (some a)) (.pointer (some a)); binOp .neq t (.pointer (some a)) (.pointer (some a))) H = some (.bool false) := by
  have e1 : val P (Op.equal t (.pointer (some a)) (.pointer (some a))) H = some true := val_eqP2 9999 a ht he
  rw [val_bind', val_eqGuard_other P .neq t x y _ _ H (by simp) (by simp)]
  simp only [Option.bind_some, binOp, val_bind', e1, val_pure, Bool.not_true]
theorem val_viewAt {r : Nat} {c : Array Value} {e : TypeId} {f : Nat × Nat} (h : H r = some (.cells c e f)) : val P (viewAt r) H = some none := by
  simp only [viewAt, shape, val_bind', val, h, Option.bind_some]
  rfl
theorem val_seenAt {a : Addr} {c : Array Value} {e : TypeId} {f : Nat × Nat} (h : H a.block = some (.cells c e f)) : val P (Conv.seenAt a) H = some a := by
  simp only [Conv.seenAt, val_bind', val_viewAt h, Option.bind_some]
  rfl
theorem val_cellsIn {r : Nat} {c : Array Value} {e : TypeId} {f : Nat × Nat} (h : H r = some (.cells c e f)) : val P (cellsIn r) H = some (some c.size) := by
  simp only [cellsIn, shape, val_bind', val, h, Option.bind_some]
  rfl
theorem val_variablesAt {a : Addr} {c : Array Value} {e u : TypeId} {f : Nat × Nat} {n : Nat} (h : H a.block = some (.cells c e f)) (hl : liesAt P P.depth e (c.size / P.cellsOf e) a.off u n = true) : val P (variablesAt a u n) H = some true := by
  simp only [variablesAt, shape, program, val_bind', val, h, Option.bind_some]
  rw [hl]
  rfl
theorem val_up {s d t : TypeId} {k : Nat} {a : Addr} {c : Array Value} {e : TypeId} {f : Nat × Nat} (hs : P.underlying s = some (.pointer t)) (hd : P.underlying d = some .unsafePointer) (ht : szO P t = some (k + 1)) (h : H a.block = some (.cells c e f)) (ha : a.off < c.size) :
    val P (convert s d (.pointer (some a))) H = some (.pointer (some a)) := by
  simp only [convert, val_bind', val_underlying, hs, hd, Option.bind_some, Conv.unsafePointer, val_seenAt h, val_cellsIn h, val_sizeOf, ht]
  rw [if_neg]
  · rfl
  · simp; omega
theorem val_down {s d u : TypeId} {a : Addr} {c : Array Value} {e : TypeId} {f : Nat × Nat} {k : Nat} (hs : P.underlying s = some .unsafePointer) (hd : P.underlying d = some (.pointer u)) (hu : szO P u = some (k + 1)) (h : H a.block = some (.cells c e f)) (hl : liesAt P P.depth e (c.size / P.cellsOf e) a.off u 1 = true) :
    val P (convert s d (.pointer (some a))) H = some (.pointer (some a)) := by
  simp only [convert, val_bind', val_underlying, hs, hd, Option.bind_some, Conv.unsafePointer, val_seenAt h, val_sizeOf, hu, val_variablesAt h hl]
  rw [if_pos (by simp)]
  rfl
theorem rowAt_plain {d e u count off n : Nat} (hs : P.cellsOf e = 1) (hf : sameLayout P P.depth e u = true) (h : off + n ≤ count) : liesAt P (d + 1) e count off u n = true := by
  have hd : ∃ d', P.depth = d' + 1 := by
    cases hd : P.depth with
    | zero => rw [hd] at hf; simp [sameLayout] at hf
    | succ d' => exact ⟨d', rfl⟩
  obtain ⟨d', hd⟩ := hd
  unfold liesAt
  rw [hd]
  unfold rowAt
  simp only [hs, Nat.div_one, Nat.mod_one]
  rw [hd] at hf
  simp [hf, h]
theorem lies_plain {e u count off n : Nat} (hs : P.cellsOf e = 1) (hf : sameLayout P P.depth e u = true) (h : off + n ≤ count) : liesAt P P.depth e count off u n = true := by
  obtain ⟨d', hd⟩ : ∃ d', P.depth = d' + 1 := by
    cases hd : P.depth with
    | zero => rw [hd] at hf; simp [sameLayout] at hf
    | succ d' => exact ⟨d', rfl⟩
  have := rowAt_plain (d := d') hs hf h
  rw [← hd] at this
  exact this
theorem val_loadBytes : ∀ (l : List UInt8) (a : Addr) (acc : ByteArray), (∀ i (h : i < l.length), H.cell? (a.add i) = some (eC l[i])) → val P (loadBytes a acc l.length) H = some ⟨acc.data ++ l.toArray⟩
  | [], a, acc, _ => by simp [loadBytes, val_pure]
  | x :: l, a, acc, h => by
    have h0 := h 0 (by simp)
    rw [show a.add 0 = a from rfl] at h0
    have ih := val_loadBytes l (a.add 1) (acc.push x) (fun i hi => by
      have := h (i + 1) (by simpa using hi)
      rw [show (a.add 1).add i = a.add (i + 1) by
        unfold Addr.add
        by_cases hi : i = 0
        · subst hi; rfl
        · simp [hi, Nat.add_comm, Nat.add_left_comm]]
      simpa using this)
    simp only [List.length_cons, loadBytes, load, val_bind', val, h0, Option.bind_some, List.getElem_cons_zero]
    rw [show (Int.toNat ((x.toNat : Nat) : Int)).toUInt8 = x by simp, ih]
    congr 2
    show acc.data.push x ++ l.toArray = acc.data ++ (x :: l).toArray
    simp
theorem digits_size : ∀ (n t : Nat) (acc : Array Value), (Extern.BytealgMakeNoZero.digits n t acc).size = acc.size + n
  | 0, _, _ => rfl
  | n + 1, t, acc => by
    unfold Extern.BytealgMakeNoZero.digits
    rw [digits_size]; simp; omega
theorem hp_makeNoZero {params results : Array TypeId} {t e : TypeId} {n : Int} {Q : Value → Hp → Prop} (hr : results[0]? = some t) (ht : P.underlying t = some (.slice e)) (h0 : 0 ≤ n) (h1 : n ≤ 1099511627776)
    (hk : ∀ c r (cs : Array Value), n.toNat ≤ c → c < 9223372036854775808 → H r = none → cs.size = c → Q (.slice (some ⟨r, 0, none⟩) n.toNat c) (H.put r (.cells cs e (0, 0)))) : hp P (Extern.BytealgMakeNoZero.makeNoZero params results #[.int .i64 n]) H Q := by
  delta Extern.BytealgMakeNoZero.makeNoZero
  have e0 : ∀ (f : Int → Sem Value) (g : Array Value → Sem Value), Extern.BytealgMakeNoZero.makeNoZero.match_3 (fun _ => Sem Value) #[.int .i64 n] f g = f n := fun _ _ => rfl
  rw [e0]
  simp only [hr]
  refine hp_val_bind P _ _ H Q _ (by rw [val_underlying, ht]) ?_
  simp only
  rw [if_neg (by simp; omega)]
  simp only [choose, hp_bind', hp, Question.forced, Bool.false_eq_true, if_false]
  intro tt
  refine hp_askRoom P _ H _ ?_
  intro t2
  refine hp_newRow P _ _ _ _ ?_
  intro r hr'
  have hcut : (Question.appendCap n.toNat 0 e).cut tt = n.toNat + tt % (2 ^ 63 - n.toNat) := rfl
  refine hk _ r _ ?_ ?_ hr' (by rw [digits_size]; simp)
  · rw [hcut]; omega
  · rw [hcut]
    have : tt % (2 ^ 63 - n.toNat) < 2 ^ 63 - n.toNat := Nat.mod_lt _ (by omega)
    omega
end
end HL
/-- A Builder's header and its room. -/
structure Bd (e eb : TypeId) (H : Hp) (r b c : Nat) (l : List UInt8) : Prop where
  ne : r ≠ b
  hdr : H r = some (.cells #[.pointer (some ⟨r, 0, none⟩), .slice (some ⟨b, 0, none⟩) l.length c] e (0, 0))
  buf : ∃ cs : Array Value, H b = some (.cells cs eb (0, 0)) ∧ cs.size = c ∧ l.length ≤ c ∧ ∀ i (h : i < l.length), cs[i]? = some (eC l[i])
noncomputable def nzR : Array TypeId := ((prg.funcs[I.internal_bytealg_MakeNoZero]?).map (·.resultTypes)).getD #[]
noncomputable def nzT : TypeId := (nzR[0]?).getD 0
noncomputable def nzE : TypeId := match prg.underlying nzT with | some (.slice e) => e | _ => 0
section
variable {H : Hp} {K : Value → Hp → Prop} {r b c : Nat} {e eb : TypeId} {l s : List UInt8}
theorem vLoad_cell {H : Hp} {r k : Nat} {c : Array Value} {e : TypeId} {f : Nat × Nat} {v : Value} (h : H r = some (.cells c e f)) (hv : c[k]? = some v) : vLoad (.pointer (some ⟨r, k, none⟩)) H = some v := by
  simp only [vLoad, Hp.cell?, h]
  simpa using hv
theorem st_cell {H : Hp} {r k : Nat} {c : Array Value} {e : TypeId} {x : Value} {K : Hp → Prop} (h : H r = some (.cells c e (0, 0))) (hk : k < c.size) (ho : oneCell x = true) (hz : x.cells = #[x]) (hK : K (H.put r (.cells (c.setIfInBounds k x) e (0, 0)))) : st 1 (.pointer (some ⟨r, k, none⟩)) x H K := by
  simp only [HL.st, hz, List.toList_toArray, List.size_toArray, List.length_singleton, true_and, stC, add_none, Nat.add_zero]
  refine ⟨ho, ?_, ?_, ?_⟩
  · simp only [Hp.cell?, h]; simp [hk]
  · simp only [Hp.frozen?, h]; simp
  · simp only [Hp.setCell, h]; exact hK
end
noncomputable def bdP : TypeId := ((prg.funcs[I.pstrings_Builder_copyCheck]?).bind (·.params[0]?)).getD 0
noncomputable def bdE : TypeId := match prg.underlying bdP with | some (.pointer e) => e | _ => 0
section
variable {H : Hp} {K : Value → Hp → Prop} {r b c : Nat} {eb : TypeId} {l s : List UInt8}
theorem C.Builder_copyCheck_new {u : Value} (h : H r = some (.cells #[.pointer none, u] bdE (0, 0))) (hk : K (.tuple #[]) (H.put r (.cells #[.pointer (some ⟨r, 0, none⟩), u] bdE (0, 0)))) :
    HT prg I.pstrings_Builder_copyCheck [.pointer (some ⟨r, 0, none⟩)].toArray H K := by
  refine R.pstrings_Builder_copyCheck ?_
  unfold F.pstrings_Builder_copyCheck
  refine ob_i (a := .pointer (some ⟨r, 0, none⟩)) rfl ?_
  refine ob_i (a := .pointer (some ⟨r, 0, none⟩)) rfl ?_
  refine ob_i (vLoad_cell h rfl) ?_
  refine ob_i (val_ptr_nil (e := bdE) (by kernel_rfl)) ?_
  refine cnd_t1 ?_
  refine hp_of_val prg _ _ _ _ (val_up (t := bdE) (k := 1) (by kernel_rfl) (by kernel_rfl) (by kernel_rfl) h (by simp)) ?_
  have e0 : ∀ Q, hp prg (callFunc I.internal_abi_NoEscape [Value.pointer (some ⟨r, 0, none⟩)].toArray) H Q = Q (.value (.pointer (some ⟨r, 0, none⟩))) H := fun Q => by kernel_rfl
  rw [e0]
  refine hp_of_val prg _ _ _ _ (val_down (u := bdE) (k := 1) (by kernel_rfl) (by kernel_rfl) (by kernel_rfl) h (by kernel_rfl)) ?_
  refine ob_i (a := .pointer (some ⟨r, 0, none⟩)) rfl ?_
  refine ob_i (a := .pointer (some ⟨r, 0, none⟩)) rfl ?_
  exact st_cell h (by simp) rfl rfl hk
theorem C.Builder_copyCheck_old {u : Value} (h : H r = some (.cells #[.pointer (some ⟨r, 0, none⟩), u] bdE (0, 0))) (hk : K (.tuple #[]) H) :
    HT prg I.pstrings_Builder_copyCheck [.pointer (some ⟨r, 0, none⟩)].toArray H K := by
  refine R.pstrings_Builder_copyCheck ?_
  unfold F.pstrings_Builder_copyCheck
  refine ob_i (a := .pointer (some ⟨r, 0, none⟩)) rfl ?_
  refine ob_i (a := .pointer (some ⟨r, 0, none⟩)) rfl ?_
  refine ob_i (vLoad_cell h rfl) ?_
  refine ob_i (val_ptr_some (e := bdE) (by kernel_rfl)) ?_
  refine cnd_f1 ?_
  refine ob_i (a := .pointer (some ⟨r, 0, none⟩)) rfl ?_
  refine ob_i (a := .pointer (some ⟨r, 0, none⟩)) rfl ?_
  refine ob_i (vLoad_cell h rfl) ?_
  refine ob_i (val_ptr_same (e := bdE) (k := 1) (by kernel_rfl) (by kernel_rfl)) ?_
  refine cnd_f1 ?_
  exact hk
theorem C.Builder_Grow {n : Int} (h : H r = some (.cells #[.pointer none, .slice none 0 0] bdE (0, 0))) (n0 : 1 ≤ n) (n1 : n ≤ 1099511627776)
    (hk : ∀ b c H', n.toNat ≤ c → c < 9223372036854775808 → H b = none → Bd bdE nzE H' r b c [] → (∀ x o, H x = some o → x ≠ r → H' x = some o) → K (.tuple #[]) H') :
    HT prg I.pstrings_Builder_Grow [.pointer (some ⟨r, 0, none⟩), .int .i64 n].toArray H K := by
  refine R.pstrings_Builder_Grow ?_
  unfold F.pstrings_Builder_Grow
  refine C.Builder_copyCheck_new h ?_
  have h1 : (H.put r (.cells #[.pointer (some ⟨r, 0, none⟩), .slice none 0 0] bdE (0, 0))) r = some (.cells #[.pointer (some ⟨r, 0, none⟩), .slice none 0 0] bdE (0, 0)) := Hp.put_same _ _ _
  refine jn_i (fun σ H' => σ 0 = .pointer (some ⟨r, 0, none⟩) ∧ σ 1 = .int .i64 n ∧ H' = H.put r (.cells #[.pointer (some ⟨r, 0, none⟩), .slice none 0 0] bdE (0, 0))) (fun σ H2 hP => ?_) (fun J hJ => ?_)
  · obtain ⟨g0, g1, rfl⟩ := hP
    simp only [g0, g1]
    refine ob_i (a := .pointer (some ⟨r, 0, none⟩)) rfl ?_
    refine ob_i (a := .pointer (some ⟨r, 1, none⟩)) rfl ?_
    refine ob_i (vLoad_cell h1 rfl) ?_
    refine ob_i (a := .int .i64 0) rfl ?_
    refine ob_i (a := .pointer (some ⟨r, 0, none⟩)) rfl ?_
    refine ob_i (a := .pointer (some ⟨r, 1, none⟩)) rfl ?_
    refine ob_i (vLoad_cell h1 rfl) ?_
    refine ob_i (a := .int .i64 0) rfl ?_
    refine ob_i (vInt_sub (by omega) (by omega)) ?_
    refine ob_i (vInt_lss _ _ _) ?_
    rw [decide_eq_true (show (0 : Int) - 0 < n by omega)]
    refine cnd_t1 ?_
    refine R.pstrings_Builder_grow ?_
    unfold F.pstrings_Builder_grow
    refine ob_i (a := .pointer (some ⟨r, 0, none⟩)) rfl ?_
    refine ob_i (a := .pointer (some ⟨r, 1, none⟩)) rfl ?_
    refine ob_i (vLoad_cell h1 rfl) ?_
    refine ob_i (a := .int .i64 0) rfl ?_
    refine ob_i (vInt_mul (by omega) (by omega)) ?_
    refine ob_i (vInt_add (by omega) (by omega)) ?_
    refine ob_i (a := .pointer (some ⟨r, 0, none⟩)) rfl ?_
    refine ob_i (a := .pointer (some ⟨r, 1, none⟩)) rfl ?_
    refine ob_i (vLoad_cell h1 rfl) ?_
    refine ob_i (a := .int .i64 0) rfl ?_
    rw [show (2 : Int) * 0 + n = n by omega]
    have e0 : ∀ H Q, hp prg (callFunc I.internal_bytealg_MakeNoZero [Value.int .i64 n].toArray) H Q = hp prg (do pure (Next.value (← Extern.BytealgMakeNoZero.makeNoZero nzR nzR #[.int .i64 n]))) H Q := fun H Q => by kernel_rfl
    rw [e0]
    refine hp_v ?_
    refine hp_makeNoZero (t := nzT) (e := nzE) (by kernel_rfl) (by kernel_rfl) (by omega) n1 (fun c b cs hc1 hc2 hb hcs => ?_)
    have hrb : r ≠ b := by rintro rfl; rw [h1] at hb; exact absurd hb (by simp)
    have hbH : H b = none := by rw [Hp.put_ne _ _ (Ne.symm hrb)] at hb; exact hb
    refine ⟨Le.put _ hb, ?_⟩
    have e1 : vSl3 1 (.slice (some ⟨b, 0, none⟩) n.toNat c) none (some (.int .i64 0)) none = some (.slice (some ⟨b, 0, none⟩) 0 c) := by
      simp only [vSl3, vSl, bnd]
      rw [if_pos ⟨by omega, by omega⟩]
      simp only [Option.map_some, Nat.zero_mul, Nat.sub_zero]
      congr 1
      split <;> rfl
    refine ob_i e1 ?_
    have h2 : ((H.put r (.cells #[.pointer (some ⟨r, 0, none⟩), .slice none 0 0] bdE (0, 0))).put b (.cells cs nzE (0, 0))) r = some (.cells #[.pointer (some ⟨r, 0, none⟩), .slice none 0 0] bdE (0, 0)) := by
      rw [Hp.put_ne _ _ hrb]; exact h1
    refine ob_i (a := .pointer (some ⟨r, 0, none⟩)) rfl ?_
    refine ob_i (a := .pointer (some ⟨r, 1, none⟩)) rfl ?_
    refine ob_i (vLoad_cell h2 rfl) ?_
    refine hp_v ?_
    refine hp_of_val prg _ _ _ (.int .i64 0) (by kernel_rfl) ?_
    refine ob_i (a := .pointer (some ⟨r, 0, none⟩)) rfl ?_
    refine ob_i (a := .pointer (some ⟨r, 1, none⟩)) rfl ?_
    refine st_cell h2 (by simp) rfl rfl ?_
    refine hk b c _ hc1 hc2 hbH ⟨hrb, Hp.put_same _ _ _, cs, by rw [Hp.put_ne _ _ (Ne.symm hrb), Hp.put_same], hcs, by simp, fun i hi => absurd hi (by simp)⟩ (fun x o hx hxr => ?_)
    have hxb : x ≠ b := by rintro rfl; rw [hbH] at hx; exact absurd hx (by simp)
    rw [Hp.put_ne _ _ hxr, Hp.put_ne _ _ hxb, Hp.put_ne _ _ hxr]
    exact hx
  · refine ob_i (vInt_lss _ _ _) ?_
    rw [decide_eq_false (show ¬ n < 0 by omega)]
    refine cnd_f1 ?_
    exact hJ _ _ ⟨rfl, rfl, rfl⟩
theorem firstC_str {H : Hp} : firstC H 1 s.length (vS s) = some (s.map eC) := by
  simp only [firstC]
  congr 1
  have : (tS s).extract 0 s.length = tS s := by rw [tS_extract]; simp
  rw [this, tS_data]
theorem C.Builder_WriteString (h : Bd bdE eb H r b c l) (hc : l.length + s.length ≤ c)
    (hk : ∀ H', Bd bdE eb H' r b c (l ++ s) → (∀ x o, H x = some o → x ≠ r → x ≠ b → H' x = some o) → K (.tuple #[.int .i64 s.length, .nilIface]) H') :
    HT prg I.pstrings_Builder_WriteString [.pointer (some ⟨r, 0, none⟩), vS s].toArray H K := by
  refine R.pstrings_Builder_WriteString ?_
  unfold F.pstrings_Builder_WriteString
  refine C.Builder_copyCheck_old h.hdr ?_
  refine ob_i (a := .pointer (some ⟨r, 0, none⟩)) rfl ?_
  refine ob_i (a := .pointer (some ⟨r, 1, none⟩)) rfl ?_
  refine ob_i (a := .slice (some ⟨b, 0, none⟩) l.length c) (vLoad_cell h.hdr rfl) ?_
  obtain ⟨cs, hb, hcs, hlc, hel⟩ := h.buf
  have hlen : lenO (vS s) = some s.length := rfl
  simp only [HL.apd, hlen]
  rw [if_pos hc]
  simp only [firstC_str]
  refine stC_run (b := b) (e := eb) (s.map eC) _ 0 cs H (by rw [Nat.mul_one]; unfold Addr.add; split <;> rfl) (by rw [Nat.mul_one]; unfold Addr.add; split <;> rfl) hb (by rw [Nat.mul_one, add_none]; simp; omega) (by simp; intro x _; rfl) ?_
  intro H' cs' h1 h2 h3 h4 h5
  rw [Nat.mul_one, add_none] at h3 h4
  simp only [Nat.add_zero, Nat.zero_add] at h3 h4
  have hr' : H' r = some (.cells #[.pointer (some ⟨r, 0, none⟩), .slice (some ⟨b, 0, none⟩) l.length c] bdE (0, 0)) := by rw [h5 r h.ne]; exact h.hdr
  refine ob_i (a := .pointer (some ⟨r, 0, none⟩)) rfl ?_
  refine ob_i (a := .pointer (some ⟨r, 1, none⟩)) rfl ?_
  refine st_cell hr' (by simp) rfl rfl ?_
  refine ob_i (vLenS_t s) ?_
  refine hk _ ⟨h.ne, by rw [Hp.put_same]; simp, cs', by rw [Hp.put_ne _ _ (Ne.symm h.ne)]; exact h1, by rw [h2, hcs], by simpa using hc, fun i hi => ?_⟩ (fun x o hx hxr hxb => ?_)
  · by_cases hil : i < l.length
    · rw [h3 i hil, hel i hil, List.getElem_append_left hil]
    · have := h4 (i - l.length) (by simp at hi ⊢; omega)
      rw [show l.length + (i - l.length) = i by omega] at this
      rw [this, List.getElem_append_right (by omega)]; simp
  · rw [Hp.put_ne _ _ hxr, h5 x hxb]; exact hx
theorem C.Builder_String (h : Bd bdE nzE H r b c l) (hl : 0 < l.length) (hl2 : l.length ≤ 9223372036854775807) (hk : ∀ H', (∀ x o, H x = some o → x ≠ r → x ≠ b → H' x = some o) → K (vS l) H') :
    HT prg I.pstrings_Builder_String [.pointer (some ⟨r, 0, none⟩)].toArray H K := by
  obtain ⟨cs, hb, hcs, hlc, hel⟩ := h.buf
  have e1 : ∀ ts ty H, val prg (Builtin.unsafeSliceData_ ts ty #[.slice (some ⟨b, 0, none⟩) l.length c]) H = some (.pointer (some ⟨b, 0, none⟩)) := fun ts ty H => by
    obtain ⟨c', hc'⟩ : ∃ c', c = c' + 1 := ⟨c - 1, by omega⟩
    rw [hc']
    kernel_rfl
  have hld : val prg (loadBytes ⟨b, 0, none⟩ .empty l.length) H = some ⟨ByteArray.empty.data ++ l.toArray⟩ := val_loadBytes l _ _ (fun i hi => by
    rw [add_none]
    simp only [Hp.cell?, hb, Nat.zero_add, hel i hi]; rfl)
  have e2 : ∀ (ts : Array TypeId) ty pt (Q : Value → Hp → Prop), ts[0]? = some pt → prg.underlying pt = some (.pointer nzE) → (∀ H', (∀ x o, H x = some o → x ≠ r → x ≠ b → H' x = some o) → Q (vS l) H') → hp prg (Builtin.unsafeString_ ts ty #[.pointer (some ⟨b, 0, none⟩), .int .i64 l.length]) H Q := fun ts ty pt Q ht hpt hQ => by
    delta Builtin.unsafeString_
    have e0 : ∀ (f : Option Addr → Value → Sem Value) (g : Array Value → Sem Value), Builtin.unsafeString_.match_3 (fun _ => Sem Value) #[.pointer (some ⟨b, 0, none⟩), .int .i64 l.length] f g = f (some ⟨b, 0, none⟩) (.int .i64 l.length) := fun _ _ => rfl
    rw [e0]
    refine hp_val_bind prg _ _ H Q (l.length : Int) (by kernel_rfl) ?_
    simp only [ht]
    have em : IntKind.i64.max = 9223372036854775807 := by decide
    rw [if_neg (by omega), if_neg (by rw [em]; omega)]
    have hn0 : ¬ ((l.length : Int) = 0) := by omega
    simp only [hn0, if_false]
    refine hp_val_bind prg _ _ H Q nzE (by simp only [elemOf, val_bind', val_underlying, hpt, Option.bind_some]; rfl) ?_
    have hs1 : prg.cellsOf nzE = 1 := by kernel_rfl
    refine hp_val_bind prg _ _ H Q true (val_variablesAt hb (by rw [hs1, Nat.div_one]; exact lies_plain hs1 (by kernel_rfl) (by simp; omega))) ?_
    simp only [if_true]
    rw [Int.toNat_natCast]
    refine hp_val_bind prg _ _ H Q _ hld ?_
    simp only [freeze, hp_bind', hp, hb]
    rw [if_neg (by omega)]
    have et : (⟨ByteArray.empty.data ++ l.toArray⟩ : ByteArray) = tS l := by
      show (⟨#[] ++ l.toArray⟩ : ByteArray) = _
      rw [Array.empty_append]; rfl
    rw [et]
    exact hQ _ (fun x o hx hxr hxb => by rw [Hp.put_ne _ _ hxb]; exact hx)
  refine R.pstrings_Builder_String ?_
  unfold F.pstrings_Builder_String
  refine ⟨?_, ?_⟩
  · refine ob_i (a := .pointer (some ⟨r, 0, none⟩)) rfl ?_
    refine ob_i (a := .pointer (some ⟨r, 1, none⟩)) rfl ?_
    refine ob_i (a := .slice (some ⟨b, 0, none⟩) l.length c) (vLoad_cell h.hdr rfl) ?_
    refine ob_i (a := .pointer (some ⟨r, 0, none⟩)) rfl ?_
    refine ob_i (a := .pointer (some ⟨r, 1, none⟩)) rfl ?_
    refine ob_i (a := .slice (some ⟨b, 0, none⟩) l.length c) (vLoad_cell h.hdr rfl) ?_
    refine ob_i (a := .int .i64 l.length) rfl ?_
    refine hp_v (hp_of_val prg _ _ _ _ (e1 _ _ _) ?_)
    refine hp_v (e2 _ _ _ _ rfl (by kernel_rfl) (fun H' hH' => hk H' hH'))
  · refine ob_i (a := .pointer (some ⟨r, 0, none⟩)) rfl ?_
    refine ob_i (a := .pointer (some ⟨r, 1, none⟩)) rfl ?_
    refine ob_i (a := .slice (some ⟨b, 0, none⟩) l.length c) (vLoad_cell h.hdr rfl) ?_
    refine ob_i (a := .pointer (some ⟨r, 0, none⟩)) rfl ?_
    refine ob_i (a := .pointer (some ⟨r, 1, none⟩)) rfl ?_
    refine hp_v (hp_of_val prg _ _ _ _ (e1 _ _ _) ?_)
    refine ob_i (a := .slice (some ⟨b, 0, none⟩) l.length c) (vLoad_cell h.hdr rfl) ?_
    refine ob_i (a := .int .i64 l.length) rfl ?_
    refine hp_v (e2 _ _ _ _ rfl (by kernel_rfl) (fun H' hH' => hk H' hH'))
end
end Go.Proofs.YtialllbbbpmkbaaDoor
