/- Pointers that are only read; elements of a family; texts as keys. -/
import Derived.Test.YtialllbbbpmkbaaDoorKR
import Derived.Test.YtialllbbbpmkbaaDoorKL
namespace Go.Proofs.YtialllbbbpmkbaaDoor
open HL
set_option maxRecDepth 100000
namespace HL
/-- What follows a call, by a name. -/
theorem HTk {P : Program} {f : FuncId} {args : Array Value} {H : Hp} {K0 : Value → Hp → Prop} (h : ∀ K, (∀ v H', K0 v H' → K v H') → HT P f args H K) : HT P f args H K0 := h K0 (fun _ _ h => h)
/-- A pointer to cells that are read. -/
def CelR (H : Hp) (p : Value) (cs : List Value) : Prop := ∃ a, p = .pointer (some a) ∧ (∃ o, H a.block = some o) ∧ ∀ i (h : i < cs.length), H.cell? (a.add i) = some cs[i]
section
variable {H H' : Hp} {p u v : Value} {cs : List Value}
theorem Cel.r (h : Cel H p cs) : CelR H p cs := by
  obtain ⟨r, e, rfl, hr⟩ := h
  refine ⟨_, rfl, ⟨_, hr⟩, fun i hi => ?_⟩
  simp only [add_none, Hp.cell?, hr, Nat.zero_add]
  simp [hi]
theorem CelR.known (h : CelR H p cs) : ∀ b, bk p = some b → ∃ o, H b = some o := by
  obtain ⟨a, rfl, ho, _⟩ := h
  intro b hb
  simp only [bk, Option.some.injEq] at hb
  subst hb; exact ho
theorem CelR.le (h : CelR H p cs) (hl : Le H H') : CelR H' p cs := by
  obtain ⟨a, rfl, ⟨o, ho⟩, hc⟩ := h
  exact ⟨a, rfl, ⟨o, hl _ _ ho⟩, fun i hi => hl.cell (hc i hi)⟩
theorem CelR.keep (h : CelR H p cs) (hk : ∀ b, bk p = some b → H' b = H b) : CelR H' p cs := by
  obtain ⟨a, rfl, ⟨o, ho⟩, hc⟩ := h
  have e := hk a.block rfl
  refine ⟨a, rfl, ⟨o, by rw [e]; exact ho⟩, fun i hi => ?_⟩
  have := hc i hi
  unfold Hp.cell? at this ⊢
  rw [add_block] at this ⊢
  rw [e]; exact this
theorem CelR.off (h : CelR H p cs) (ho : Off v H H') (ha : Apart p v) : CelR H' p cs := h.keep fun b hb => by
  obtain ⟨o, hh⟩ := h.known b hb
  rw [ho b o hh (ha b hb), hh]
theorem CelR.offS {S : Rg} (h : CelR H p cs) (ho : OffS S H H') (ha : Apt p S) : CelR H' p cs := h.keep fun b hb => by
  obtain ⟨o, hh⟩ := h.known b hb
  rw [ho b o hh (ha b hb), hh]
theorem CelR.apart (h : CelR H p cs) (hn : Nw H v) : Apart p v := Apart.of_nw h.known hn
theorem CelR.fa (h : CelR H p cs) (k : Nat) : vFa k p = some (fp p k) := by
  obtain ⟨a, rfl, _⟩ := h; rfl
theorem CelR.nilC (h : CelR H p cs) : vNilC p = some p := by
  obtain ⟨a, rfl, _⟩ := h; rfl
theorem CelR.ld (h : CelR H p cs) (k : Nat) {x : Value} (hx : cs[k]? = some x) : vLoad (fp p k) H = some x := by
  obtain ⟨a, rfl, _, hc⟩ := h
  obtain ⟨hk, rfl⟩ := List.getElem?_eq_some_iff.mp hx
  exact hc k hk
theorem CelR.ld0 (h : CelR H p cs) {x : Value} (hx : cs[0]? = some x) : vLoad p H = some x := by
  obtain ⟨a, rfl, _, hc⟩ := h
  obtain ⟨hk, rfl⟩ := List.getElem?_eq_some_iff.mp hx
  have := hc 0 hk
  rw [show a.add 0 = a by unfold Addr.add; simp] at this
  exact this
theorem CelR.ldn (h : CelR H p cs) {n : Nat} (hn : cs.length = n) : vLoadN n p H = some (.agg cs.toArray) := by
  obtain ⟨a, rfl, _, hc⟩ := h
  simp only [vLoadN]
  rw [rd_cells (enc := id) a n 0 cs hn (fun i hi => by rw [Nat.zero_add]; exact hc i hi)]
  simp
theorem CelR.cast {ds : List Value} (e : cs = ds) (h : CelR H p cs) : CelR H p ds := e ▸ h
end
theorem OwnE.blk {n : Nat} {α : Type} {enc : α → List Value} {H : Hp} {v : Value} {l : List α} (h : OwnE n enc H v l) (hn : ∀ x, (enc x).length = n) (n0 : 0 < n) {i : Nat} (hi : i < l.length) :
    ∃ a c, v = .slice (some a) l.length c ∧ (∃ o, H a.block = some o) ∧ bk v = some a.block ∧ ∀ j (hj : j < n), H.cell? (a.add (i * n + j)) = (enc l[i])[j]? := by
  have hs := h.sl hn
  obtain ⟨a, c, e, hc⟩ := hs.base hn n0 hi
  have hb : bk v = some a.block := by
    obtain ⟨a', c', e', h1, _⟩ := h
    rw [e] at e'
    simp only [Value.slice.injEq] at e'
    rw [e]
    simp only [bk]
    rw [if_neg (by omega)]
  exact ⟨a, c, e, h.known _ hb, hb, hc⟩
/-- An element of a family, by its pointer. -/
theorem Fam.el {H : Hp} {v : Value} {S : Rg} {fs : List FdL} {f : FdL} (h : Fam H v S fs) {i : Int} (i0 : 0 ≤ i) (i1 : i < fs.length) (e : at_ fd0 fs i = f) :
    ∃ P x, vIx 3 v (.int .i64 i) = some P ∧ CelR H P [.int .i64 f.r, .int .i64 f.c, x] ∧ Ro eI H x f.l ∧ (∀ b, bk P = some b → S b) ∧ (∀ b, bk x = some b → S b) := by
  obtain ⟨L, h1, h2, h3, h4, h5⟩ := h
  obtain ⟨n, rfl⟩ := Int.eq_ofNat_of_zero_le i0
  have hl := h2.len
  have hn : n < L.length := by omega
  obtain ⟨g1, g2, g3⟩ := h2.get hn
  obtain ⟨a, c, rfl, ho, hb, hc⟩ := h1.blk encFv_n (by omega) hn
  have hx := at_get fv0 hn
  subst e
  refine ⟨.pointer (some (a.add (n * 3))), (at_ fv0 L (n : Int)).v, ?_, ⟨_, rfl, by rw [add_block]; exact ho, fun j hj => ?_⟩, g3.ro, fun b hb2 => ?_, fun b hb2 => ?_⟩
  · simp only [vIx]
    rw [if_pos (by omega)]; rfl
  · simp only [List.length_cons, List.length_nil] at hj
    rw [add_add, hc j (by omega), ← hx]
    simp only [encFv]
    have hj3 : j = 0 ∨ j = 1 ∨ j = 2 := by omega
    rcases hj3 with rfl | rfl | rfl
    · simp [g1]
    · simp [g2]
    · simp
  · simp only [bk, add_block, Option.some.injEq] at hb2
    subst hb2
    exact (h5 _).mpr (.inl hb)
  · exact (h5 _).mpr (.inr ⟨_, at_mem fv0 L (by omega) (by omega), hb2⟩)
/-- A family of one field. -/
theorem Fam.one_of {H : Hp} {u x : Value} {r c : Int} {l : List Int} (h : OwnE 3 encFv H u [⟨r, c, x⟩]) (hx : Own eI H x l) (ap : Apart u x) : ∃ S : Rg, Fam H u S [⟨r, c, l⟩] ∧ ∀ b, S b → bk u = some b ∨ bk x = some b :=
  ⟨fun b => bk u = some b ∨ bk x = some b, ⟨[⟨r, c, x⟩], h, ⟨⟨rfl, rfl, hx⟩, trivial⟩, by simpa using ap, List.pairwise_singleton _ _, fun b => by simp⟩, fun b hb => hb⟩
theorem Apt.of_two {α : Type} [Bks α] {z : α} {u x : Value} {S : Rg} (hS : ∀ b, S b → bk u = some b ∨ bk x = some b) (hu : Apt z u) (hx : Apt z x) : Apt z S := fun b h1 h2 => by
  rcases hS b h2 with h | h
  · exact hu b h1 h
  · exact hx b h1 h
theorem Nws.of_two {H : Hp} {u x : Value} {S : Rg} (hS : ∀ b, S b → bk u = some b ∨ bk x = some b) (hu : Nw H u) (hx : Nw H x) : Nws H S := fun b h => by
  rcases hS b h with h | h
  · exact hu b h
  · exact hx b h
theorem Apt.ap2 {α : Type} [Bks α] {z : α} {u u' : Value} {H : Hp} (hz : Kn H z) (ha : Apt z u) (hb : ∀ b, bk u' = some b → bk u = some b ∨ H b = none) : Apt z u' := fun b h1 h2 => by
  rcases hb b h2 with h | h
  · exact ha b h1 h
  · obtain ⟨o, ho⟩ := hz b h1
    rw [h] at ho; simp at ho
def mapSI (P : Program) (t : TypeId) : Bool := match P.underlying t with
  | some (.map kt et) => (match P.underlying kt, zeroO P et with | some .string, some (.int .i64 0) => true | _, _ => false)
  | _ => false
theorem mapSI_of {P : Program} {t : TypeId} (h : mapSI P t = true) : ∃ kt et, P.underlying t = some (.map kt et) ∧ P.underlying kt = some .string ∧ zeroO P et = some (.int .i64 0) := by
  unfold mapSI at h
  split at h
  · rename_i kt et he
    split at h
    · rename_i h1 h2; exact ⟨kt, et, he, h1, h2⟩
    · simp at h
  · simp at h
theorem Mp.look' {P : Program} {t : TypeId} {k : ByteArray} {H : Hp} {p : Value} {S : Rg} {ms : List (ByteArray × Int)} {K : Value → Hp → Prop} (h : Mp H p S ms) (ht : mapSI P t = true)
    (hK : K (.tuple #[.int .i64 ((mget k ms).getD 0), .bool (mget k ms).isSome]) H) : hp P (Instr.lookup t p (.string k) true) H K := by
  obtain ⟨kt, et, h1, h2, h3⟩ := mapSI_of ht
  exact h.look h1 h2 h3 hK
theorem Mp.add' {P : Program} {t : TypeId} {k : ByteArray} {x : Int} {H : Hp} {p : Value} {S : Rg} {ms : List (ByteArray × Int)} {K : Unit → Hp → Prop} (h : Mp H p S ms) (ht : mapSI P t = true) (hn : mget k ms = none)
    (hK : ∀ H', Mp H' p S (ms ++ [(k, x)]) → OffS S H H' → K () H') : hp P (Instr.mapUpdate t p (.string k) (.int .i64 x)) H K := by
  obtain ⟨kt, et, h1, h2, h3⟩ := mapSI_of ht
  exact h.add h1 h2 hn hK
theorem Mp.cast {H : Hp} {p : Value} {S : Rg} {ms ns : List (ByteArray × Int)} (e : ms = ns) (h : Mp H p S ms) : Mp H p S ns := e ▸ h
def cvBS (P : Program) (s d : TypeId) : Bool := match P.underlying s, P.underlying d with
  | some (.slice e), some .string => (match P.underlying e with | some (.int .u8) => true | _ => false)
  | _, _ => false
theorem val_convBS {P : Program} {s d : TypeId} {H : Hp} {v : Value} {l : List Int} (h : cvBS P s d = true) (hs : Sl eU H v l) : val P (convert s d v) H = some (.string (bytesS .empty l)) := by
  unfold cvBS at h
  split at h
  · rename_i e h1 h2
    split at h
    · rename_i h3
      have hv := val_bytesToString (P := P) hs
      obtain ⟨a, n, c, rfl⟩ := hs.isSl
      unfold convert
      rw [val_bind', val_underlying, h1, Option.bind_some, val_bind', val_underlying, h2, Option.bind_some]
      simp only
      rw [val_bind', val_underlying, h3, Option.bind_some]
      exact hv
    · simp at h
  · simp at h
theorem vCI_u8 {k : IntKind} {a : Int} (h : 0 ≤ a) (h' : a ≤ 255) : vCI .u8 (.int k a) = some (.int .u8 a) := by
  have : IntKind.u8.wrap a = a := by unfold IntKind.wrap; simp [IntKind.signed, IntKind.bits]; omega
  simp only [vCI, this]
end HL
end Go.Proofs.YtialllbbbpmkbaaDoor
