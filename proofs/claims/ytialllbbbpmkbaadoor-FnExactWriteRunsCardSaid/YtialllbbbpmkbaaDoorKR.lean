/- Bytes told as texts. -/
import Derived.Test.YtialllbbbpmkbaaDoorKQ
import Derived.Test.YtialllbbbpmkbaaDoorKU
namespace Go.Proofs.YtialllbbbpmkbaaDoor.HL
set_option maxRecDepth 100000
def bytesS (s : ByteArray) (l : List Int) : ByteArray := l.foldl (fun s n => s.push (UInt8.ofNat n.toNat)) s
theorem val_bytesFrom (P : Program) (H : Hp) : ∀ (l : List Int) (s : ByteArray),
    val P (forIn (l.map eU) s fun c r => (match c with
      | Value.int IntKind.u8 n => pure (ForInStep.yield (r.push (UInt8.ofNat n.toNat)))
      | _ => do
        stuck "bytesToString: byte expected"
        pure (ForInStep.yield r) : Sem (ForInStep ByteArray))) H = some (bytesS s l)
  | [], s => rfl
  | n :: l, s => by
    simp only [List.map_cons, List.forIn_cons, val_bind', val_pure, Option.bind_some]
    exact val_bytesFrom P H l _
theorem val_bytesToString {P : Program} {H : Hp} {v : Value} {l : List Int} (h : Sl eU H v l) : val P (Conv.bytesToString v) H = some (.string (bytesS .empty l)) := by
  have hf := h.firstC
  obtain ⟨a, c, rfl, hc, hr⟩ := h
  cases a with
  | none =>
    have : l = [] := by
      cases l with
      | nil => rfl
      | cons x r => obtain ⟨ad, e, _⟩ := hr 0 (by simp); simp at e
    subst this
    rfl
  | some ad =>
    simp only [HL.firstC, Nat.mul_one] at hf
    unfold Conv.bytesToString
    simp only [val_bind', val_loadCells P H ad l.length _ hf, Option.bind_some]
    have := val_bytesFrom P H l .empty
    simp only [List.forIn_toArray]
    exact Eq.trans (congrArg (fun o => Option.bind o (fun v => val P (pure (Value.string v)) H)) this) rfl
theorem bytesS_data : ∀ (l : List Int) (s : ByteArray), (bytesS s l).data.toList = s.data.toList ++ l.map fun n => UInt8.ofNat n.toNat
  | [], s => by simp [bytesS]
  | n :: l, s => by
    have := bytesS_data l (s.push (UInt8.ofNat n.toNat))
    simp only [bytesS, List.foldl_cons, List.map_cons] at this ⊢
    rw [this, ByteArray.data_push, Array.toList_push, List.append_assoc]; rfl
theorem bytesS_inj {l m : List Int} (hl : ∀ x ∈ l, 0 ≤ x ∧ x ≤ 255) (hm : ∀ x ∈ m, 0 ≤ x ∧ x ≤ 255) (h : bytesS .empty l = bytesS .empty m) : l = m := by
  have e := congrArg (fun b => b.data.toList) h
  simp only [bytesS_data] at e
  have e2 := List.append_cancel_left e
  clear e h
  induction l generalizing m with
  | nil => cases m with
    | nil => rfl
    | cons y m => simp at e2
  | cons x l ih => cases m with
    | nil => simp at e2
    | cons y m =>
      simp only [List.map_cons, List.cons.injEq] at e2
      have b1 := hl x (by simp)
      have b2 := hm y (by simp)
      have e3 : x = y := by
        have := congrArg UInt8.toNat e2.1
        simp only [UInt8.toNat_ofNat'] at this
        omega
      rw [e3, ih (fun z hz => hl z (by simp [hz])) (fun z hz => hm z (by simp [hz])) e2.2]
theorem beq_bytes (a b : ByteArray) : (a == b) = decide (a = b) := by
  have e : (a == b) = (a.data == b.data) := rfl
  rw [e, Bool.eq_iff_iff, decide_eq_true_eq, beq_iff_eq]
  exact ⟨fun h => ByteArray.ext h, fun h => congrArg ByteArray.data h⟩
end Go.Proofs.YtialllbbbpmkbaaDoor.HL
