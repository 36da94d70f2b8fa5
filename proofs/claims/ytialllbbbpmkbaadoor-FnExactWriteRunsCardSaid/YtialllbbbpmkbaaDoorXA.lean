/- Texts: bytes in a row. -/
import Derived.Test.YtialllbbbpmkbaaDoorSB
import Derived.Laws.Strings
namespace Go.Proofs.YtialllbbbpmkbaaDoor.HL
set_option maxRecDepth 100000
/-- A text of some bytes. -/
def tS (l : List UInt8) : ByteArray := ⟨l.toArray⟩
abbrev vS (l : List UInt8) : Value := .string (tS l)
theorem tS_size (l : List UInt8) : (tS l).size = l.length := rfl
theorem tS_data (l : List UInt8) : (tS l).data.toList = l := rfl
theorem tS_toList (l : List UInt8) : (tS l).toList = l := by rw [ByteArray.toList_eq]; rfl
theorem tS_of (b : ByteArray) : b = tS b.data.toList := by cases b; rfl
theorem tS_append (a b : List UInt8) : tS a ++ tS b = tS (a ++ b) := by
  have h : ∀ {x y : ByteArray}, x.data.toList = y.data.toList → x = y := fun {x y} h => by
    cases x; cases y; simp only [ByteArray.mk.injEq]; exact Array.toList_inj.mp h
  apply h
  rw [ByteArray.data_append, Array.toList_append]
  rfl
theorem tS_inj {a b : List UInt8} (h : tS a = tS b) : a = b := by
  have := congrArg (fun x => x.data.toList) h
  exact this
theorem vStr_add {a b : List UInt8} (h : a.length + b.length ≤ 9223372036854775807) : vStr .add (vS a) (vS b) = some (vS (a ++ b)) := by
  simp only [vStr, tS_size, tS_append]
  rw [if_pos]
  have e : IntKind.i64.max = 9223372036854775807 := by decide
  rw [e]; omega
theorem vStr_eql (a b : List UInt8) : vStr .eql (vS a) (vS b) = some (.bool (decide (a = b))) := by
  simp only [vStr, tS_toList]
  congr 2
  by_cases h : a = b
  · simp [h]
  · simp [h]
theorem vStr_neq (a b : List UInt8) : vStr .neq (vS a) (vS b) = some (.bool (decide (a ≠ b))) := by
  simp only [vStr, tS_toList]
  congr 2
  by_cases h : a = b
  · simp [h]
  · simp [h]
theorem vStr_neq_same (a : List UInt8) : vStr .neq (vS a) (vS a) = some (.bool false) := by rw [vStr_neq]; simp
theorem vStr_lss (a b : List UInt8) : vStr .lss (vS a) (vS b) = some (.bool (Op.bytesLess a b)) := by simp only [vStr, tS_toList]
theorem vLenS_t (a : List UInt8) : vLenS (vS a) = some (.int .i64 a.length) := rfl
theorem vIndexS_t {a : List UInt8} {k : IntKind} {i : Int} (h0 : 0 ≤ i) (h1 : i < a.length) : vIndexS (vS a) (.int k i) = some (.int .u8 ((at_ 0 a i).toNat : Int)) := by
  have hi : i.toNat < a.length := by omega
  have e : (tS a)[i.toNat]? = some a[i.toNat] := by
    show (if h : i.toNat < (tS a).size then some ((tS a)[i.toNat]) else none) = _
    rw [dif_pos (show i.toNat < (tS a).size from hi)]
    rfl
  simp only [vIndexS]
  rw [if_pos h0, e]
  simp only [Option.map_some, at_, List.getD_eq_getElem?_getD, List.getElem?_eq_getElem hi, Option.getD_some]
theorem tS_extract (a : List UInt8) (l h : Nat) : (tS a).extract l h = tS ((a.drop l).take (h - l)) := by
  have hh : ∀ {x y : ByteArray}, x.data.toList = y.data.toList → x = y := fun {x y} h => by
    cases x; cases y; simp only [ByteArray.mk.injEq]; exact Array.toList_inj.mp h
  apply hh
  rw [ByteArray.data_extract, Array.toList_extract, List.extract_eq_take_drop]
  rfl
theorem vSlS_t {a : List UInt8} {k k' : IntKind} {l h : Int} (l0 : 0 ≤ l) (lh : l ≤ h) (h1 : h ≤ a.length) : vSlS (vS a) (some (.int k l)) (some (.int k' h)) = some (vS ((a.drop l.toNat).take (h.toNat - l.toNat))) := by
  have e := tS_size a
  simp only [vSlS, bnd, e]
  rw [if_pos ⟨by omega, by omega⟩]
  simp only
  rw [if_pos ⟨by omega, by omega⟩]
  simp only [tS_extract]
theorem vSlS_lo {a : List UInt8} {k : IntKind} {l : Int} (l0 : 0 ≤ l) (h1 : l ≤ a.length) : vSlS (vS a) (some (.int k l)) none = some (vS (a.drop l.toNat)) := by
  have e := tS_size a
  simp only [vSlS, bnd, e]
  rw [if_pos ⟨by omega, by omega⟩]
  simp only [tS_extract]
  rw [List.take_of_length_le (by simp)]
theorem vSlS_hi {a : List UInt8} {k : IntKind} {h : Int} (h0 : 0 ≤ h) (h1 : h ≤ a.length) : vSlS (vS a) none (some (.int k h)) = some (vS (a.take h.toNat)) := by
  have e := tS_size a
  simp only [vSlS, bnd, e]
  rw [if_pos ⟨by omega, by omega⟩]
  simp only [tS_extract, List.drop_zero, Nat.sub_zero]
end Go.Proofs.YtialllbbbpmkbaaDoor.HL
