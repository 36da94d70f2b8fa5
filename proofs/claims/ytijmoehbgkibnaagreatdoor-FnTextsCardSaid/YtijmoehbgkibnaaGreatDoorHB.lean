/- What single operations of the model come to over a partial heap. -/
import Derived.Test.YtijmoehbgkibnaaGreatDoorHA
namespace Go.Proofs.YtijmoehbgkibnaaGreatDoor.HL

/-- The slots of a frame. -/
abbrev S := Nat → Value
def up (σ : S) (t : Nat) (v : Value) : S := fun x => cond (Nat.beq x t) v (σ x)
theorem up_apply (σ : S) (t : Nat) (v : Value) (x : Nat) : up σ t v x = if x = t then v else σ x := by
  unfold up
  by_cases h : x = t
  · subst h; simp
  · have : Nat.beq x t = false := by
      rw [← Bool.not_eq_true]; intro hh; exact h (Nat.eq_of_beq_eq_true hh)
    simp [this, h]
def upo (σ : S) : Option Tmp → Value → S
  | some d, v => up σ d v
  | none, _ => σ
def evs (σ : S) : Operand → Value
  | .tmp t => σ t
  | .const v => v
  | .global g => .pointer (some ⟨g, 0, none⟩)
  | .func f => .func (.func f) #[] #[]
/-- The slots at the beginning. -/
def S0 (l : List Value) : S := fun t => (l[t]?).getD undef

def ob {α : Type} (x : Option α) (K : α → Prop) : Prop :=
  match x with
  | some a => K a
  | none => False
theorem ob_some {α : Type} (a : α) (K : α → Prop) : ob (some a) K = K a := rfl
theorem ob_none {α : Type} (K : α → Prop) : ob (none : Option α) K = False := rfl
theorem ob_mono {α : Type} {x : Option α} {K K' : α → Prop} (h : ∀ a, K a → K' a) (hk : ob x K) : ob x K' := by
  cases x <;> simp only [ob] at * ; exact h _ hk
theorem ob_ex {α : Type} {x : Option α} {K : α → Prop} (h : ob x K) : ∃ a, x = some a ∧ K a := by
  cases x with
  | none => exact h.elim
  | some a => exact ⟨a, rfl, h⟩

/-! ### types, told ahead -/
def aggB (P : Program) (t : TypeId) : Option Bool :=
  match P.underlying t with
  | some (.struct _) | some (.array _ _) => some true
  | some _ => some false
  | none => none
def szO (P : Program) (t : TypeId) : Option Nat := (P.info? t).map (·.size)
def zeroO (P : Program) (t : TypeId) : Option Value := (P.info? t).bind (·.zero)
def bytesO (P : Program) (t : TypeId) : Option Nat := (P.info? t).map (·.bytes)

theorem val_underlying (P : Program) (t : TypeId) (H : Hp) : val P (underlying t) H = P.underlying t := by
  simp only [underlying, val_bind', program, val, Option.bind_some]
  cases P.underlying t <;> rfl
theorem val_typeInfo (P : Program) (t : TypeId) (H : Hp) : val P (typeInfo t) H = P.info? t := by
  simp only [typeInfo, val_bind', program, val, Option.bind_some]
  cases P.info? t <;> rfl
theorem val_sizeOf (P : Program) (t : TypeId) (H : Hp) : val P (sizeOf t) H = szO P t := by
  simp only [sizeOf, val_bind', val_typeInfo, szO]
  cases P.info? t <;> rfl
theorem val_zeroValue (P : Program) (t : TypeId) (H : Hp) : val P (zeroValue t) H = zeroO P t := by
  simp only [zeroValue, val_bind', val_typeInfo, zeroO]
  cases h : P.info? t with
  | none => rfl
  | some i => simp only [Option.bind_some]; cases i.zero <;> rfl
theorem val_isAgg (P : Program) (t : TypeId) (H : Hp) : val P (isAgg t) H = aggB P t := by
  simp only [isAgg, val_bind', val_underlying, aggB]
  cases h : P.underlying t with
  | none => rfl
  | some d => cases d <;> rfl

/-! ### values that are only read or computed -/
def vPick (c a b : Value) : Option Value :=
  match c with
  | .bool t => some (if t then a else b)
  | _ => none
def vLoad (v : Value) (H : Hp) : Option Value :=
  match v with
  | .pointer (some a) => H.cell? a
  | _ => none
/-- n cells from a on, the first i left out -/
def rdCells (H : Hp) (a : Addr) : Nat → Nat → Option (List Value)
  | _, 0 => some []
  | i, n + 1 =>
    match H.cell? (a.add i), rdCells H a (i + 1) n with
    | some v, some l => some (v :: l)
    | _, _ => none
def vLoadN (n : Nat) (v : Value) (H : Hp) : Option Value :=
  match v with
  | .pointer (some a) => (rdCells H a 0 n).map fun l => .agg l.toArray
  | _ => none
def vIx (sz : Nat) (v i : Value) : Option Value :=
  match v, i with
  | .slice (some a) n _, .int _ k => if 0 ≤ k ∧ k < n then some (.pointer (some (a.add (k.toNat * sz)))) else none
  | _, _ => none
def vIxArr (n sz : Nat) (v i : Value) : Option Value :=
  match v, i with
  | .pointer (some a), .int _ k => if 0 ≤ k ∧ k < n then some (.pointer (some (a.add (k.toNat * sz)))) else none
  | _, _ => none
def vFa (off : Nat) (v : Value) : Option Value :=
  match v with
  | .pointer (some a) => some (.pointer (some (a.add off)))
  | _ => none
def vFld (agg : Bool) (sz off : Nat) (v : Value) : Option Value :=
  match v with
  | .agg cs => match agg with
    | true => some (.agg (cs.extract off (off + sz)))
    | false => cs[off]?
  | _ => none
def vIndexS (s i : Value) : Option Value :=
  match s, i with
  | .string s, .int _ k => if 0 ≤ k then (s[k.toNat]?).map fun b => .int .u8 b.toNat else none
  | _, _ => none
def vIndexA (n : Nat) (agg : Bool) (sz : Nat) (v i : Value) : Option Value :=
  match v, i with
  | .agg cs, .int _ k => if 0 ≤ k ∧ k < n then (match agg with
    | true => some (.agg (cs.extract (k.toNat * sz) (k.toNat * sz + sz)))
    | false => cs[k.toNat * sz]?) else none
  | _, _ => none
def bnd (x : Option Value) (y dflt : Nat) : Option Nat :=
  match x with
  | none => some dflt
  | some (.int _ i) => if 0 ≤ i ∧ i ≤ y then some i.toNat else none
  | some _ => none
def vSl (sz : Nat) (v : Value) (lo hi : Option Value) : Option Value :=
  match v with
  | .slice a len cap =>
    match bnd hi cap len with
    | some h =>
      match bnd lo h 0 with
      | some l => some (.slice (if cap = l then a else a.map (·.add (l * sz))) (h - l) (cap - l))
      | none => none
    | none => none
  | _ => none
def vSl3 (sz : Nat) (v : Value) (lo hi mx : Option Value) : Option Value :=
  match v with
  | .slice a len cap =>
    match mx with
    | none => vSl sz (.slice a len cap) lo hi
    | some _ =>
      match bnd mx cap cap with
      | some m =>
        match hi with
        | none => none
        | some _ => match bnd hi m m with
          | some h =>
            match bnd lo h 0 with
            | some l => some (.slice (if m = l then a else a.map (·.add (l * sz))) (h - l) (m - l))
            | none => none
          | none => none
      | none => none
  | _ => none
def vSlS (v : Value) (lo hi : Option Value) : Option Value :=
  match v with
  | .string s =>
    match bnd hi s.size s.size with
    | some h =>
      match bnd lo h 0 with
      | some l => some (.string (s.extract l h))
      | none => none
    | none => none
  | _ => none
def vSlA (n sz : Nat) (v : Value) (lo hi : Option Value) : Option Value :=
  match v with
  | .pointer (some a) =>
    match bnd hi n n with
    | some h =>
      match bnd lo h 0 with
      | some l => some (.slice (some (if n = l then a else a.add (l * sz))) (h - l) (n - l))
      | none => none
    | none => none
  | _ => none
def vInt (op : BinOp) (v w : Value) : Option Value :=
  match v, w with
  | .int k a, .int k' b =>
    match op with
    | .add => if k = k' then some (.int k (k.wrap (a + b))) else none
    | .sub => if k = k' then some (.int k (k.wrap (a - b))) else none
    | .mul => if k = k' then some (.int k (k.wrap (a * b))) else none
    | .quo => if k = k' ∧ b ≠ 0 then some (.int k (k.wrap (a.tdiv b))) else none
    | .rem => if k = k' ∧ b ≠ 0 then some (.int k (a.tmod b)) else none
    | .and => if k = k' then some (.int k (k.wrap (BitVec.ofInt k.bits a &&& BitVec.ofInt k.bits b).toNat)) else none
    | .or => if k = k' then some (.int k (k.wrap (BitVec.ofInt k.bits a ||| BitVec.ofInt k.bits b).toNat)) else none
    | .xor => if k = k' then some (.int k (k.wrap (BitVec.ofInt k.bits a ^^^ BitVec.ofInt k.bits b).toNat)) else none
    | .andNot => if k = k' then some (.int k (k.wrap (BitVec.ofInt k.bits a &&& ~~~(BitVec.ofInt k.bits b)).toNat)) else none
    | .shl => if 0 ≤ b then some (.int k (k.wrap (a * 2 ^ (min b.toNat k.bits)))) else none
    | .shr => if 0 ≤ b then some (.int k (a.fdiv (2 ^ (min b.toNat k.bits)))) else none
    | .eql => if k = k' then some (.bool (a == b)) else none
    | .neq => if k = k' then some (.bool (a != b)) else none
    | .lss => if k = k' then some (.bool (decide (a < b))) else none
    | .leq => if k = k' then some (.bool (decide (a ≤ b))) else none
    | .gtr => if k = k' then some (.bool (decide (a > b))) else none
    | .geq => if k = k' then some (.bool (decide (a ≥ b))) else none
  | _, _ => none
def vStr (op : BinOp) (v w : Value) : Option Value :=
  match v, w with
  | .string x, .string y =>
    match op with
    | .add => if ((x.size + y.size : Nat) : Int) ≤ IntKind.i64.max then some (.string (x ++ y)) else none
    | .eql => some (.bool (x.toList == y.toList))
    | .neq => some (.bool (!(x.toList == y.toList)))
    | .lss => some (.bool (Op.bytesLess x.toList y.toList))
    | .leq => some (.bool (Op.bytesLess x.toList y.toList || x.toList == y.toList))
    | .gtr => some (.bool (!(Op.bytesLess x.toList y.toList || x.toList == y.toList)))
    | .geq => some (.bool (!(Op.bytesLess x.toList y.toList)))
    | _ => none
  | _, _ => none
def vBool (op : BinOp) (v w : Value) : Option Value :=
  match v, w with
  | .bool a, .bool b =>
    match op with
    | .eql => some (.bool (a == b))
    | .neq => some (.bool (!(a == b)))
    | _ => none
  | _, _ => none
def vFcmp (op : BinOp) (v w : Value) : Option Value :=
  match v, w with
  | .float k x, .float k' y =>
    if k = k' then
      match op with
      | .eql => some (.bool (k.format.order x y == some .eq))
      | .neq => some (.bool (k.format.order x y != some .eq))
      | .lss => some (.bool (k.format.order x y == some .lt))
      | .leq => some (.bool (k.format.order x y == some .lt || k.format.order x y == some .eq))
      | .gtr => some (.bool (k.format.order x y == some .gt))
      | .geq => some (.bool (k.format.order x y == some .gt || k.format.order x y == some .eq))
      | _ => none
    else none
  | _, _ => none
def vSlEq (op : BinOp) (v w : Value) : Option Value :=
  match v, w with
  | .slice a _ _, .slice none _ _ =>
    match op with
    | .eql => some (.bool a.isNone)
    | .neq => some (.bool (!a.isNone))
    | _ => none
  | _, _ => none
def vUn (op : UnOp) (v : Value) : Option Value :=
  match op, v with
  | .neg, .int k n => some (.int k (k.wrap (0 - n)))
  | .xor, .int k n => some (.int k (k.wrap (BitVec.ofInt k.bits (if k.signed then -1 else k.max) ^^^ BitVec.ofInt k.bits n).toNat))
  | .neg, .float k b => some (.float k (Op.negFloat k b))
  | .not, .bool b => some (.bool !b)
  | _, _ => none
def vCI (k : IntKind) (v : Value) : Option Value :=
  match v with
  | .int _ n => some (.int k (k.wrap n))
  | _ => none
def vCF (k : FloatKind) (v : Value) : Option Value :=
  match v with
  | .int _ n => some (.float k (k.nearest n))
  | _ => none
def vLenSl (v : Value) : Option Value :=
  match v with
  | .slice _ n _ => some (.int .i64 n)
  | _ => none
def vLenS (v : Value) : Option Value :=
  match v with
  | .string s => some (.int .i64 s.size)
  | _ => none
def vExt (v : Value) (i : Nat) : Option Value :=
  match v with
  | .tuple vs => vs[i]?
  | _ => none
def vBuild (places : List (Nat × Nat)) (zero : Value) (parts : List (Nat × Value)) : Option Value :=
  (Instr.fill (places[·]?) zero.cells parts).map .agg
def vNilC (v : Value) : Option Value :=
  match v with
  | .pointer (some a) => some (.pointer (some a))
  | .slice a n c => some (.slice a n c)
  | .map r => some (.map r)
  | .func (.func f) a b => some (.func (.func f) a b)
  | .iface t v => some (.iface t v)
  | _ => none

/-- A struct's fields' places, where none is of size 0. -/
def placesO (P : Program) : List Field → Option (List (Nat × Nat))
  | [] => some []
  | f :: r =>
    match szO P f.type, placesO P r with
    | some n, some l => some ((f.offset, n) :: l)
    | _, _ => none
def fieldO (P : Program) (s : TypeId) (i : Nat) : Option Field :=
  match P.underlying s with
  | some (.struct fs) => fs[i]?
  | _ => none

def isD (P : Program) (o : Oper) : Bool :=
  match o.op with
  | .move _ | .assign _ | .pick .. | .load .. | .unOp .. | .fieldAddr .. | .field .. | .indexAddr .. | .index .. | .slice .. | .extract .. | .nilCheck _ | .makeFunc .. | .makeInterface .. => true
  | .build t _ => (match P.underlying t with | some (.struct _) => true | _ => false)
  | .binOp op t _ _ _ =>
    (match P.underlying t with
    | some (.float _) => (match op with | .eql | .neq | .lss | .leq | .gtr | .geq => true | _ => false)
    | _ => true)
  | .convert s d _ =>
    (match P.underlying s, P.underlying d with
    | some (.int _), some (.int _) | some (.int _), some (.float _) | some (.slice _), some .string | some .string, some .string => true
    | _, _ => false)
  | .call { callee := .builtin .len, .. } => true
  | .call { callee := .builtin .cap, argTypes, .. } => (match argTypes[0]? with | some t => (match P.underlying t with | some (.slice _) => true | _ => false) | none => false)
  | .call { callee := .builtin .max, argTypes, .. } | .call { callee := .builtin .min, argTypes, .. } => (match argTypes[0]? with | some t => (match P.underlying t with | some (.int _) => true | _ => false) | none => false)
  | _ => false
def vCapSl (v : Value) : Option Value :=
  match v with
  | .slice _ _ c => some (.int .i64 c)
  | _ => none
/-- the greatest or the least of whole numbers -/
def vMx (b : Bool) : Value → List Value → Option Value
  | x, [] => some x
  | .int k x, .int _ y :: r => vMx b (.int k (match b with | true => if y > x then y else x | false => if y < x then y else x)) r
  | _, _ => none

def dval (P : Program) (o : Oper) (σ : S) (H : Hp) : Option Value :=
  match o.op with
  | .move x | .assign x => some (evs σ x)
  | .pick c a b => vPick (evs σ c) (evs σ a) (evs σ b)
  | .load t a =>
    (match aggB P t with
    | some true => (match szO P t with | some n => vLoadN n (evs σ a) H | none => none)
    | some false => vLoad (evs σ a) H
    | none => none)
  | .unOp op _ x => vUn op (evs σ x)
  | .fieldAddr s x i =>
    (match fieldO P s i with
    | some f => (match szO P f.type with
      | some (_ + 1) => vFa f.offset (evs σ x)
      | _ => none)
    | none => none)
  | .field s x i =>
    (match fieldO P s i with
    | some f => (match aggB P f.type, szO P f.type with
      | some b, some n => vFld b n f.offset (evs σ x)
      | _, _ => none)
    | none => none)
  | .indexAddr t x i =>
    (match P.underlying t with
    | some (.slice e) => (match szO P e with | some n => vIx n (evs σ x) (evs σ i) | none => none)
    | some (.array m e) => (match szO P e with | some n => vIxArr m n (evs σ x) (evs σ i) | none => none)
    | _ => none)
  | .index t x i =>
    (match P.underlying t with
    | some .string => vIndexS (evs σ x) (evs σ i)
    | some (.array m e) => (match aggB P e, szO P e with | some b, some n => vIndexA m b n (evs σ x) (evs σ i) | _, _ => none)
    | _ => none)
  | .slice t x lo hi mx =>
    (match P.underlying t with
    | some (.slice e) => (match szO P e with | some n => vSl3 n (evs σ x) (lo.map (evs σ)) (hi.map (evs σ)) (mx.map (evs σ)) | none => none)
    | some .string => (match mx with | none => vSlS (evs σ x) (lo.map (evs σ)) (hi.map (evs σ)) | some _ => none)
    | some (.array m e) => (match mx, szO P e with | none, some n => vSlA m n (evs σ x) (lo.map (evs σ)) (hi.map (evs σ)) | _, _ => none)
    | _ => none)
  | .extract x i => vExt (evs σ x) i
  | .nilCheck x => vNilC (evs σ x)
  | .makeFunc fn first captured => some (.func fn (first.toList.map (evs σ)).toArray (captured.toList.map (evs σ)).toArray)
  | .makeInterface t x => val P (Instr.makeInterface t (evs σ x)) H
  | .build t parts =>
    (match P.underlying t with
    | some (.struct fs) => (match zeroO P t, placesO P fs.toList with
      | some z, some pl => vBuild pl z (parts.toList.map fun p => (p.1, evs σ p.2))
      | _, _ => none)
    | _ => none)
  | .binOp op t x y _ =>
    (match P.underlying t with
    | some (.int _) => vInt op (evs σ x) (evs σ y)
    | some .string => vStr op (evs σ x) (evs σ y)
    | some .bool => vBool op (evs σ x) (evs σ y)
    | some (.float _) => vFcmp op (evs σ x) (evs σ y)
    | some (.slice _) => vSlEq op (evs σ x) (evs σ y)
    | _ => val P (do eqGuard op t x y (evs σ x) (evs σ y); binOp op t (evs σ x) (evs σ y)) H)
  | .convert s d x =>
    (match P.underlying s, P.underlying d with
    | some (.int _), some (.int k) => vCI k (evs σ x)
    | some (.int _), some (.float k) => vCF k (evs σ x)
    | _, _ => val P (convert s d (evs σ x)) H)
  | .call { callee := .builtin .len, args, argTypes } =>
    (match argTypes[0]?, args[0]? with
    | some t, some x => (match P.underlying t with
      | some (.slice _) => vLenSl (evs σ x)
      | some .string => vLenS (evs σ x)
      | _ => val P (Builtin.len_ argTypes o.type (args.toList.map (evs σ)).toArray) H)
    | _, _ => none)
  | .call { callee := .builtin .cap, args, .. } => (match args[0]? with | some x => vCapSl (evs σ x) | none => none)
  | .call { callee := .builtin .max, args, .. } => (match args.toList.map (evs σ) with | x :: r => vMx true x r | [] => none)
  | .call { callee := .builtin .min, args, .. } => (match args.toList.map (evs σ) with | x :: r => vMx false x r | [] => none)
  | _ => none
end Go.Proofs.YtijmoehbgkibnaaGreatDoor.HL
