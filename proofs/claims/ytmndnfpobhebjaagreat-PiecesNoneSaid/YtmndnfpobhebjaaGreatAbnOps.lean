/- The operations on abstract values and heaps. -/
import Derived.Test.YtmndnfpobhebjaaGreatAbnRel
namespace Go.Abs

/-- What is asked of a type. -/
inductive AD where
  | bool
  | int (k : IntKind)
  | str
  | ptr (e : TypeId)
  | slice (e : TypeId)
  | arr (n : Nat) (e : TypeId)
  | struct (fs : List (Bool × Nat × TypeId))
  | map (k e : TypeId)
  | func
  | iface
  | other
structure AT where
  d : AD
  size : Nat
  bytes : Nat
  zero : List AV
  eqOk : Bool := true
abbrev TT := TypeId → AT

def AD.isAgg : AD → Bool
  | .arr .. | .struct .. => true
  | _ => false

def AD.known : AD → Bool
  | .other => false
  | _ => true
def AD.subs : AD → List TypeId
  | .slice e | .arr _ e => [e]
  | .struct fs => fs.map (·.2.2)
  | .map k e => [k, e]
  | _ => []

/-- Constants. -/
def cvCell : Value → Option AV
  | .bool b => some (.bool b)
  | .int k n => some (.int k n)
  | .string s => some (.str s.data.toList)
  | .pointer none => some .nilptr
  | .slice none 0 0 => some (.lit true true [] 0)
  | .map none => some .nilmap
  | .nilIface => some .nilif
  | .nilFunc => some .nilfn
  | _ => none
def cv : Value → Option AV
  | .tuple vs => if vs.size = 0 then some (.tup []) else none
  | .agg cs => (cs.toList.mapM cvCell).map .agg
  | v => cvCell v

/-- An operand's value; `G`: what package-level variables hold. -/
def aval (G : Nat → Option (List AV)) (fr : List AV) : Operand → Option AV
  | .tmp t => some (fr.getD t (.tup []))
  | .const v => cv v
  | .global g => (G g).map (.lptr · 0)
  | .func f => some (.fn f [] [])

/-- A part of a struct or an array. -/
def apart (T : TT) (t : TypeId) (cs : List AV) (off : Nat) : Option AV :=
  if (T t).d.known then (if (T t).d.isAgg then (if off + (T t).size ≤ cs.length then some (.agg ((cs.drop off).take (T t).size)) else none) else cs[off]?) else none

def allM {α : Type} (f : α → Option Bool) : List α → Option Bool
  | [] => some true
  | a :: r => match f a with
    | some true => allM f r
    | o => o

/-- '=='. -/
def aeq (T : TT) : Nat → TypeId → AV → AV → Option Bool
  | 0, _, _, _ => none
  | d + 1, t, x, y => match (T t).d, x, y with
    | .bool, .bool a, .bool b => some (a == b)
    | .int _, .int k a, .int k' b => if k = k' then some (a == b) else none
    | .str, .str a, .str b => some (a == b)
    | .ptr _, .nilptr, .nilptr => some true
    | .ptr _, .nilptr, .ptr _ _ | .ptr _, .ptr _ _, .nilptr => some false
    | .slice _, .lit nl _ _ _, .lit true _ _ _ => some nl
    | .slice _, .own _ _ nl _ _ _, .lit true _ _ _ => some nl
    | .slice _, .ref _ _ _ _ _, .lit true _ _ _ => some false
    | .map _ _, .nilmap, .nilmap => some true
    | .map _ _, .map _, .nilmap => some false
    | .func, .nilfn, .nilfn => some true
    | .func, .fn _ _ _, .nilfn => some false
    | .struct fs, .agg xs, .agg ys => if (T t).eqOk then allM (fun f => if f.1 then some true else
        match apart T f.2.2 xs f.2.1, apart T f.2.2 ys f.2.1 with
        | some a, some b => aeq T d f.2.2 a b
        | _, _ => none) fs else none
    | .arr n e, .agg xs, .agg ys => if (T t).eqOk then allM (fun i => match apart T e xs (i * (T e).size), apart T e ys (i * (T e).size) with
        | some a, some b => aeq T d e a b
        | _, _ => none) (List.range n) else none
    | _, _, _ => none

/-- '<=', told so that it can be run where a number is told in part. -/
def ile : Int → Int → Bool
  | .ofNat a, .ofNat b => Nat.ble a b
  | .negSucc _, .ofNat _ => true
  | .ofNat _, .negSucc _ => false
  | .negSucc a, .negSucc b => Nat.ble b a
theorem ile_eq (a b : Int) : ile a b = decide (a ≤ b) := by
  cases a <;> cases b <;> simp only [ile]
  · rename_i m n
    rw [Bool.eq_iff_iff]
    simp [Nat.ble_eq]
  · symm; simp; omega
  · symm; simp; omega
  · rename_i m n
    rw [Bool.eq_iff_iff]
    simp only [Nat.ble_eq, decide_eq_true_eq]
    omega
theorem ige_eq (a b : Int) : ile b a = decide (a ≥ b) := ile_eq b a
theorem dle_not (a b : Int) : (!decide (b ≤ a)) = decide (a < b) := by
  rw [Bool.eq_iff_iff]
  simp
def aarith (op : BinOp) (k : IntKind) (a b : Int) : Option AV :=
  match op with
  | .add => some (.int k (k.wrap (a + b)))
  | .sub => some (.int k (k.wrap (a - b)))
  | .mul => some (.int k (k.wrap (a * b)))
  | .quo => if b = 0 then none else some (.int k (k.wrap (a.tdiv b)))
  | .rem => if b = 0 then none else some (.int k (a.tmod b))
  | .and => some (.int k (k.wrap (BitVec.ofInt k.bits a &&& BitVec.ofInt k.bits b).toNat))
  | .or => some (.int k (k.wrap (BitVec.ofInt k.bits a ||| BitVec.ofInt k.bits b).toNat))
  | .xor => some (.int k (k.wrap (BitVec.ofInt k.bits a ^^^ BitVec.ofInt k.bits b).toNat))
  | .andNot => some (.int k (k.wrap (BitVec.ofInt k.bits a &&& ~~~ BitVec.ofInt k.bits b).toNat))
  | .eql => some (.bool (a == b))
  | .neq => some (.bool (a != b))
  | .lss => some (.bool (!ile b a))
  | .leq => some (.bool (ile a b))
  | .gtr => some (.bool (!ile a b))
  | .geq => some (.bool (ile b a))
  | _ => none

def ashift (op : BinOp) (k : IntKind) (a b : Int) : Option AV :=
  if b < 0 then none else match op with
  | .shl => some (.int k (k.wrap (a * 2 ^ min b.toNat k.bits)))
  | .shr => some (.int k (a.fdiv (2 ^ min b.toNat k.bits)))
  | _ => none

def astr (op : BinOp) (a b : List UInt8) : Option AV :=
  match op with
  | .add => if a.length + b.length ≤ 9223372036854775807 then some (.str (a ++ b)) else none
  | .eql => some (.bool (a == b))
  | .neq => some (.bool (!(a == b)))
  | .lss => some (.bool (Op.bytesLess a b))
  | .leq => some (.bool (Op.bytesLess a b || a == b))
  | .gtr => some (.bool (!(Op.bytesLess a b || a == b)))
  | .geq => some (.bool (!Op.bytesLess a b))
  | _ => none

def abin (T : TT) (op : BinOp) (t : TypeId) (x y : AV) : Option AV :=
  match x, y with
  | .int k a, .int k' b => match op with
    | .shl | .shr => ashift op k a b
    | _ => if k = k' then aarith op k a b else none
  | .str a, .str b => astr op a b
  | x, y => match op with
    | .eql => (aeq T 10000 t x y).map .bool
    | .neq => (aeq T 10000 t x y).map fun b => .bool (!b)
    | _ => none

def aun (op : UnOp) (x : AV) : Option AV :=
  match op, x with
  | .neg, .int k n => some (.int k (k.wrap (0 - n)))
  | .xor, .int k n => some (.int k (k.wrap (BitVec.ofInt k.bits (if k.signed then -1 else k.max) ^^^ BitVec.ofInt k.bits n).toNat))
  | .not, .bool b => some (.bool !b)
  | _, _ => none

/-- The first n cells behind a slice or in a string. -/
def acells (H : AH) (n : Nat) : AV → Option (List AV)
  | .lit _ _ cs _ | .own _ _ _ cs _ _ => if n ≤ cs.length then some (cs.take n) else none
  | .ref _ l off _ _ => match H[l]? with
    | some (.cells cs) => if off + n ≤ cs.length then some ((cs.drop off).take n) else none
    | _ => none
  | .str s => if n ≤ s.length then some ((s.take n).map fun b => .int .u8 b.toNat) else none
  | _ => none

def alen : AV → Option Nat
  | .lit _ _ _ n => some n
  | .own _ _ _ _ n _ => some n
  | .ref _ _ _ n _ => some n
  | .str s => some s.length
  | _ => none

def aload (T : TT) (H : AH) (t : TypeId) : AV → Option AV
  | .ptr l off => match H[l]? with
    | some (.cells cs) => apart T t cs off
    | _ => none
  | .lptr cs off => apart T t cs off
  | _ => none

/-- Cells put into a row from a place on. -/
def splice (cs : List AV) (off : Nat) (vs : List AV) : List AV := cs.take off ++ vs ++ cs.drop (off + vs.length)

def awrite (H : AH) (l off : Nat) (vs : List AV) : Option AH :=
  match H[l]? with
  | some (.cells cs) => if off + vs.length ≤ cs.length then some (H.set l (.cells (splice cs off vs))) else none
  | _ => none

/-- A value's cells, if each is one. -/
def acell : AV → Option (List AV)
  | .agg cs => some cs
  | .tup _ | .any => none
  | v => some [v]

def astore (T : TT) (H : AH) (t : TypeId) (p v : AV) : Option AH :=
  match p, acell v with
  | .ptr l off, some vs => if (T t).d.known ∧ vs.length = (T t).size then awrite H l off vs else none
  | _, _ => none

def afill (places : Nat → Option (Nat × Nat)) : List AV → List (Nat × AV) → Option (List AV)
  | cs, [] => some cs
  | cs, (i, v) :: rest => match places i, acell v with
    | some (off, size), some vs => if vs.length = size ∧ off + vs.length ≤ cs.length then afill places (splice cs off vs) rest else none
    | _, _ => none

/-- A bound as a slice expression reads it. -/
def numOf (v : AV) : Option Nat := match v with | .int _ n => if 0 ≤ n then some n.toNat else none | _ => none
def boundOf (v : Option AV) (d : Nat) : Option Nat := match v with | some v => numOf v | none => some d

/-- A slice from place to place. -/
def aslice (T : TT) (H : AH) (t : TypeId) (x : AV) (lo hi mx : Option AV) : Option AV :=
  match (T t).d, x with
  | .str, .str s => match mx, boundOf lo 0, boundOf hi s.length with
    | none, some l, some h => if l ≤ h ∧ h ≤ s.length then some (.str ((s.take h).drop l)) else none
    | _, _, _ => none
  | .slice e, .lit nl ex cs len => match boundOf lo 0, boundOf hi len, boundOf mx len with
    | some l, some h, some m => if l ≤ h ∧ h ≤ m ∧ m ≤ len ∧ h * (T e).size ≤ cs.length ∧ (mx.isSome = true → hi.isSome = true) then
        some (.lit nl (if mx.isSome then m == h else ex && h == len) ((cs.take (h * (T e).size)).drop (l * (T e).size)) (h - l)) else none
    | _, _, _ => none
  | .slice e, .own _ _ nl cs len _ => match boundOf lo 0, boundOf hi len, boundOf mx len with
    | some l, some h, some m => if l ≤ h ∧ h ≤ m ∧ m ≤ len ∧ h * (T e).size ≤ cs.length ∧ (mx.isSome = true → hi.isSome = true) then
        some (.lit nl (if mx.isSome then m == h else false && h == len) ((cs.take (h * (T e).size)).drop (l * (T e).size)) (h - l)) else none
    | _, _, _ => none
  | .slice e, .ref ex b off len sz => match boundOf lo 0, boundOf hi len, boundOf mx len with
    | some l, some h, some m => if l ≤ h ∧ h ≤ m ∧ m ≤ len ∧ (T e).size = sz ∧ (mx.isSome = true → hi.isSome = true) then
        some (.ref (if mx.isSome then m == h else ex && h == len) b (off + l * sz) (h - l) sz) else none
    | _, _, _ => none
  | .arr n e, .ptr b off => match H[b]?, boundOf lo 0, boundOf hi n, mx with
    | some (.cells cs), some l, some h, none => if off + n * (T e).size ≤ cs.length ∧ n ≤ maxLen ∧ l ≤ h ∧ h ≤ n then some (.ref (h == n) b (off + l * (T e).size) (h - l) (T e).size) else none
    | _, _, _, _ => none
  | _, _ => none

def aindexAddr (T : TT) (t : TypeId) (x i : AV) : Option AV :=
  match i with
  | .int _ i => match (T t).d, x with
    | .slice e, .ref _ l off len sz => if (T e).size = sz ∧ 0 ≤ i ∧ i < len then some (.ptr l (off + i.toNat * sz)) else none
    | .slice e, .lit _ _ cs len | .slice e, .own _ _ _ cs len _ => if 0 ≤ i ∧ i < len ∧ len * (T e).size ≤ cs.length ∧ 0 < (T e).size then some (.lptr cs (i.toNat * (T e).size)) else none
    | .arr n e, .ptr l off => if 0 ≤ i ∧ i < n then some (.ptr l (off + i.toNat * (T e).size)) else none
    | .arr n e, .lptr cs off => if 0 ≤ i ∧ i < n then some (.lptr cs (off + i.toNat * (T e).size)) else none
    | _, _ => none
  | _ => none

def aindex (T : TT) (t : TypeId) (x i : AV) : Option AV :=
  match i with
  | .int _ i => match (T t).d, x with
    | .str, .str s => if 0 ≤ i then (s[i.toNat]?).map fun b => .int .u8 b.toNat else none
    | .arr n e, .agg cs => if 0 ≤ i ∧ i < n then apart T e cs (i.toNat * (T e).size) else none
    | _, _ => none
  | _ => none

def byteOf? : AV → Option UInt8
  | .int .u8 n => some (UInt8.ofNat n.toNat)
  | _ => none

def aconvert (T : TT) (H : AH) (src dst : TypeId) (x : AV) : Option (AV × AH) :=
  if (T src).d.known then match (T dst).d, x with
  | .int k, .int _ n => some (.int k (k.wrap n), H)
  | .str, .str s => some (.str s, H)
  | .slice e, .str s => match (T e).d with
    | .int .u8 => if s.length ≤ maxLen then some (.ref false H.length 0 s.length 1, H ++ [.cells (s.map fun b => .int .u8 b.toNat)]) else none
    | _ => none
  | .str, x => match (T src).d, alen x with
    | .slice e, some n => match (T e).d, acells H (n * 1) x with
      | .int .u8, some cs => (cs.mapM byteOf?).map fun s => (.str s, H)
      | _, _ => none
    | _, _ => none
  | _, _ => none
  else none

/-- May be appended, copied from: a string's bytes to a slice of one-cell elements alone. -/
def feeds (sz : Nat) : AV → Bool
  | .str _ => sz == 1
  | _ => true
def notStr : AV → Bool
  | .str _ => false
  | _ => true
def AD.row : AD → Bool
  | .slice _ | .str => true
  | _ => false

/-- Whether so many more may be appended. -/
def fitsMore (T : TT) (e : TypeId) (n m : Nat) : Prop := 0 < (T e).size ∧ n + m ≤ maxLen ∧ (n + m) * (T e).bytes ≤ 140737488355328
instance {T : TT} {e : TypeId} {n m : Nat} : Decidable (fitsMore T e n m) := inferInstanceAs (Decidable (_ ∧ _))
/-- A room is there, of just that version. -/
def roomAt (H : AH) (l ver : Nat) : Option Bool := match H[l]? with
  | some (.room v real) => if v = ver then some real else none
  | _ => none
/-- 'append'. -/
def aappend (T : TT) (H : AH) (sT xT : TypeId) (s x : AV) : Option (AV × AH) :=
  match (T sT).d with
  | .slice e => if (T xT).d.row ∧ feeds (T e).size x ∧ notStr s then match s with
    | .own l ver nl cs n sz => match alen x with
      | some m => match acells H (m * (T e).size) x, roomAt H l ver with
        | some new, some real => if fitsMore T e n m ∧ sz = (T e).size then
            some (.own l (ver + 1) (nl && m == 0) (cs ++ new) (n + m) sz, H.set l (.room (ver + 1) (real || !(m == 0)))) else none
        | _, _ => none
      | none => none
    | s => match alen s, alen x with
      | some n, some m => match acells H (n * (T e).size) s, acells H (m * (T e).size) x with
        | some old, some new =>
          if m = 0 then some (s, H) else
          if fitsMore T e n m then
            match s with
            | .lit _ true _ _ => some (.ref false H.length 0 (n + m) (T e).size, H ++ [.cells (old ++ new)])
            | .ref true _ _ _ sz => if sz = (T e).size then some (.ref false H.length 0 (n + m) (T e).size, H ++ [.cells (old ++ new)]) else none
            | .ref false l _ _ sz => if sz = (T e).size then some (.ref false H.length 0 (n + m) (T e).size, H.set l .dead ++ [.cells (old ++ new)]) else none
            | _ => none
          else none
        | _, _ => none
      | _, _ => none
    else none
  | _ => none
/-- 'append' to what has no spare room, whose cells are never written to; own: with room of its own. -/
def aappendF (T : TT) (H : AH) (own : Bool) (sT xT : TypeId) (s x : AV) : Option (AV × AH) :=
  match (T sT).d with
  | .slice e => if (T xT).d.row ∧ feeds (T e).size x then match s, alen x with
    | .lit nl true cs n, some m => match acells H (m * (T e).size) x with
      | some new => if fitsMore T e n m ∧ cs.length = n * (T e).size then
          (if own then some (.own H.length 1 (nl && m == 0) (cs ++ new) (n + m) (T e).size, H ++ [.room 1 (!(m == 0))])
          else some (.lit (nl && m == 0) (m == 0) (cs ++ new) (n + m), H)) else none
      | none => none
    | _, _ => none
    else none
  | _ => none

def acopy (T : TT) (H : AH) (dT : TypeId) (d x : AV) : Option (AV × AH) :=
  match (T dT).d with
  | .slice e => if feeds (T e).size x ∧ notStr d then match alen d, alen x with
    | some n, some m => match acells H (min m n * (T e).size) x with
      | some new => match d with
        | .ref _ l off _ sz => if sz = (T e).size then (awrite H l off new).map fun H' => (.int .i64 (min m n : Nat), H') else none
        | _ => if min m n = 0 then some (.int .i64 0, H) else none
      | none => none
    | _, _ => none
    else none
  | _ => none

def amake (T : TT) (H : AH) (t : TypeId) (n c : AV) : Option (AV × AH) :=
  match (T t).d, n, c with
  | .slice e, .int .i64 n, .int .i64 c => if 0 ≤ n ∧ n ≤ c ∧ c * (T e).bytes ≤ 140737488355328 ∧ c ≤ maxLen ∧ 0 < (T e).size then
      some (.ref (n == c) H.length 0 n.toNat (T e).size, H ++ [.cells (List.replicate n.toNat (T e).zero).flatten]) else none
  | _, _, _ => none

/-- A string's bytes, never written to, with room of their own. -/
def aconvertF (T : TT) (H : AH) (src dst : TypeId) (x : AV) : Option (AV × AH) :=
  if (T src).d.known then match (T dst).d, x with
  | .slice e, .str s => match (T e).d with
    | .int .u8 => if s.length ≤ maxLen ∧ (T e).size = 1 then some (.own H.length 1 false (s.map fun b => .int .u8 b.toNat) s.length 1, H ++ [.room 1 true]) else none
    | _ => none
  | _, _ => none
  else none
/-- 'make', with room of its own. -/
def amakeF (T : TT) (H : AH) (t : TypeId) (n c : AV) : Option (AV × AH) :=
  match (T t).d, n, c with
  | .slice e, .int .i64 n, .int .i64 c => if 0 ≤ n ∧ n ≤ c ∧ c * (T e).bytes ≤ 140737488355328 ∧ c ≤ maxLen ∧ 0 < (T e).size then
      some (.own H.length 1 false (List.replicate n.toNat (T e).zero).flatten n.toNat (T e).size, H ++ [.room 1 true]) else none
  | _, _, _ => none
end Go.Abs
