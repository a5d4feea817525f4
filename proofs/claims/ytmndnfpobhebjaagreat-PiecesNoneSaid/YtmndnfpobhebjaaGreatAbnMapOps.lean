/- Maps: what a key finds, what is put, what is taken away. -/
import Derived.Test.YtmndnfpobhebjaaGreatAbnOps
namespace Go.Abs
def flatv : AV → Bool
  | .bool _ | .int _ _ | .str _ => true
  | _ => false
def flatEq : AV → AV → Bool
  | .bool a, .bool b => a == b
  | .int j a, .int k b => j == k && a == b
  | .str a, .str b => a == b
  | _, _ => false
def flatsEq : List AV → List AV → Bool
  | [], [] => true
  | a :: as, b :: bs => flatEq a b && flatsEq as bs
  | _, _ => false
/-- The very same key, told by its bits alone. -/
def keySame : AV → AV → Bool
  | .agg a, .agg b => flatsEq a b
  | a, b => flatEq a b
/-- A type of keys that can be asked without more ado. -/
def keyOk (T : TT) (k : TypeId) : Bool :=
  match (T k).d with
  | .bool | .int _ | .str => true
  | .struct fs => fs.all fun f => match (T f.2.2).d with
    | .bool | .int _ | .str => true
    | _ => false
  | _ => false
/-- The parts of a key of a struct's type are there. -/
def keyFits (T : TT) (k : TypeId) (v : AV) : Bool :=
  match (T k).d, v with
  | .struct fs, .agg cs => fs.all fun f => f.1 || (apart T f.2.2 cs f.2.1).isSome
  | .struct _, _ => false
  | _, _ => true
def afind (T : TT) (k : TypeId) (key : AV) : List (AV × AV) → Nat → Option (Option (Nat × AV × AV))
  | [], _ => some none
  | e :: es, i => match aeq T 10000 k key e.1 with
    | some true => some (some (i, e.1, e.2))
    | some false => afind T k key es (i + 1)
    | none => none
def amap (H : AH) (l : Nat) : Option (List (AV × AV) × List Nat × Nat) := match H[l]? with
  | some (.map es bs clock) => some (es, bs, clock)
  | _ => none
def aentries (H : AH) : AV → Option (List (AV × AV))
  | .nilmap => some []
  | .map l => (amap H l).map (·.1)
  | _ => none
def azero (T : TT) (e : TypeId) : Option AV :=
  if (T e).d.known then (if (T e).d.isAgg then some (.agg (T e).zero) else match (T e).zero with
    | [z] => some z
    | _ => none) else none
def afound (T : TT) (H : AH) (t : TypeId) (x key : AV) : Option (Option (Nat × AV × AV)) :=
  match (T t).d, aentries H x with
  | .map k _, some es => if keyOk T k && keyFits T k key then afind T k key es 0 else none
  | _, _ => none
def alookup (T : TT) (H : AH) (t : TypeId) (x key : AV) (ok : Bool) : Option AV :=
  match (T t).d, afound T H t x key with
  | .map _ _, some (some (_, _, v)) => some (if ok then .tup [v, .bool true] else v)
  | .map _ e, some none => (azero T e).map fun z => if ok then .tup [z, .bool false] else z
  | _, _ => none
def aupdate (T : TT) (H : AH) (t : TypeId) (x key v : AV) : Option AH :=
  match (T t).d, x with
  | .map _ _, .map l => match amap H l, afound T H t x key with
    | some (es, bs, clock), some (some (i, old, _)) => if keySame old key then some (H.set l (.map (es.set i (key, v)) bs clock)) else none
    | some (es, bs, clock), some none => some (H.set l (.map (es ++ [(key, v)]) (bs ++ [clock]) (clock + 1)))
    | _, _ => none
  | _, _ => none
def adelete (T : TT) (H : AH) (t : TypeId) (x key : AV) : Option AH :=
  match (T t).d, x with
  | .map k _, .nilmap => if keyOk T k && keyFits T k key then some H else none
  | .map _ _, .map l => match amap H l, afound T H t x key with
    | some (es, bs, clock), some (some (i, _, _)) => some (H.set l (.map (es.eraseIdx i) (bs.eraseIdx i) clock))
    | some _, some none => some H
    | _, _ => none
  | _, _ => none
def amaplen (H : AH) (x : AV) : Option AV := (aentries H x).map fun es => .int .i64 es.length
/-! ### loops over a map -/
def arange (T : TT) (H : AH) (t : TypeId) (x : AV) : Option (AV × AH) :=
  match (T t).d, x with
  | .map _ _, .nilmap => some (.ptr H.length 0, H ++ [.iter none 0 [] 0])
  | .map _ _, .map l => (amap H l).map fun m => (.ptr H.length 0, H ++ [.iter (some l) m.2.2 [] m.2.2])
  | _, _ => none
/-- Which entries are left; none: not to be told. -/
def aleft (H : AH) (p : Nat) : Option (List (AV × AV × Nat) × Option (Nat × Nat × List Nat × Nat)) :=
  match H[p]? with
  | some (.iter none _ _ _) => some ([], none)
  | some (.iter (some l) since seen last) => match amap H l with
    | some (es, bs, clock) => if bs.all (fun b => decide (b < since)) && decide (since ≤ last) && es.length == bs.length then
        some (((es.zip bs).filter fun e => !seen.contains e.2).map fun e => (e.1.1, e.1.2, e.2), some (l, since, seen, clock)) else none
    | none => none
  | _ => none
def aentry (H : AH) : AV → Option AV
  | .ptr p 0 => match H[p]? with
    | some (.iter (some l) _ seen stepped) => match amap H l, seen.getLast? with
      | some (es, bs, clock), some s => if clock = stepped ∧ es.length = bs.length then ((es.zip bs).find? fun e => e.2 == s).map fun e => .tup [e.1.1, e.1.2] else none
      | _, _ => none
    | _ => none
  | _ => none
end Go.Abs
