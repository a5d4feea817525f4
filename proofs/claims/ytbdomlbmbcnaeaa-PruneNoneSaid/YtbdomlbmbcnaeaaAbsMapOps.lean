/- Maps: what a key finds, what is put, what is taken away. -/
import Derived.Test.YtbdomlbmbcnaeaaAbsOps
namespace Go.Abs
def flatv : AV → Bool
  | .bool _ | .int _ _ | .str _ => true
  | _ => false
def flatEq : AV → AV → Bool
  | .bool a, .bool b => a == b
  | .int j a, .int k b => j == k && a == b
  | .str a, .str b => a == b
  | _, _ => false
def flatsEq : List AV → List AV → Bool
  | [], [] => true
  | a :: as, b :: bs => flatEq a b && flatsEq as bs
  | _, _ => false
/-- The very same key, told by its bits alone. -/
def keySame : AV → AV → Bool
  | .agg a, .agg b => flatsEq a b
  | a, b => flatEq a b
/-- A type of keys that can be asked without more ado. -/
def keyOk (T : TT) (k : TypeId) : Bool :=
  match (T k).d with
  | .bool | .int _ | .str => true
  | .struct fs => fs.all fun f => match (T f.2.2).d with
    | .bool | .int _ | .str => true
    | _ => false
  | _ => false
/-- The parts of a key of a struct's type are there. -/
def keyFits (T : TT) (k : TypeId) (v : AV) : Bool :=
  match (T k).d, v with
  | .struct fs, .agg cs => fs.all fun f => f.1 || (apart T f.2.2 cs f.2.1).isSome
  | .struct _, _ => false
  | _, _ => true
def afind (T : TT) (k : TypeId) (key : AV) : List (AV × AV) → Nat → Option (Option (Nat × AV × AV))
  | [], _ => some none
  | e :: es, i => match aeq T 10000 k key e.1 with
    | some true => some (some (i, e.1, e.2))
    | some false => afind T k key es (i + 1)
    | none => none
def aentries (H : AH) : AV → Option (List (AV × AV))
  | .nilmap => some []
  | .map l => match H[l]? with
    | some (.map es) => some es
    | _ => none
  | _ => none
def azero (T : TT) (e : TypeId) : Option AV :=
  if (T e).d.known then (if (T e).d.isAgg then some (.agg (T e).zero) else match (T e).zero with
    | [z] => some z
    | _ => none) else none
def afound (T : TT) (H : AH) (t : TypeId) (x key : AV) : Option (Option (Nat × AV × AV)) :=
  match (T t).d, aentries H x with
  | .map k _, some es => if keyOk T k && keyFits T k key then afind T k key es 0 else none
  | _, _ => none
def alookup (T : TT) (H : AH) (t : TypeId) (x key : AV) (ok : Bool) : Option AV :=
  match (T t).d, afound T H t x key with
  | .map _ _, some (some (_, _, v)) => some (if ok then .tup [v, .bool true] else v)
  | .map _ e, some none => (azero T e).map fun z => if ok then .tup [z, .bool false] else z
  | _, _ => none
def aupdate (T : TT) (H : AH) (t : TypeId) (x key v : AV) : Option AH :=
  match (T t).d, x, aentries H x with
  | .map _ _, .map l, some es => match afound T H t x key with
    | some (some (i, old, _)) => if keySame old key then some (H.set l (.map (es.set i (key, v)))) else none
    | some none => some (H.set l (.map (es ++ [(key, v)])))
    | none => none
  | _, _, _ => none
def adelete (T : TT) (H : AH) (t : TypeId) (x key : AV) : Option AH :=
  match (T t).d, x, aentries H x with
  | .map k _, .nilmap, _ => if keyOk T k && keyFits T k key then some H else none
  | .map _ _, .map l, some es => match afound T H t x key with
    | some (some (i, _, _)) => some (H.set l (.map (es.eraseIdx i)))
    | some none => some H
    | none => none
  | _, _, _ => none
def amaplen (H : AH) (x : AV) : Option AV := (aentries H x).map fun es => .int .i64 es.length
end Go.Abs
