/- The words that simp uses to run the interpreter, under the walk's own attribute: each fires at constructors alone. -/
import Derived.Test.YtbdomlbmbcnaeaaAbsRun
namespace Go.Abs
section
variable {T : TT} {G : Nat → Option (List AV)} {fr : List AV} {H : AH}

theorem aval_tmp {t : Tmp} : aval G fr (.tmp t) = some (fr.getD t (.tup [])) := rfl
theorem aval_const {v : Value} : aval G fr (.const v) = cv v := rfl
theorem aval_func {f : FuncId} : aval G fr (.func f) = some (.fn f [] []) := rfl
theorem cv_bool {b : Bool} : cv (.bool b) = some (.bool b) := rfl
theorem cv_int {k : IntKind} {n : Int} : cv (.int k n) = some (.int k n) := rfl
theorem cv_str {s : ByteArray} : cv (.string s) = some (.str s.data.toList) := rfl
theorem cv_nilptr : cv (.pointer none) = some .nilptr := rfl
theorem cv_nilsl : cv (.slice none 0 0) = some (.lit true true [] 0) := rfl
theorem cv_nilmap : cv (.map none) = some .nilmap := rfl
theorem cv_nilif : cv .nilIface = some .nilif := rfl
theorem cv_nilfn : cv .nilFunc = some .nilfn := rfl
theorem cv_unit : cv (.tuple #[]) = some (.tup []) := rfl

theorem aop_move {x : Operand} : aop T G fr H (.move x) = (aval G fr x).map (·, H) := rfl
theorem aop_assign {x : Operand} : aop T G fr H (.assign x) = (aval G fr x).map (·, H) := rfl
def pickOf (t : AV) (u v : AV) (H : AH) : Option (AV × AH) := match t with | .bool t => some (bif t then u else v, H) | _ => none
theorem pickOf_bool {t : Bool} {u v : AV} : pickOf (.bool t) u v H = some (bif t then u else v, H) := rfl
theorem aop_pick {c a b : Operand} : aop T G fr H (.pick c a b) = (aval G fr c).bind fun t => (aval G fr a).bind fun u => (aval G fr b).bind fun v => pickOf t u v H := by
  simp only [aop]
  cases hc : aval G fr c with
  | none => rfl
  | some t =>
    cases ha : aval G fr a with
    | none => cases t <;> rfl
    | some u =>
      cases hb : aval G fr b with
      | none => cases t <;> rfl
      | some v => cases t <;> rfl
theorem aop_alloc {t : TypeId} (h : (T t).d.known = true) : aop T G fr H (.alloc t) = some (.ptr H.length 0, H ++ [.cells (T t).zero]) := by simp [aop, h]
theorem aop_box {t : TypeId} {x : Operand} : aop T G fr H (.box t x) = ((aval G fr x).bind acell).map fun cs => (.ptr H.length 0, H ++ [.cells cs]) := rfl
theorem aop_load {t : TypeId} {x : Operand} : aop T G fr H (.load t x) = ((aval G fr x).bind (aload T H t)).map (·, H) := rfl
theorem aop_store {t : TypeId} {x y : Operand} : aop T G fr H (.store t x y) = (aval G fr x).bind fun p => (aval G fr y).bind fun v => (astore T H t p v).map fun H' => (.tup [], H') := by
  simp only [aop]
  cases aval G fr x <;> cases aval G fr y <;> rfl
def nilOf (v : AV) (H : AH) : Option (AV × AH) := match v with | .nilptr | .nilif | .nilfn => none | v => some (v, H)
theorem nilOf_ptr {l o : Nat} : nilOf (.ptr l o) H = some (.ptr l o, H) := rfl
theorem nilOf_lptr {cs : List AV} {o : Nat} : nilOf (.lptr cs o) H = some (.lptr cs o, H) := rfl
theorem nilOf_fn {f : FuncId} {a b : List AV} : nilOf (.fn f a b) H = some (.fn f a b, H) := rfl
theorem aop_nilCheck {x : Operand} : aop T G fr H (.nilCheck x) = (aval G fr x).bind fun v => nilOf v H := by
  simp only [aop]
  cases h : aval G fr x with
  | none => rfl
  | some v => cases v <;> rfl
theorem aop_binOp {op : BinOp} {t u : TypeId} {x y : Operand} : aop T G fr H (.binOp op t x y u) = (aval G fr x).bind fun a => (aval G fr y).bind fun b => (abin T op t a b).map (·, H) := by
  simp only [aop]
  cases aval G fr x <;> cases aval G fr y <;> rfl
theorem aop_unOp {op : UnOp} {t : TypeId} {x : Operand} : aop T G fr H (.unOp op t x) = ((aval G fr x).bind (aun op)).map (·, H) := rfl
theorem aop_convert {s d : TypeId} {x : Operand} : aop T G fr H (.convert s d x) = (aval G fr x).bind (aconvert T H s d) := rfl
theorem aop_makeFunc {f : FuncId} {xs ys : Array Operand} : aop T G fr H (.makeFunc (.func f) xs ys) = (xs.toList.mapM (aval G fr)).bind fun fs => (ys.toList.mapM (aval G fr)).bind fun cs => some (.fn f fs cs, H) := by
  simp only [aop]
  cases xs.toList.mapM (aval G fr) <;> cases ys.toList.mapM (aval G fr) <;> rfl
theorem aop_makeSlice {t : TypeId} {x y : Operand} : aop T G fr H (.makeSlice t x y) = (aval G fr x).bind fun n => (aval G fr y).bind fun c => amake T H t n c := by
  simp only [aop]
  cases aval G fr x <;> cases aval G fr y <;> rfl
def oval (G : Nat → Option (List AV)) (fr : List AV) : Option Operand → Option (Option AV)
  | none => some none
  | some o => (aval G fr o).map some
theorem oval_none : oval G fr none = some none := rfl
theorem oval_some {o : Operand} : oval G fr (some o) = (aval G fr o).map some := rfl
theorem aop_slice {t : TypeId} {x : Operand} {a b c : Option Operand} : aop T G fr H (.slice t x a b c) = (aval G fr x).bind fun v => (oval G fr a).bind fun lo => (oval G fr b).bind fun hi => (oval G fr c).bind fun mx => (aslice T H t v lo hi mx).map (·, H) := by
  have h : ∀ o : Option Operand, o.mapM (aval G fr) = oval G fr o := fun o => by cases o <;> rfl
  simp only [aop, h]
  cases aval G fr x <;> cases oval G fr a <;> cases oval G fr b <;> cases oval G fr c <;> rfl
def fieldOf (p : AV) (o : Nat) : Option AV := match p with | .ptr l q => some (.ptr l (q + o)) | .lptr cs q => some (.lptr cs (q + o)) | _ => none
theorem fieldOf_ptr {l q o : Nat} : fieldOf (.ptr l q) o = some (.ptr l (q + o)) := rfl
theorem fieldOf_lptr {cs : List AV} {q o : Nat} : fieldOf (.lptr cs q) o = some (.lptr cs (q + o)) := rfl
theorem aop_fieldAddr {s : TypeId} {x : Operand} {f o : Nat} {fs : List (Bool × Nat × TypeId)} {b : Bool} {t : TypeId} (h1 : (T s).d = .struct fs) (h2 : fs[f]? = some (b, o, t)) (h3 : (T t).size ≠ 0) :
    aop T G fr H (.fieldAddr s x f) = ((aval G fr x).bind fun p => fieldOf p o).map (·, H) := by
  simp only [aop, h1, h2]
  cases h : aval G fr x with
  | none => rfl
  | some v => cases v <;> simp [h3, fieldOf]
def partOf (T : TT) (t : TypeId) (o : Nat) (v : AV) : Option AV := match v with | .agg cs => apart T t cs o | _ => none
theorem partOf_agg {t : TypeId} {o : Nat} {cs : List AV} : partOf T t o (.agg cs) = apart T t cs o := rfl
theorem aop_field {s : TypeId} {x : Operand} {f o : Nat} {fs : List (Bool × Nat × TypeId)} {b : Bool} {t : TypeId} (h1 : (T s).d = .struct fs) (h2 : fs[f]? = some (b, o, t)) :
    aop T G fr H (.field s x f) = ((aval G fr x).bind (partOf T t o)).map (·, H) := by
  simp only [aop, h1, h2]
  cases h : aval G fr x with
  | none => rfl
  | some v => cases v <;> rfl
theorem aop_indexAddr {t : TypeId} {x y : Operand} : aop T G fr H (.indexAddr t x y) = (aval G fr x).bind fun a => (aval G fr y).bind fun i => (aindexAddr T t a i).map (·, H) := by
  simp only [aop]
  cases aval G fr x <;> cases aval G fr y <;> rfl
theorem aop_index {t : TypeId} {x y : Operand} : aop T G fr H (.index t x y) = (aval G fr x).bind fun a => (aval G fr y).bind fun i => (aindex T t a i).map (·, H) := by
  simp only [aop]
  cases aval G fr x <;> cases aval G fr y <;> rfl
def tupOf (i : Nat) (v : AV) : Option AV := match v with | .tup cs => cs[i]? | _ => none
theorem tupOf_tup {i : Nat} {cs : List AV} : tupOf i (.tup cs) = cs[i]? := rfl
theorem aop_extract {x : Operand} {i : Nat} : aop T G fr H (.extract x i) = ((aval G fr x).bind (tupOf i)).map (·, H) := by
  simp only [aop]
  cases h : aval G fr x with
  | none => rfl
  | some v => cases v <;> rfl
theorem aop_makeMap {t : TypeId} : aop T G fr H (.makeMap t none) = some (.map H.length, H ++ [.map []]) := rfl
theorem aop_lookup {t : TypeId} {m k : Operand} {ok : Bool} : aop T G fr H (.lookup t m k ok) = (aval G fr m).bind fun m => (aval G fr k).bind fun k => (alookup T H t m k ok).map (·, H) := by
  simp only [aop]
  cases aval G fr m <;> cases aval G fr k <;> rfl
theorem aop_mapUpdate {t : TypeId} {m k v : Operand} : aop T G fr H (.mapUpdate t m k v) = (aval G fr m).bind fun m => (aval G fr k).bind fun k => (aval G fr v).bind fun v => (aupdate T H t m k v).map fun H' => (.tup [], H') := by
  simp only [aop]
  cases aval G fr m <;> cases aval G fr k <;> cases aval G fr v <;> rfl
theorem aop_insert {t : TypeId} {m k v : Operand} : aop T G fr H (.insert t m k v) = (aval G fr m).bind fun m => (aval G fr k).bind fun k => (aval G fr v).bind fun v => (aupdate T H t m k v).map fun H' => (.tup [], H') := by
  simp only [aop]
  cases aval G fr m <;> cases aval G fr k <;> cases aval G fr v <;> rfl
theorem aop_builtin {b : Builtin} {args : Array Operand} {ts : Array TypeId} : aop T G fr H (.call { callee := .builtin b, args := args, argTypes := ts }) = (args.toList.mapM (aval G fr)).bind (abuiltin T H b ts) := rfl

theorem acell_bool {b : Bool} : acell (.bool b) = some [.bool b] := rfl
theorem acell_int {k : IntKind} {n : Int} : acell (.int k n) = some [.int k n] := rfl
theorem acell_str {s : List UInt8} : acell (.str s) = some [.str s] := rfl
theorem acell_ptr {l o : Nat} : acell (.ptr l o) = some [.ptr l o] := rfl
theorem acell_nilptr : acell .nilptr = some [.nilptr] := rfl
theorem acell_lit {a b : Bool} {cs : List AV} {n : Nat} : acell (.lit a b cs n) = some [.lit a b cs n] := rfl
theorem acell_ref {e : Bool} {l o n s : Nat} : acell (.ref e l o n s) = some [.ref e l o n s] := rfl
theorem acell_fn {f : FuncId} {a b : List AV} : acell (.fn f a b) = some [.fn f a b] := rfl
theorem acell_agg {cs : List AV} : acell (.agg cs) = some cs := rfl

theorem aload_ptr {t : TypeId} {l o : Nat} {cs : List AV} (h : H[l]? = some (.cells cs)) : aload T H t (.ptr l o) = apart T t cs o := by simp only [aload, h]
theorem aload_lptr {t : TypeId} {cs : List AV} {o : Nat} : aload T H t (.lptr cs o) = apart T t cs o := rfl
theorem apart_one {t : TypeId} {cs : List AV} {o : Nat} (h1 : (T t).d.known = true) (h2 : (T t).d.isAgg = false) : apart T t cs o = cs[o]? := by simp [apart, h1, h2]
theorem apart_agg {t : TypeId} {cs : List AV} {o : Nat} (h1 : (T t).d.isAgg = true) (h2 : o + (T t).size ≤ cs.length) : apart T t cs o = some (.agg ((cs.drop o).take (T t).size)) := by
  have : (T t).d.known = true := by cases h : (T t).d <;> rw [h] at h1 <;> first | rfl | cases h1
  simp [apart, this, h1, h2]
theorem astore_one {t : TypeId} {l o : Nat} {v : AV} {vs cs : List AV} (hv : acell v = some vs) (hk : (T t).d.known = true) (hs : vs.length = (T t).size) (hl : H[l]? = some (.cells cs)) (hb : o + vs.length ≤ cs.length) :
    astore T H t (.ptr l o) v = some (H.set l (.cells (splice cs o vs))) := by simp [astore, hv, hk, hs, awrite, hl, hs ▸ hb]

/-! integers, strings, bools -/
theorem bin_add {t : TypeId} {k : IntKind} {a b : Int} : abin T .add t (.int k a) (.int k b) = some (.int k (k.wrap (a + b))) := by simp [abin, aarith]
theorem bin_sub {t : TypeId} {k : IntKind} {a b : Int} : abin T .sub t (.int k a) (.int k b) = some (.int k (k.wrap (a - b))) := by simp [abin, aarith]
theorem bin_mul {t : TypeId} {k : IntKind} {a b : Int} : abin T .mul t (.int k a) (.int k b) = some (.int k (k.wrap (a * b))) := by simp [abin, aarith]
theorem bin_quo {t : TypeId} {k : IntKind} {a b : Int} (h : b ≠ 0) : abin T .quo t (.int k a) (.int k b) = some (.int k (k.wrap (a.tdiv b))) := by simp [abin, aarith, h]
theorem bin_rem {t : TypeId} {k : IntKind} {a b : Int} (h : b ≠ 0) : abin T .rem t (.int k a) (.int k b) = some (.int k (a.tmod b)) := by simp [abin, aarith, h]
theorem bin_eql {t : TypeId} {k : IntKind} {a b : Int} : abin T .eql t (.int k a) (.int k b) = some (.bool (a == b)) := by simp [abin, aarith]
theorem bin_neq {t : TypeId} {k : IntKind} {a b : Int} : abin T .neq t (.int k a) (.int k b) = some (.bool (a != b)) := by simp [abin, aarith]
theorem bin_lss {t : TypeId} {k : IntKind} {a b : Int} : abin T .lss t (.int k a) (.int k b) = some (.bool (decide (a < b))) := by simp [abin, aarith]
theorem bin_leq {t : TypeId} {k : IntKind} {a b : Int} : abin T .leq t (.int k a) (.int k b) = some (.bool (decide (a ≤ b))) := by simp [abin, aarith]
theorem bin_gtr {t : TypeId} {k : IntKind} {a b : Int} : abin T .gtr t (.int k a) (.int k b) = some (.bool (decide (a > b))) := by simp [abin, aarith]
theorem bin_geq {t : TypeId} {k : IntKind} {a b : Int} : abin T .geq t (.int k a) (.int k b) = some (.bool (decide (a ≥ b))) := by simp [abin, aarith]
theorem bin_seql {t : TypeId} {a b : List UInt8} : abin T .eql t (.str a) (.str b) = some (.bool (a == b)) := rfl
theorem bin_sneq {t : TypeId} {a b : List UInt8} : abin T .neq t (.str a) (.str b) = some (.bool (!(a == b))) := rfl
theorem bin_sadd {t : TypeId} {a b : List UInt8} (h : a.length + b.length ≤ 9223372036854775807) : abin T .add t (.str a) (.str b) = some (.str (a ++ b)) := by simp [abin, astr, h]
theorem un_not {b : Bool} : aun .not (.bool b) = some (.bool !b) := rfl
theorem un_neg {k : IntKind} {n : Int} : aun .neg (.int k n) = some (.int k (k.wrap (0 - n))) := rfl

theorem len_str {t : TypeId} {s : List UInt8} (h : (T t).d = .str) : abuiltin T H .len #[t] [.str s] = some (.int .i64 s.length, H) := by simp [abuiltin, h]
def AD.isSlice : AD → Bool | .slice _ => true | _ => false
def AD.elem : AD → TypeId | .slice e => e | _ => 0
def AD.isArr : AD → Bool | .arr _ _ => true | _ => false
def AD.arrN : AD → Nat | .arr n _ => n | _ => 0
theorem isSlice_slice {e : TypeId} : (AD.slice e).isSlice = true := rfl
theorem elem_slice {e : TypeId} : (AD.slice e).elem = e := rfl
theorem isArr_arr {n : Nat} {e : TypeId} : (AD.arr n e).isArr = true := rfl
theorem arrN_arr {n : Nat} {e : TypeId} : (AD.arr n e).arrN = n := rfl
theorem AD.slice_of {a : AD} (h : a.isSlice = true) : a = .slice a.elem := by cases a <;> first | rfl | cases h
theorem AD.arr_of {a : AD} (h : a.isArr = true) : ∃ e, a = .arr a.arrN e := by cases a <;> first | exact ⟨_, rfl⟩ | cases h
theorem len_lit {t : TypeId} {a b : Bool} {cs : List AV} {n : Nat} (h : (T t).d.isSlice = true) : abuiltin T H .len #[t] [.lit a b cs n] = some (.int .i64 n, H) := by
  have e := AD.slice_of h
  generalize (T t).d.elem = z at e
  simp [abuiltin, e]
theorem len_ref {t : TypeId} {ex : Bool} {l o n s : Nat} (h : (T t).d.isSlice = true) : abuiltin T H .len #[t] [.ref ex l o n s] = some (.int .i64 n, H) := by
  have e := AD.slice_of h
  generalize (T t).d.elem = z at e
  simp [abuiltin, e]
theorem len_arr {t : TypeId} {x : AV} (h : (T t).d.isArr = true) : abuiltin T H .len #[t] [x] = some (.int .i64 (T t).d.arrN, H) := by
  obtain ⟨e, he⟩ := AD.arr_of h
  generalize (T t).d.arrN = z at he
  cases x <;> simp [abuiltin, he]
def isOne : List AV → Bool | [_] => true | _ => false
theorem isOne_one {v : AV} : isOne [v] = true := rfl
theorem isOne_spec {l : List AV} (h : isOne l = true) : ∃ z, l = [z] := by
  match l, h with
  | [z], _ => exact ⟨z, rfl⟩
/-- A slice built from its elements. -/
def bsOf (T : TT) (H : AH) (t : TypeId) (len : Nat) (ps : List (Nat × AV)) : Option (AV × AH) := match (T t).d with
  | .slice e => if len * (T e).size ≤ 16777216 ∧ len ≤ 16777216 then
      (afill (fun i => some (i * (T e).size, (T e).size)) (List.replicate len (T e).zero).flatten ps).map fun cs => (.ref true H.length 0 len (T e).size, H ++ [.cells cs]) else none
  | _ => none
theorem aop_buildSlice {t : TypeId} {len : Nat} {parts : Array (Nat × Operand)} : aop T G fr H (.buildSlice t len parts) = (parts.toList.mapM fun p => (aval G fr p.2).map fun v => (p.1, v)).bind (bsOf T H t len) := by
  simp only [aop]
  cases parts.toList.mapM fun p => (aval G fr p.2).map fun v => (p.1, v) <;> rfl
theorem acell_of {v : AV} (h : v.isCell = true) : acell v = some [v] := by cases v <;> first | rfl | cases h
theorem bsOf_0 {t : TypeId} (h : (T t).d.isSlice = true) (hs : (T (T t).d.elem).size = 1) : bsOf T H t 0 [] = some (.ref true H.length 0 0 1, H ++ [.cells []]) := by
  unfold bsOf
  rw [AD.slice_of h]
  simp [hs, afill]
theorem bsOf_1 {t : TypeId} {v : AV} (h : (T t).d.isSlice = true) (hs : (T (T t).d.elem).size = 1) (hz : isOne (T (T t).d.elem).zero = true) (hv : v.isCell = true) : bsOf T H t 1 [(0, v)] = some (.ref true H.length 0 1 1, H ++ [.cells [v]]) := by
  unfold bsOf
  rw [AD.slice_of h]
  obtain ⟨z, hz⟩ := isOne_spec hz
  simp [hs, afill, acell_of hv, splice, hz]
theorem bsOf_2 {t : TypeId} {v w : AV} (h : (T t).d.isSlice = true) (hs : (T (T t).d.elem).size = 1) (hz : isOne (T (T t).d.elem).zero = true) (hv : v.isCell = true) (hw : w.isCell = true) : bsOf T H t 2 [(0, v), (1, w)] = some (.ref true H.length 0 2 1, H ++ [.cells [v, w]]) := by
  unfold bsOf
  rw [AD.slice_of h]
  obtain ⟨z, hz⟩ := isOne_spec hz
  simp [hs, afill, acell_of hv, acell_of hw, splice, hz]
theorem isCell_str {s : List UInt8} : (AV.str s).isCell = true := id rfl
theorem isCell_int {k : IntKind} {n : Int} : (AV.int k n).isCell = true := id rfl
theorem isCell_bool {b : Bool} : (AV.bool b).isCell = true := id rfl
theorem isCell_ptr {l o : Nat} : (AV.ptr l o).isCell = true := id rfl
theorem isCell_lit {a b : Bool} {cs : List AV} {n : Nat} : (AV.lit a b cs n).isCell = true := id rfl
theorem isCell_ref {e : Bool} {l o n s : Nat} : (AV.ref e l o n s).isCell = true := id rfl
attribute [go_sem] isOne_one isSlice_slice elem_slice isArr_arr arrN_arr aop_buildSlice bsOf_0 bsOf_1 bsOf_2 isCell_str isCell_int isCell_bool isCell_ptr isCell_lit isCell_ref
theorem app_two {t u : TypeId} {s x : AV} : abuiltin T H .append #[t, u] [s, x] = aappend T H t u s x := rfl

theorem index_str {t : TypeId} {k : IntKind} {s : List UInt8} {i : Int} {b : UInt8} (h : (T t).d = .str) (h0 : 0 ≤ i) (hb : s[i.toNat]? = some b) : aindex T t (.str s) (.int k i) = some (.int .u8 b.toNat) := by simp [aindex, h, h0, hb]
end

section
variable {T : TT} {G : Nat → Option (List AV)} {C : ACall} {fr fr' : List AV} {H H' : AH} {ops : Array Oper} {K : List AV → AH → Prop} {d : Option Tmp} {op : Op} {t : TypeId} {p : String} {es : Array Edge} {rest : List Oper} {v : AV}
theorem evOp_of (ho : aop T G fr H op = some (v, H')) {k : AV → AH → Prop} (h : k v H') : evOp T G C fr H op k := by
  unfold evOp
  split
  · simp [aop] at ho
  · left; rw [ho]; exact h
  · rw [ho]; exact h
/-- A slice that is built and never written to. -/
theorem evOp_frozen {t : TypeId} {len : Nat} {parts : Array (Nat × Operand)} {v : AV} (ho : afrozen T G fr t len parts = some v) {k : AV → AH → Prop} (h : k v H) : evOp T G C fr H (.buildSlice t len parts) k := by
  unfold evOp
  right
  rw [ho]
  exact h
theorem do_op (ho : aop T G fr H op = some (v, H')) (hp : aput fr d v = fr') (h : evList T G C ops K rest fr' H') : evList T G C ops K (⟨d, op, t, p, es, none⟩ :: rest) fr H := by
  subst hp
  exact evOp_of ho h
theorem do_take {j : Nat} {w : Bool} (hy : ayielded ops fr j = some w) (ho : aop T G fr H op = some (v, H')) (hp : aput fr d v = fr') (h : evList T G C ops K rest fr' H') : evList T G C ops K (⟨d, op, t, p, es, some (j, w)⟩ :: rest) fr H := by
  subst hp
  rw [evList_some, hy]
  simp only [evGuard, if_true]
  exact evOp_of ho h
theorem do_pass {j : Nat} {w b : Bool} (hy : ayielded ops fr j = some b) (hb : b = !w) (hp : aput fr d (.tup []) = fr') (h : evList T G C ops K rest fr' H) : evList T G C ops K (⟨d, op, t, p, es, some (j, w)⟩ :: rest) fr H := by
  subst hp hb
  rw [evList_some, hy]
  cases w <;> simpa [evGuard] using h
theorem do_pass0 {j : Nat} {w : Bool} (hy : ayielded ops fr j = none) (hp : aput fr d (.tup []) = fr') (h : evList T G C ops K rest fr' H) : evList T G C ops K (⟨d, op, t, p, es, some (j, w)⟩ :: rest) fr H := by
  subst hp
  rw [evList_some, hy]
  simpa [evGuard] using h
theorem do_sym {j : Nat} {w b : Bool} (hy : ayielded ops fr j = some b) (ho : aop T G fr H op = some (v, H)) (hp : aput fr d (bif b == w then v else .tup []) = fr') (h : evList T G C ops K rest fr' H) : evList T G C ops K (⟨d, op, t, p, es, some (j, w)⟩ :: rest) fr H := by
  subst hp
  rw [evList_some, hy]
  cases b <;> cases w <;> simp [evGuard] at h ⊢ <;> first | exact h | exact evOp_of ho h
theorem do_split {j : Nat} {w b : Bool} (hy : ayielded ops fr j = some b) (h1 : b = true → evList T G C ops K (⟨d, op, t, p, es, some (j, w)⟩ :: rest) fr H) (h2 : b = false → evList T G C ops K (⟨d, op, t, p, es, some (j, w)⟩ :: rest) fr H) :
    evList T G C ops K (⟨d, op, t, p, es, some (j, w)⟩ :: rest) fr H := by
  cases b
  · exact h2 rfl
  · exact h1 rfl
theorem cond_sym_t {t : Bool} {a b c : AV} : (bif t then (bif t == true then a else c) else b) = bif t then a else b := by cases t <;> rfl
theorem cond_sym_f {t : Bool} {a b c : AV} : (bif t then a else (bif t == false then b else c)) = bif t then a else b := by cases t <;> rfl
theorem bif_or {a b : Bool} : (bif a then true else b) = (a || b) := by cases a <;> rfl
theorem bif_and {a b : Bool} : (bif a then b else false) = (a && b) := by cases a <;> rfl
theorem do_end (h : K fr H) : evList T G C ops K [] fr H := h
theorem do_call {f : Operand} {args : Array Operand} {ts : Array TypeId} {g : FuncId} {first caps as : List AV} (hf : aval G fr f = some (.fn g first caps)) (ha : args.toList.mapM (aval G fr) = some as)
    (h : C g (first ++ as ++ caps) H (fun v H' => evList T G C ops K rest (aput fr d v) H')) : evList T G C ops K (⟨d, .call { callee := .value f, args := args, argTypes := ts }, t, p, es, none⟩ :: rest) fr H := by
  rw [evList_none, evOp_call, hf, ha]
  exact h
end
theorem omap_nil {α β : Type} {f : α → Option β} : ([] : List α).mapM f = some [] := rfl
theorem omap_cons {α β : Type} {f : α → Option β} {a : α} {l : List α} : (a :: l).mapM f = (f a).bind fun v => (l.mapM f).bind fun vs => some (v :: vs) := by rw [List.mapM_cons]; rfl
theorem ares_tmp {T : TT} {fr : List AV} {H : AH} {t : Tmp} : ares T fr H (.tmp t) = some (fr.getD t (.tup [])) := rfl
theorem ares_cell {T : TT} {fr : List AV} {H : AH} {a : Tmp} {t : TypeId} : ares T fr H (.cell a t) = aload T H t (fr.getD a (.tup [])) := rfl
theorem one_0 : one [] = .tup [] := rfl
theorem one_1 {v : AV} : one [v] = v := rfl
theorem one_2 {v w : AV} : one [v, w] = .tup [v, w] := rfl
theorem one_3 {v w x : AV} : one [v, w, x] = .tup [v, w, x] := rfl
theorem wrap_small {n : Int} (h0 : -9223372036854775808 ≤ n) (h1 : n ≤ 9223372036854775807) : IntKind.i64.wrap n = n := by rw [IntKind.wrap_i64]; omega
theorem wrap_succ {n : Nat} (h : n < 9223372036854775807) : IntKind.i64.wrap ((n : Int) + 1) = ((n + 1 : Nat) : Int) := by rw [wrap_small] <;> omega
attribute [go_sem] ares_tmp ares_cell one_0 one_1 one_2 one_3
attribute [go_sem] aval_tmp aval_const aval_func cv_bool cv_int cv_str cv_nilptr cv_nilsl cv_nilmap cv_nilif cv_nilfn cv_unit aop_move aop_assign aop_pick pickOf_bool aop_alloc aop_box aop_load aop_store aop_nilCheck nilOf_ptr nilOf_lptr nilOf_fn aop_binOp aop_unOp aop_convert aop_makeFunc aop_makeSlice aop_slice oval_none oval_some
  aop_fieldAddr fieldOf_ptr fieldOf_lptr aop_field partOf_agg aop_indexAddr aop_index aop_extract tupOf_tup aop_makeMap aop_lookup aop_mapUpdate aop_insert aop_builtin acell_bool acell_int acell_str acell_ptr acell_nilptr acell_lit acell_ref acell_fn acell_agg aload_ptr aload_lptr apart_one apart_agg
  bin_add bin_sub bin_mul bin_quo bin_rem bin_eql bin_neq bin_lss bin_leq bin_gtr bin_geq bin_seql bin_sneq bin_sadd un_not un_neg cond_sym_t cond_sym_f bif_or bif_and len_str len_lit len_ref len_arr aput_some aput_none cond_av AD.known AD.isAgg
attribute [go_sem] Option.map_some Option.map_none Option.bind_some Option.bind_none List.set_cons_zero List.set_cons_succ List.getD_cons_zero List.getD_cons_succ ayielded List.getElem?_toArray List.getElem?_cons_zero List.getElem?_cons_succ Option.some.injEq
  omap_nil omap_cons cond_true cond_false Bool.not_true Bool.not_false

section
variable {P : Program} {T : TT} {G : Nat → Option (List AV)} {mx : Bool} {C : ACall} {n : Nat} {fr : List AV} {H : AH} {Q : APost}
/-! the steps without names for what follows -/
theorem go_seq {a b : Code} (h : ev T G mx C n a fr H (AX.then (fun fr H => ev T G mx C n b fr H Q) Q)) : ev T G mx C n (.seq a b) fr H Q := by rw [ev_seq]; exact h
theorem go_region {id : Nat} {ops : List Oper} (h : evList T G C ops.toArray (Q .normal) ops fr H) : ev T G mx C n (.region id ops.toArray false) fr H Q := by rw [ev_region]; exact h
theorem cond_t {c : Operand} {a b : Code} (hc : aval G fr c = some (.bool true)) (h : ev T G mx C n a fr H Q) : ev T G mx C n (.cond c a b) fr H Q := by rw [ev_cond, hc]; exact h
theorem cond_f {c : Operand} {a b : Code} (hc : aval G fr c = some (.bool false)) (h : ev T G mx C n b fr H Q) : ev T G mx C n (.cond c a b) fr H Q := by rw [ev_cond, hc]; exact h

/-- The end of a function. -/
def FnEnd (T : TT) (fn : Func) (n : Nat) (k : AV → AH → Prop) : APost := fun e fr H' =>
  (match e with | .exit _ => False | _ => True) ∧ ∃ r, aresults T fn fr H' = some r ∧ ∃ r' H'', VS n [r] H' [r'] H'' ∧ k r' H''
theorem fin_ret {fn : Func} {k : AV → AH → Prop} {r : AV} (hr : aresults T fn fr H = some r) (hk : k r H) : FnEnd T fn n k .ret fr H := ⟨trivial, r, hr, r, H, VS.refl _ _ _, hk⟩
theorem fin_vs {fn : Func} {k : AV → AH → Prop} {r r' : AV} {H' : AH} (hr : aresults T fn fr H = some r) (hv : VS n [r] H [r'] H') (hk : k r' H') : FnEnd T fn n k .ret fr H := ⟨trivial, r, hr, r', H', hv, hk⟩
theorem call_go {f : FuncId} {fn : Func} {c : Code} {args : List AV} {k : AV → AH → Prop} (h1 : P.funcs[f]? = some fn) (h2 : fn.body = some c) (h3 : (fn.name == "runtime.NumGoroutine") = false) {fr : List AV} (hfr : args ++ List.replicate (fn.ntmps - args.length) (.tup []) = fr)
    (h4 : ev T G (P.follows .mixedOrders) (EvCall P T G) H.length c fr H (FnEnd T fn H.length k)) : EvCall P T G f args H k := by
  subst hfr
  exact EvCall.intro ⟨fn, c, h1, h2, h3, h4⟩
theorem loop_ind {c : Code} (I : Nat → List AV → AH → Prop) (step : ∀ d fr H, I d fr H → ev T G mx (EvCall P T G) n c fr H (AX.then (fun fr H => ∃ d' : Nat, d' < d ∧ I d' fr H) Q)) :
    ∀ d fr H, I d fr H → ev T G mx (EvCall P T G) n (.loop c) fr H Q := by
  intro d
  induction d using Nat.strongRecOn with
  | ind d ih =>
    intro fr H hI
    refine loop_round ?_
    refine ev_mono (C := EvCall P T G) (C' := EvCall P T G) (fun f args H k k' hk hc => EvCall.mono hk hc) _ _ _ _ _ (fun e fr' H' he => ?_) (step d fr H hI)
    cases e with
    | normal => obtain ⟨d', hd, hI'⟩ := he; exact ih d' hd fr' H' hI'
    | exit id => exact he
    | ret => exact he
/-- The slots that nothing reads again, by one name. -/
theorem junk {F : (Nat → AV) → List AV} {L : List AV} (h : L = F (fun k => L.getD k (.tup []))) : ∃ j, L = F j := ⟨_, h⟩
end
end Go.Abs
