/- Words for running the interpreter by hand: a region as a list of operations, one at a time. -/
import Derived.Test.YtbdomlbmbcnaeaaAbsTyB
namespace Go.Abs

/-- A region's operations, one behind the other. -/
def evList (T : TT) (G : Nat → Option (List AV)) (C : ACall) (ops : Array Oper) (K : List AV → AH → Prop) : List Oper → List AV → AH → Prop
  | [], fr, H => K fr H
  | o :: rest, fr, H => if Region.wanted o (ayielded ops fr) = true then evOp T G C fr H o.op (fun v H' => evList T G C ops K rest (aput fr o.dst v) H')
      else evList T G C ops K rest (aput fr o.dst (.tup [])) H

theorem evOps_list {T : TT} {G : Nat → Option (List AV)} {C : ACall} {ops : Array Oper} {K : List AV → AH → Prop} : ∀ (l : List Nat) (os : List Oper), (∀ (j : Nat), j < l.length → (l[j]?).bind (ops[·]?) = os[j]?) → l.length = os.length →
    ∀ fr H, evOps T G C ops K l fr H = evList T G C ops K os fr H
  | [], [], _, _, _, _ => rfl
  | [], _ :: _, _, hn, _, _ => by simp at hn
  | _ :: _, [], _, hn, _, _ => by simp at hn
  | i :: l, o :: os, hj, hn, fr, H => by
    have h0 := hj 0 (by simp)
    simp only [List.getElem?_cons_zero, Option.bind_some] at h0
    have hrest : ∀ (j : Nat), j < l.length → (l[j]?).bind (ops[·]?) = os[j]? := fun j hl => by
      have := hj (j + 1) (by simpa using hl)
      simpa using this
    have ih := evOps_list (T := T) (G := G) (C := C) (K := K) l os hrest (by simpa using hn)
    unfold evOps evList
    rw [h0]
    simp only [ih]
theorem evOps_range {T : TT} {G : Nat → Option (List AV)} {C : ACall} {ops : Array Oper} {K : List AV → AH → Prop} (fr : List AV) (H : AH) : evOps T G C ops K (List.range ops.size) fr H = evList T G C ops K ops.toList fr H :=
  evOps_list _ _ (fun j hj => by
    rw [List.length_range] at hj
    rw [List.getElem?_range hj]
    simp) (by simp) fr H

theorem ev_region {T : TT} {G : Nat → Option (List AV)} {mx : Bool} {C : ACall} {n id : Nat} {ops : Array Oper} {fr : List AV} {H : AH} {Q : APost} : ev T G mx C n (.region id ops false) fr H Q = evList T G C ops (Q .normal) ops.toList fr H := by
  unfold ev
  simp only [Bool.false_eq_true, if_false]
  exact evOps_range fr H

/-- What follows a piece of code. -/
def AX.then (b : List AV → AH → Prop) (Q : APost) : APost := fun e fr H => match e with
  | .normal => b fr H
  | e => Q e fr H
theorem then_normal {b : List AV → AH → Prop} {Q : APost} {fr : List AV} {H : AH} : AX.then b Q .normal fr H = b fr H := rfl
theorem then_ret {b : List AV → AH → Prop} {Q : APost} {fr : List AV} {H : AH} : AX.then b Q .ret fr H = Q .ret fr H := rfl
theorem then_exit {b : List AV → AH → Prop} {Q : APost} {fr : List AV} {H : AH} {id : Nat} : AX.then b Q (.exit id) fr H = Q (.exit id) fr H := rfl
def AX.inBlock (id : Nat) (Q : APost) : APost := fun e fr H => match e with
  | .exit i => if i = id then Q .normal fr H else Q (.exit i) fr H
  | e => Q e fr H
theorem inBlock_normal {id : Nat} {Q : APost} {fr : List AV} {H : AH} : AX.inBlock id Q .normal fr H = Q .normal fr H := rfl
theorem inBlock_ret {id : Nat} {Q : APost} {fr : List AV} {H : AH} : AX.inBlock id Q .ret fr H = Q .ret fr H := rfl
theorem inBlock_exit {id i : Nat} {Q : APost} {fr : List AV} {H : AH} : AX.inBlock id Q (.exit i) fr H = if i = id then Q .normal fr H else Q (.exit i) fr H := rfl

variable {T : TT} {G : Nat → Option (List AV)} {mx : Bool} {C : ACall} {n : Nat} {fr : List AV} {H : AH} {Q : APost}
theorem ev_skip : ev T G mx C n .skip fr H Q = Q .normal fr H := rfl
theorem ev_seq {a b : Code} : ev T G mx C n (.seq a b) fr H Q = ev T G mx C n a fr H (AX.then (fun fr H => ev T G mx C n b fr H Q) Q) := by
  conv => lhs; unfold ev
  refine congrArg _ ?_
  funext e fr' H'
  cases e <;> rfl
theorem ev_block {id : Nat} {c : Code} : ev T G mx C n (.block id c) fr H Q = ev T G mx C n c fr H (AX.inBlock id Q) := by
  conv => lhs; unfold ev
  refine congrArg _ ?_
  funext e fr' H'
  cases e <;> rfl
theorem ev_exit {id : Nat} : ev T G mx C n (.exit id) fr H Q = Q (.exit id) fr H := rfl
theorem ev_scope {c : Code} : ev T G mx C n (.scope c) fr H Q = ev T G mx C n c fr H Q := rfl
theorem ev_label {l : Nat} : ev T G mx C n (.label l) fr H Q = Q .normal fr H := rfl
theorem ev_ret : ev T G mx C n .ret fr H Q = Q .ret fr H := rfl
theorem ev_cond {c : Operand} {a b : Code} : ev T G mx C n (.cond c a b) fr H Q = match aval G fr c with
    | some (.bool true) => ev T G mx C n a fr H Q
    | some (.bool false) => ev T G mx C n b fr H Q
    | _ => False := rfl
theorem ev_loop {c : Code} : ev T G mx C n (.loop c) fr H Q = Loop n (fun fr H Q => ev T G mx C n c fr H Q) Q fr H := rfl

/-- One round. -/
theorem loop_round {P : Program} {c : Code} (h : ev T G mx (EvCall P T G) n c fr H (AX.then (fun fr H => ev T G mx (EvCall P T G) n (.loop c) fr H Q) Q)) : ev T G mx (EvCall P T G) n (.loop c) fr H Q := by
  rw [ev_loop]
  intro I h1 h2
  refine h1 fr H ?_
  show ev T G mx (EvCall P T G) n c fr H _
  refine ev_mono (C := EvCall P T G) (C' := EvCall P T G) (fun f args H k k' hk hc => EvCall.mono hk hc) _ _ _ _ _ (fun e fr' H' he => ?_) h
  cases e with
  | normal => exact he I h1 h2
  | exit id => exact he
  | ret => exact he
theorem loop_shift {c : Code} {fr' : List AV} {H' : AH} (hv : VS n fr H fr' H') (h : ev T G mx C n (.loop c) fr' H' Q) : ev T G mx C n (.loop c) fr H Q := by
  rw [ev_loop] at h ⊢
  intro I h1 h2
  exact h2 fr H fr' H' hv (h I h1 h2)

/-- A call, by its function's body. -/
theorem call_intro {P : Program} {f : FuncId} {fn : Func} {c : Code} {args : List AV} {k : AV → AH → Prop} (h1 : P.funcs[f]? = some fn) (h2 : fn.body = some c) (h3 : (fn.name == "runtime.NumGoroutine") = false)
    (h4 : ev T G (P.follows .mixedOrders) (EvCall P T G) H.length c (args ++ List.replicate (fn.ntmps - args.length) (.tup [])) H (fun e fr H' =>
      (match e with | .exit _ => False | _ => True) ∧ ∃ r, aresults T fn fr H' = some r ∧ ∃ r' H'', VS H.length [r] H' [r'] H'' ∧ k r' H'')) : EvCall P T G f args H k :=
  EvCall.intro ⟨fn, c, h1, h2, h3, h4⟩

/-! ### steps, to be applied -/
theorem evList_nil {ops : Array Oper} {K : List AV → AH → Prop} (h : K fr H) : evList T G C ops K [] fr H := h
theorem evList_op {ops : Array Oper} {K : List AV → AH → Prop} {o : Oper} {rest : List Oper} {v : AV} {H' : AH} {fr' : List AV} (hw : Region.wanted o (ayielded ops fr) = true) (ho : aop T G fr H o.op = some (v, H')) (hp : aput fr o.dst v = fr')
    (h : evList T G C ops K rest fr' H') : evList T G C ops K (o :: rest) fr H := by
  unfold evList
  rw [if_pos hw]
  unfold evOp
  subst hp
  split
  · rename_i hop
    rw [hop] at ho
    simp [aop] at ho
  · rename_i hop
    rw [hop] at ho
    left
    rw [ho]
    exact h
  · rw [ho]
    exact h
theorem evList_skip {ops : Array Oper} {K : List AV → AH → Prop} {o : Oper} {rest : List Oper} {fr' : List AV} (hw : Region.wanted o (ayielded ops fr) = false) (hp : aput fr o.dst (.tup []) = fr')
    (h : evList T G C ops K rest fr' H) : evList T G C ops K (o :: rest) fr H := by
  unfold evList
  rw [if_neg (by simp [hw])]
  subst hp
  exact h
theorem evList_call {ops : Array Oper} {K : List AV → AH → Prop} {o : Oper} {rest : List Oper} {f : Operand} {args : Array Operand} {ts : Array TypeId} {g : FuncId} {first caps as : List AV} (hw : Region.wanted o (ayielded ops fr) = true)
    (ho : o.op = .call { callee := .value f, args := args, argTypes := ts }) (hf : aval G fr f = some (.fn g first caps)) (ha : args.toList.mapM (aval G fr) = some as)
    (h : C g (first ++ as ++ caps) H (fun v H' => evList T G C ops K rest (aput fr o.dst v) H')) : evList T G C ops K (o :: rest) fr H := by
  unfold evList
  rw [if_pos hw]
  unfold evOp
  rw [ho]
  simp only [hf, ha]
  exact h
theorem do_seq {a b : Code} (h : ∀ K : List AV → AH → Prop, (∀ fr H, ev T G mx C n b fr H Q → K fr H) → ev T G mx C n a fr H (AX.then K Q)) : ev T G mx C n (.seq a b) fr H Q := by
  rw [ev_seq]
  exact h _ (fun _ _ h => h)
theorem do_region {id : Nat} {ops : Array Oper} (h : ∀ K : List AV → AH → Prop, (∀ fr H, Q .normal fr H → K fr H) → evList T G C ops K ops.toList fr H) : ev T G mx C n (.region id ops false) fr H Q := by
  rw [ev_region]
  exact h _ (fun _ _ h => h)
theorem do_block {id : Nat} {c : Code} (h : ev T G mx C n c fr H (AX.inBlock id Q)) : ev T G mx C n (.block id c) fr H Q := by rw [ev_block]; exact h
theorem do_scope {c : Code} (h : ev T G mx C n c fr H Q) : ev T G mx C n (.scope c) fr H Q := h
theorem do_label {l : Nat} (h : Q .normal fr H) : ev T G mx C n (.label l) fr H Q := h
theorem do_skip (h : Q .normal fr H) : ev T G mx C n .skip fr H Q := h
theorem do_exit {id : Nat} (h : Q (.exit id) fr H) : ev T G mx C n (.exit id) fr H Q := h
theorem do_ret (h : Q .ret fr H) : ev T G mx C n .ret fr H Q := h
theorem do_cond {c : Operand} {a b : Code} {t : Bool} (hc : aval G fr c = some (.bool t)) (h1 : t = true → ev T G mx C n a fr H Q) (h2 : t = false → ev T G mx C n b fr H Q) : ev T G mx C n (.cond c a b) fr H Q := by
  rw [ev_cond, hc]
  cases t
  · exact h2 rfl
  · exact h1 rfl
theorem then_n {b : List AV → AH → Prop} (h : b fr H) : AX.then b Q .normal fr H := h
theorem then_r {b : List AV → AH → Prop} (h : Q .ret fr H) : AX.then b Q .ret fr H := h
theorem then_e {b : List AV → AH → Prop} {id : Nat} (h : Q (.exit id) fr H) : AX.then b Q (.exit id) fr H := h
theorem block_n {id : Nat} (h : Q .normal fr H) : AX.inBlock id Q .normal fr H := h
theorem block_r {id : Nat} (h : Q .ret fr H) : AX.inBlock id Q .ret fr H := h
theorem block_e {id : Nat} (h : Q .normal fr H) : AX.inBlock id Q (.exit id) fr H := by show (if id = id then _ else _); rw [if_pos rfl]; exact h
theorem block_o {id i : Nat} (hi : i ≠ id) (h : Q (.exit i) fr H) : AX.inBlock id Q (.exit i) fr H := by show (if i = id then _ else _); rw [if_neg hi]; exact h

/-! ### the words by which simp runs it -/
theorem evOp_call {f : Operand} {args : Array Operand} {ts : Array TypeId} {k : AV → AH → Prop} : evOp T G C fr H (.call { callee := .value f, args := args, argTypes := ts }) k = match aval G fr f, args.toList.mapM (aval G fr) with
    | some (.fn g first caps), some as => C g (first ++ as ++ caps) H k
    | _, _ => False := rfl
/-- An operation of our own heap. -/
def evRes (r : Option (AV × AH)) (k : AV → AH → Prop) : Prop := match r with
  | some (v, H') => k v H'
  | none => False
theorem evRes_some {v : AV} {H' : AH} {k : AV → AH → Prop} : evRes (some (v, H')) k = k v H' := rfl
theorem evOp_move {x : Operand} {k : AV → AH → Prop} : evOp T G C fr H (.move x) k = evRes (aop T G fr H (.move x)) k := rfl
theorem evOp_assign {x : Operand} {k : AV → AH → Prop} : evOp T G C fr H (.assign x) k = evRes (aop T G fr H (.assign x)) k := rfl
theorem evOp_pick {x y z : Operand} {k : AV → AH → Prop} : evOp T G C fr H (.pick x y z) k = evRes (aop T G fr H (.pick x y z)) k := rfl
theorem evOp_alloc {t : TypeId} {k : AV → AH → Prop} : evOp T G C fr H (.alloc t) k = evRes (aop T G fr H (.alloc t)) k := rfl
theorem evOp_box {t : TypeId} {x : Operand} {k : AV → AH → Prop} : evOp T G C fr H (.box t x) k = evRes (aop T G fr H (.box t x)) k := rfl
theorem evOp_build {t : TypeId} {ps : Array (Nat × Operand)} {k : AV → AH → Prop} : evOp T G C fr H (.build t ps) k = evRes (aop T G fr H (.build t ps)) k := rfl
theorem evOp_load {t : TypeId} {x : Operand} {k : AV → AH → Prop} : evOp T G C fr H (.load t x) k = evRes (aop T G fr H (.load t x)) k := rfl
theorem evOp_store {t : TypeId} {x y : Operand} {k : AV → AH → Prop} : evOp T G C fr H (.store t x y) k = evRes (aop T G fr H (.store t x y)) k := rfl
theorem evOp_nilCheck {x : Operand} {k : AV → AH → Prop} : evOp T G C fr H (.nilCheck x) k = evRes (aop T G fr H (.nilCheck x)) k := rfl
theorem evOp_binOp {op : BinOp} {t u : TypeId} {x y : Operand} {k : AV → AH → Prop} : evOp T G C fr H (.binOp op t x y u) k = evRes (aop T G fr H (.binOp op t x y u)) k := rfl
theorem evOp_unOp {op : UnOp} {t : TypeId} {x : Operand} {k : AV → AH → Prop} : evOp T G C fr H (.unOp op t x) k = evRes (aop T G fr H (.unOp op t x)) k := rfl
theorem evOp_convert {t u : TypeId} {x : Operand} {k : AV → AH → Prop} : evOp T G C fr H (.convert t u x) k = evRes (aop T G fr H (.convert t u x)) k := rfl
theorem evOp_makeFunc {f : Fn} {xs ys : Array Operand} {k : AV → AH → Prop} : evOp T G C fr H (.makeFunc f xs ys) k = evRes (aop T G fr H (.makeFunc f xs ys)) k := rfl
theorem evOp_makeSlice {t : TypeId} {x y : Operand} {k : AV → AH → Prop} : evOp T G C fr H (.makeSlice t x y) k = evRes (aop T G fr H (.makeSlice t x y)) k := rfl
theorem evOp_slice {t : TypeId} {x : Operand} {a b c : Option Operand} {k : AV → AH → Prop} : evOp T G C fr H (.slice t x a b c) k = evRes (aop T G fr H (.slice t x a b c)) k := rfl
theorem evOp_fieldAddr {t : TypeId} {x : Operand} {f : Nat} {k : AV → AH → Prop} : evOp T G C fr H (.fieldAddr t x f) k = evRes (aop T G fr H (.fieldAddr t x f)) k := rfl
theorem evOp_field {t : TypeId} {x : Operand} {f : Nat} {k : AV → AH → Prop} : evOp T G C fr H (.field t x f) k = evRes (aop T G fr H (.field t x f)) k := rfl
theorem evOp_indexAddr {t : TypeId} {x y : Operand} {k : AV → AH → Prop} : evOp T G C fr H (.indexAddr t x y) k = evRes (aop T G fr H (.indexAddr t x y)) k := rfl
theorem evOp_index {t : TypeId} {x y : Operand} {k : AV → AH → Prop} : evOp T G C fr H (.index t x y) k = evRes (aop T G fr H (.index t x y)) k := rfl
theorem evOp_extract {x : Operand} {i : Nat} {k : AV → AH → Prop} : evOp T G C fr H (.extract x i) k = evRes (aop T G fr H (.extract x i)) k := rfl
theorem evOp_builtin {b : Builtin} {args : Array Operand} {ts : Array TypeId} {k : AV → AH → Prop} : evOp T G C fr H (.call { callee := .builtin b, args := args, argTypes := ts }) k = evRes (aop T G fr H (.call { callee := .builtin b, args := args, argTypes := ts })) k := rfl
theorem evList_none {ops : Array Oper} {K : List AV → AH → Prop} {d : Option Tmp} {op : Op} {t : TypeId} {p : String} {es : Array Edge} {rest : List Oper} :
    evList T G C ops K (⟨d, op, t, p, es, none⟩ :: rest) fr H = evOp T G C fr H op (fun v H' => evList T G C ops K rest (aput fr d v) H') := rfl
def evGuard (y : Option Bool) (want : Bool) (A B : Prop) : Prop := if y = some want then A else B
theorem evGuard_tt {A B : Prop} : evGuard (some true) true A B = A := by simp [evGuard]
theorem evGuard_ff {A B : Prop} : evGuard (some false) false A B = A := by simp [evGuard]
theorem evGuard_tf {A B : Prop} : evGuard (some true) false A B = B := by simp [evGuard]
theorem evGuard_ft {A B : Prop} : evGuard (some false) true A B = B := by simp [evGuard]
theorem evGuard_none {A B : Prop} {w : Bool} : evGuard none w A B = B := by simp [evGuard]
theorem evGuard_congr {y y' : Option Bool} {w : Bool} {A B : Prop} (h : y = y') : evGuard y w A B = evGuard y' w A B := by rw [h]
theorem evRes_congr {r r' : Option (AV × AH)} {k : AV → AH → Prop} (h : r = r') : evRes r k = evRes r' k := by rw [h]
theorem evList_congr {ops : Array Oper} {K : List AV → AH → Prop} {l : List Oper} {fr' : List AV} {H' : AH} (h1 : fr = fr') (h2 : H = H') : evList T G C ops K l fr H = evList T G C ops K l fr' H' := by rw [h1, h2]
theorem evList_some {ops : Array Oper} {K : List AV → AH → Prop} {d : Option Tmp} {op : Op} {t : TypeId} {p : String} {es : Array Edge} {j : Nat} {want : Bool} {rest : List Oper} :
    evList T G C ops K (⟨d, op, t, p, es, some (j, want)⟩ :: rest) fr H = evGuard (ayielded ops fr j) want (evOp T G C fr H op (fun v H' => evList T G C ops K rest (aput fr d v) H')) (evList T G C ops K rest (aput fr d (.tup [])) H) := by
  conv => lhs; unfold evList
  simp only [Region.wanted, beq_iff_eq, evGuard]
theorem evList_end {ops : Array Oper} {K : List AV → AH → Prop} : evList T G C ops K [] fr H = K fr H := rfl
theorem aput_some {d : Tmp} {v : AV} : aput fr (some d) v = fr.set d v := rfl
theorem aput_none {v : AV} : aput fr none v = fr := rfl
theorem cond_av {t a b : Bool} : (bif t then AV.bool a else AV.bool b) = AV.bool (bif t then a else b) := by cases t <;> rfl
end Go.Abs
