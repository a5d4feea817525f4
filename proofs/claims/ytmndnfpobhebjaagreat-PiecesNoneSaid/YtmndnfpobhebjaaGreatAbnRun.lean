/- Words for running the interpreter by hand: a region as a list of operations, one at a time. -/
import Derived.Test.YtmndnfpobhebjaaGreatAbnTyB
namespace Go.Abs

/-- A region's operations, one behind the other. -/
def evList (T : TT) (G : Nat → Option (List AV)) (C : ACall) (ops : Array Oper) (K : List AV → AH → Prop) : List Oper → List AV → AH → Prop
  | [], fr, H => K fr H
  | o :: rest, fr, H => if Region.wanted o (ayielded ops fr) = true then evOp T G C fr H o.op (fun v H' => evList T G C ops K rest (aput fr o.dst v) H')
      else evList T G C ops K rest (aput fr o.dst (.tup [])) H

theorem evOps_list {T : TT} {G : Nat → Option (List AV)} {C : ACall} {ops : Array Oper} {K : List AV → AH → Prop} : ∀ (l : List Nat) (os : List Oper), (∀ (j : Nat), j < l.length → (l[j]?).bind (ops[·]?) = os[j]?) → l.length = os.length →
    ∀ fr H, evOps T G C ops K l fr H = evList T G C ops K os fr H
  | [], [], _, _, _, _ => rfl
  | [], _ :: _, _, hn, _, _ => by simp at hn
  | _ :: _, [], _, hn, _, _ => by simp at hn
  | i :: l, o :: os, hj, hn, fr, H => by
    have h0 := hj 0 (by simp)
    simp only [List.getElem?_cons_zero, Option.bind_some] at h0
    have hrest : ∀ (j : Nat), j < l.length → (l[j]?).bind (ops[·]?) = os[j]? := fun j hl => by
      have := hj (j + 1) (by simpa using hl)
      simpa using this
    have ih := evOps_list (T := T) (G := G) (C := C) (K := K) l os hrest (by simpa using hn)
    unfold evOps evList
    rw [h0]
    simp only [ih]
theorem evOps_range {T : TT} {G : Nat → Option (List AV)} {C : ACall} {ops : Array Oper} {K : List AV → AH → Prop} (fr : List AV) (H : AH) : evOps T G C ops K (List.range ops.size) fr H = evList T G C ops K ops.toList fr H :=
  evOps_list _ _ (fun j hj => by
    rw [List.length_range] at hj
    rw [List.getElem?_range hj]
    simp) (by simp) fr H

theorem ev_region {T : TT} {G : Nat → Option (List AV)} {mx : Bool} {C : ACall} {n id : Nat} {ops : Array Oper} {fr : List AV} {H : AH} {Q : APost} : ev T G mx C n (.region id ops false) fr H Q = evList T G C ops (Q .normal) ops.toList fr H := by
  unfold ev
  simp only [Bool.false_eq_true, if_false]
  exact evOps_range fr H

/-- What follows a piece of code. -/
def AX.then (b : List AV → AH → Prop) (Q : APost) : APost := fun e fr H => match e with
  | .normal => b fr H
  | e => Q e fr H
theorem then_normal {b : List AV → AH → Prop} {Q : APost} {fr : List AV} {H : AH} : AX.then b Q .normal fr H = b fr H := rfl
theorem then_ret {b : List AV → AH → Prop} {Q : APost} {fr : List AV} {H : AH} : AX.then b Q .ret fr H = Q .ret fr H := rfl
theorem then_exit {b : List AV → AH → Prop} {Q : APost} {fr : List AV} {H : AH} {id : Nat} : AX.then b Q (.exit id) fr H = Q (.exit id) fr H := rfl
def AX.inBlock (id : Nat) (Q : APost) : APost := fun e fr H => match e with
  | .exit i => if i = id then Q .normal fr H else Q (.exit i) fr H
  | e => Q e fr H
theorem inBlock_normal {id : Nat} {Q : APost} {fr : List AV} {H : AH} : AX.inBlock id Q .normal fr H = Q .normal fr H := rfl
theorem inBlock_ret {id : Nat} {Q : APost} {fr : List AV} {H : AH} : AX.inBlock id Q .ret fr H = Q .ret fr H := rfl
theorem inBlock_exit {id i : Nat} {Q : APost} {fr : List AV} {H : AH} : AX.inBlock id Q (.exit i) fr H = if i = id then Q .normal fr H else Q (.exit i) fr H := rfl

variable {T : TT} {G : Nat → Option (List AV)} {mx : Bool} {C : ACall} {n : Nat} {fr : List AV} {H : AH} {Q : APost}
theorem ev_skip : ev T G mx C n .skip fr H Q = Q .normal fr H := rfl
theorem ev_seq {a b : Code} : ev T G mx C n (.seq a b) fr H Q = ev T G mx C n a fr H (AX.then (fun fr H => ∃ fr2 H2, VS n fr H fr2 H2 ∧ ev T G mx C n b fr2 H2 Q) Q) := by
  conv => lhs; unfold ev
  refine congrArg _ ?_
  funext e fr' H'
  cases e <;> rfl
theorem ev_block {id : Nat} {c : Code} : ev T G mx C n (.block id c) fr H Q = ev T G mx C n c fr H (AX.inBlock id Q) := by
  conv => lhs; unfold ev
  refine congrArg _ ?_
  funext e fr' H'
  cases e <;> rfl
theorem ev_exit {id : Nat} : ev T G mx C n (.exit id) fr H Q = Q (.exit id) fr H := rfl
theorem ev_scope {c : Code} : ev T G mx C n (.scope c) fr H Q = ev T G mx C n c fr H Q := rfl
theorem ev_label {l : Nat} : ev T G mx C n (.label l) fr H Q = Q .normal fr H := rfl
theorem ev_ret : ev T G mx C n .ret fr H Q = Q .ret fr H := rfl
theorem ev_cond {c : Operand} {a b : Code} : ev T G mx C n (.cond c a b) fr H Q = match aval G fr c with
    | some (.bool true) => ev T G mx C n a fr H Q
    | some (.bool false) => ev T G mx C n b fr H Q
    | _ => False := rfl
theorem ev_loop {c : Code} : ev T G mx C n (.loop c) fr H Q = Loop n (fun fr H Q => ev T G mx C n c fr H Q) Q fr H := rfl

/-- One round. -/
theorem loop_round {P : Program} {c : Code} (h : ev T G mx (EvCall P T G) n c fr H (AX.then (fun fr H => ev T G mx (EvCall P T G) n (.loop c) fr H Q) Q)) : ev T G mx (EvCall P T G) n (.loop c) fr H Q := by
  rw [ev_loop]
  intro I h1 h2
  refine h1 fr H ?_
  show ev T G mx (EvCall P T G) n c fr H _
  refine ev_mono (C := EvCall P T G) (C' := EvCall P T G) (fun f args H k k' hk hc => EvCall.mono hk hc) _ _ _ _ _ (fun e fr' H' he => ?_) h
  cases e with
  | normal => exact he I h1 h2
  | exit id => exact he
  | ret => exact he
theorem loop_shift {c : Code} {fr' : List AV} {H' : AH} (hv : VS n fr H fr' H') (h : ev T G mx C n (.loop c) fr' H' Q) : ev T G mx C n (.loop c) fr H Q := by
  rw [ev_loop] at h ⊢
  intro I h1 h2
  exact h2 fr H fr' H' hv (h I h1 h2)

/-- A call, by its function's body. -/
theorem call_intro {P : Program} {f : FuncId} {fn : Func} {c : Code} {args : List AV} {k : AV → AH → Prop} (h1 : P.funcs[f]? = some fn) (h2 : fn.body = some c) (h3 : (fn.name == "runtime.NumGoroutine") = false)
    (h4 : ev T G (P.follows .mixedOrders) (EvCall P T G) H.length c (args ++ List.replicate (fn.ntmps - args.length) (.tup [])) H (fun e fr H' =>
      (match e with | .exit _ => False | _ => True) ∧ ∃ r, aresults T fn fr H' = some r ∧ ∃ r' H'', VS H.length [r] H' [r'] H'' ∧ k r' H'')) : EvCall P T G f args H k :=
  EvCall.intro ⟨fn, c, h1, h2, h3, h4⟩

theorem evOp_call {f : Operand} {args : Array Operand} {ts : Array TypeId} {k : AV → AH → Prop} : evOp T G C fr H (.call { callee := .value f, args := args, argTypes := ts }) k = match aval G fr f, args.toList.mapM (aval G fr) with
    | some (.fn g first caps), some as => C g (first ++ as ++ caps) H k
    | _, _ => False := rfl
theorem evRes_some {v : AV} {H' : AH} {k : AV → AH → Prop} : evRes (some (v, H')) k = k v H' := rfl
theorem evList_end {ops : Array Oper} {K : List AV → AH → Prop} : evList T G C ops K [] fr H = K fr H := rfl
theorem aput_some {d : Tmp} {v : AV} : aput fr (some d) v = fr.set d v := rfl
theorem aput_none {v : AV} : aput fr none v = fr := rfl
theorem evOp_of {op : Op} {v : AV} {H' : AH} (ho : aop T G fr H op = some (v, H')) {k : AV → AH → Prop} (h : k v H') : evOp T G C fr H op k := by
  unfold evOp
  split
  · simp [aop] at ho
  · left; rw [ho]; exact h
  · left; rw [ho]; exact h
  · left; rw [ho]; exact h
  · left; rw [ho]; exact h
  · simp [aop] at ho
  · rw [ho]; exact h
theorem evOp_alt {op : Op} {j : Nat} {v : AV} {H' : AH} (ho : aalt T G fr H j op = some (v, H')) {k : AV → AH → Prop} (h : k v H') : evOp T G C fr H op k := by
  have h0 := ho
  unfold aalt at h0
  split at h0
  · right; exact ⟨j, by rw [ho]; exact h⟩
  · right; exact ⟨j, by rw [ho]; exact h⟩
  · right; exact ⟨j, by rw [ho]; exact h⟩
  · right; exact ⟨j, by rw [ho]; exact h⟩
  · cases h0
theorem evOp_frozen {t : TypeId} {len : Nat} {parts : Array (Nat × Operand)} {v : AV} (ho : afrozen T G fr t len parts = some v) {k : AV → AH → Prop} (h : k v H) : evOp T G C fr H (.buildSlice t len parts) k :=
  evOp_alt (j := 0) (by show (afrozen T G fr t len parts).map (·, H) = some (v, H); rw [ho]; rfl) h
/-! ### steps -/
theorem go_seq {a b : Code} (h : ev T G mx C n a fr H (AX.then (fun fr H => ∃ fr2 H2, VS n fr H fr2 H2 ∧ ev T G mx C n b fr2 H2 Q) Q)) : ev T G mx C n (.seq a b) fr H Q := by rw [ev_seq]; exact h
theorem go_region {id : Nat} {ops : Array Oper} (h : evList T G C ops (Q .normal) ops.toList fr H) : ev T G mx C n (.region id ops false) fr H Q := by rw [ev_region]; exact h
theorem do_skip (h : Q .normal fr H) : ev T G mx C n .skip fr H Q := h
theorem do_label {l : Nat} (h : Q .normal fr H) : ev T G mx C n (.label l) fr H Q := h
theorem do_exit {id : Nat} (h : Q (.exit id) fr H) : ev T G mx C n (.exit id) fr H Q := h
theorem do_ret (h : Q .ret fr H) : ev T G mx C n .ret fr H Q := h
theorem do_scope {c : Code} (h : ev T G mx C n c fr H Q) : ev T G mx C n (.scope c) fr H Q := h
theorem cond_t {c : Operand} {a b : Code} (hc : aval G fr c = some (.bool true)) (h : ev T G mx C n a fr H Q) : ev T G mx C n (.cond c a b) fr H Q := by rw [ev_cond, hc]; exact h
theorem cond_f {c : Operand} {a b : Code} (hc : aval G fr c = some (.bool false)) (h : ev T G mx C n b fr H Q) : ev T G mx C n (.cond c a b) fr H Q := by rw [ev_cond, hc]; exact h
theorem go_block {id : Nat} {c : Code} (h : ev T G mx C n c fr H (AX.inBlock id Q)) : ev T G mx C n (.block id c) fr H Q := by rw [ev_block]; exact h
theorem go_cond {c : Operand} {a b : Code} {t : Bool} (hc : aval G fr c = some (.bool t)) (h1 : t = true → ev T G mx C n a fr H Q) (h2 : t = false → ev T G mx C n b fr H Q) : ev T G mx C n (.cond c a b) fr H Q := by
  rw [ev_cond, hc]
  cases t with
  | true => exact h1 rfl
  | false => exact h2 rfl
/-- What stands behind a sequence's first part. -/
theorem go_on {b : List AV → AH → Prop} {Q : APost} {fr2 : List AV} {H2 : AH} {c : Code} (hv : VS n fr H fr2 H2) (h : ev T G mx C n c fr2 H2 Q) : ∃ fr2 H2, VS n fr H fr2 H2 ∧ ev T G mx C n c fr2 H2 Q := ⟨fr2, H2, hv, h⟩
theorem go_same {c : Code} (h : ev T G mx C n c fr H Q) : ∃ fr2 H2, VS n fr H fr2 H2 ∧ ev T G mx C n c fr2 H2 Q := ⟨fr, H, VS.refl _ _ _, h⟩
/-- A call, by its function. -/
theorem go_call {P : Program} {f : FuncId} {fn : Func} {c : Code} {args fr0 : List AV} {k : AV → AH → Prop} (h1 : P.funcs[f]? = some fn) (h2 : fn.body = some c) (h3 : (fn.name == "runtime.NumGoroutine") = false) (h0 : args ++ List.replicate (fn.ntmps - args.length) (.tup []) = fr0)
    (h4 : ev T G (P.follows .mixedOrders) (EvCall P T G) H.length c fr0 H (fun e fr H' => (match e with | .exit _ => False | _ => True) ∧ ∃ r, aresults T fn fr H' = some r ∧ ∃ r' H'', VS H.length [r] H' [r'] H'' ∧ k r' H'')) : EvCall P T G f args H k := by
  subst h0
  exact call_intro h1 h2 h3 h4
/-- Operations one behind the other, run. -/
def kRun (T : TT) (G : Nat → Option (List AV)) (A : Array Oper) : List Oper → List AV → AH → Option (List AV × AH)
  | [], fr, H => some (fr, H)
  | o :: rest, fr, H => match Region.wanted o (ayielded A fr) with
    | true => match aop T G fr H o.op with
      | some (v, H') => kRun T G A rest (aput fr o.dst v) H'
      | none => none
    | false => kRun T G A rest (aput fr o.dst (.tup [])) H
theorem kRun_go {A : Array Oper} {K : List AV → AH → Prop} : ∀ {l rest : List Oper} {fr fr' : List AV} {H H' : AH}, kRun T G A l fr H = some (fr', H') → evList T G C A K rest fr' H' → evList T G C A K (l ++ rest) fr H
  | [], rest, fr, fr', H, H', hr, h => by
    simp only [kRun, Option.some.injEq, Prod.mk.injEq] at hr
    obtain ⟨rfl, rfl⟩ := hr
    exact h
  | o :: l, rest, fr, fr', H, H', hr, h => by
    unfold kRun at hr
    rw [List.cons_append]
    unfold evList
    cases hw : Region.wanted o (ayielded A fr) with
    | true =>
      rw [hw] at hr
      simp only at hr
      split at hr
      · rename_i v H1 ho
        simp only [if_true]
        exact evOp_of ho (kRun_go hr h)
      · cases hr
    | false =>
      rw [hw] at hr
      simp only at hr
      simp only [Bool.false_eq_true, if_false]
      exact kRun_go hr h
theorem go_run {A : Array Oper} {K : List AV → AH → Prop} {l : List Oper} {fr' : List AV} {H' : AH} (m : Nat) (hr : kRun T G A (l.take m) fr H = some (fr', H')) (h : evList T G C A K (l.drop m) fr' H') : evList T G C A K l fr H := by
  have := kRun_go hr h
  rwa [List.take_append_drop] at this
/-- The first operation, told in another way. -/
theorem go_alt {A : Array Oper} {K : List AV → AH → Prop} {l : List Oper} {o : Oper} {v : AV} {H' : AH} {fr' : List AV} (j : Nat) (h0 : l.head? = some o) (hw : Region.wanted o (ayielded A fr) = true) (ho : aalt T G fr H j o.op = some (v, H')) (hp : aput fr o.dst v = fr') (h : evList T G C A K (l.drop 1) fr' H') : evList T G C A K l fr H := by
  cases l with
  | nil => cases h0
  | cons a l =>
    cases h0
    unfold evList
    rw [if_pos hw]
    refine evOp_alt ho ?_
    subst hp
    exact h
/-- The first operation is a call. -/
theorem go_do {A : Array Oper} {K : List AV → AH → Prop} {l : List Oper} {o : Oper} {f : Operand} {args : Array Operand} {ts : Array TypeId} {g : FuncId} {first caps as : List AV} (h0 : l.head? = some o) (hw : Region.wanted o (ayielded A fr) = true) (ho : o.op = .call { callee := .value f, args := args, argTypes := ts })
    (hf : aval G fr f = some (.fn g first caps)) (ha : args.toList.mapM (aval G fr) = some as) (h : C g (first ++ as ++ caps) H (fun v H' => evList T G C A K (l.drop 1) (aput fr o.dst v) H')) : evList T G C A K l fr H := by
  cases l with
  | nil => cases h0
  | cons a l =>
    cases h0
    unfold evList
    rw [if_pos hw, ho, evOp_call, hf, ha]
    exact h
end Go.Abs
