/- The abstract interpreter, as a predicate transformer; loops and calls are least fixpoints. -/
import Derived.Test.YtmndnfpobhebjaaGreatAbnMapOps
namespace Go.Abs

def abuiltin (T : TT) (H : AH) (b : Builtin) (ts : Array TypeId) (args : List AV) : Option (AV × AH) :=
  match b, ts.toList, args with
  | .len, [t], [x] => match (T t).d, x with
    | .str, .str s => some (.int .i64 s.length, H)
    | .slice _, .lit _ _ _ n => some (.int .i64 n, H)
    | .slice _, .own _ _ _ _ n _ => some (.int .i64 n, H)
    | .slice _, .ref _ _ _ n _ => some (.int .i64 n, H)
    | .arr n _, _ => some (.int .i64 n, H)
    | .map _ _, x => (amaplen H x).map (·, H)
    | _, _ => none
  | .append, [t, u], [s, x] => aappend T H t u s x
  | .copy, [t, _], [d, x] => acopy T H t d x
  | .min, _, [.int k a, .int k' b] => if k = k' then some (.int k (if b < a then b else a), H) else none
  | .max, _, [.int k a, .int k' b] => if k = k' then some (.int k (if b > a then b else a), H) else none
  | .delete, [t, _], [m, k] => (adelete T H t m k).map fun H' => (.tup [], H')
  | .clear, [t], [x] => match (T t).d, x with
    | .slice _, .lit _ _ _ 0 => some (.tup [], H)
    | .slice e, .ref _ l off n sz => if sz = (T e).size ∧ 0 < n then (awrite H l off (List.replicate n (T e).zero).flatten).map fun H' => (.tup [], H') else if n = 0 then some (.tup [], H) else none
    | _, _ => none
  | _, _, _ => none

def aop (T : TT) (G : Nat → Option (List AV)) (fr : List AV) (H : AH) : Op → Option (AV × AH)
  | .move x | .assign x => (aval G fr x).map (·, H)
  | .pick c a b => match aval G fr c, aval G fr a, aval G fr b with
    | some (.bool t), some u, some v => some (bif t then u else v, H)
    | _, _, _ => none
  | .alloc e => if (T e).d.known then some (.ptr H.length 0, H ++ [.cells (T e).zero]) else none
  | .box _ x => ((aval G fr x).bind acell).map fun cs => (.ptr H.length 0, H ++ [.cells cs])
  | .build t parts => match parts.toList.mapM fun p => (aval G fr p.2).map fun v => (p.1, v) with
    | some ps => match (T t).d with
      | .struct fs => (afill (fun i => (fs[i]?).map fun f => (f.2.1, (T f.2.2).size)) (T t).zero ps).map fun cs => (.agg cs, H)
      | .arr _ e => (afill (fun i => some (i * (T e).size, (T e).size)) (T t).zero ps).map fun cs => (.agg cs, H)
      | _ => none
    | none => none
  | .buildSlice t len parts => match parts.toList.mapM fun p => (aval G fr p.2).map fun v => (p.1, v) with
    | some ps => match (T t).d with
      | .slice e => if len * (T e).size ≤ 16777216 ∧ len ≤ 16777216 then
          (afill (fun i => some (i * (T e).size, (T e).size)) (List.replicate len (T e).zero).flatten ps).map fun cs => (.ref true H.length 0 len (T e).size, H ++ [.cells cs]) else none
      | _ => none
    | none => none
  | .load t a => ((aval G fr a).bind (aload T H t)).map (·, H)
  | .store t a x => match aval G fr a, aval G fr x with
    | some p, some v => (astore T H t p v).map fun H' => (.tup [], H')
    | _, _ => none
  | .nilCheck x => match aval G fr x with
    | some .nilptr | some .nilif | some .nilfn | some .any | none => none
    | some v => some (v, H)
  | .binOp op t x y _ => match aval G fr x, aval G fr y with
    | some a, some b => (abin T op t a b).map (·, H)
    | _, _ => none
  | .unOp op _ x => ((aval G fr x).bind (aun op)).map (·, H)
  | .convert s d x => (aval G fr x).bind (aconvert T H s d)
  | .makeFunc (.func f) first caps => match first.toList.mapM (aval G fr), caps.toList.mapM (aval G fr) with
    | some fs, some cs => some (.fn f fs cs, H)
    | _, _ => none
  | .makeSlice t n c => match aval G fr n, aval G fr c with
    | some n, some c => amake T H t n c
    | _, _ => none
  | .slice t x lo hi mx => match aval G fr x, lo.mapM (aval G fr), hi.mapM (aval G fr), mx.mapM (aval G fr) with
    | some x, some lo, some hi, some mx => (aslice T H t x lo hi mx).map (·, H)
    | _, _, _, _ => none
  | .fieldAddr s x f => match (T s).d with
    | .struct fs => match fs[f]?, aval G fr x with
      | some f, some (.ptr l o) => if (T f.2.2).size = 0 then none else some (.ptr l (o + f.2.1), H)
      | some f, some (.lptr cs o) => if (T f.2.2).size = 0 then none else some (.lptr cs (o + f.2.1), H)
      | _, _ => none
    | _ => none
  | .field t x f => match (T t).d with
    | .struct fs => match fs[f]?, aval G fr x with
      | some f, some (.agg cs) => (apart T f.2.2 cs f.2.1).map (·, H)
      | _, _ => none
    | _ => none
  | .indexAddr t x i => match aval G fr x, aval G fr i with
    | some x, some i => (aindexAddr T t x i).map (·, H)
    | _, _ => none
  | .index t x i => match aval G fr x, aval G fr i with
    | some x, some i => (aindex T t x i).map (·, H)
    | _, _ => none
  | .extract x i => match aval G fr x with
    | some (.tup cs) => (cs[i]?).map (·, H)
    | _ => none
  | .makeMap _ none => some (.map H.length, H ++ [.map [] [] 0])
  | .range t x => (aval G fr x).bind (arange T H t)
  | .entry x => ((aval G fr x).bind (aentry H)).map (·, H)
  | .lookup t m k ok => match aval G fr m, aval G fr k with
    | some m, some k => (alookup T H t m k ok).map (·, H)
    | _, _ => none
  | .mapUpdate t m k v | .insert t m k v => match aval G fr m, aval G fr k, aval G fr v with
    | some m, some k, some v => (aupdate T H t m k v).map fun H' => (.tup [], H')
    | _, _, _ => none
  | .call { callee := .builtin b, args, argTypes } => (args.toList.mapM (aval G fr)).bind (abuiltin T H b argTypes)
  | _ => none

/-- How a piece of code is left. -/
inductive AX where
  | normal
  | exit (id : Nat)
  | ret

abbrev ACall := FuncId → List AV → AH → (AV → AH → Prop) → Prop

def aput (fr : List AV) (d : Option Tmp) (v : AV) : List AV :=
  match d with
  | some d => fr.set d v
  | none => fr

def ayielded (ops : Array Oper) (fr : List AV) (j : Nat) : Option Bool :=
  match ((ops[j]?).bind (·.dst)).bind (fr[·]?) with
  | some (.bool b) => some b
  | _ => none

/-- A slice that is built and never written to. -/
def afrozen (T : TT) (G : Nat → Option (List AV)) (fr : List AV) (t : TypeId) (len : Nat) (parts : Array (Nat × Operand)) : Option AV :=
  match parts.toList.mapM fun p => (aval G fr p.2).map fun v => (p.1, v) with
  | some ps => match (T t).d with
    | .slice e => if len * (T e).size ≤ 16777216 ∧ len ≤ 16777216 then (afill (fun i => some (i * (T e).size, (T e).size)) (List.replicate len (T e).zero).flatten ps).map fun cs => .lit false true cs len else none
    | _ => none
  | none => none
/-- Other ways to tell an operation. -/
def aalt (T : TT) (G : Nat → Option (List AV)) (fr : List AV) (H : AH) (j : Nat) : Op → Option (AV × AH)
  | .buildSlice t len parts => (afrozen T G fr t len parts).map (·, H)
  | .call { callee := .builtin .append, args, argTypes } => match argTypes.toList, args.toList.mapM (aval G fr) with
    | [t, u], some [s, x] => aappendF T H (j == 0) t u s x
    | _, _ => none
  | .convert s d x => (aval G fr x).bind (aconvertF T H s d)
  | .makeSlice t n c => match aval G fr n, aval G fr c with
    | some n, some c => amakeF T H t n c
    | _, _ => none
  | _ => none
/-- A step of a loop over a map: the entries that may come. -/
def anext (H : AH) : AV → Option (List (AV × AV × Nat) × Nat × Option (Nat × Nat × List Nat × Nat))
  | .ptr p 0 => (aleft H p).map fun r => (r.1, p, r.2)
  | _ => none
/-- What an operation comes to. -/
def evRes (r : Option (AV × AH)) (k : AV → AH → Prop) : Prop := match r with
  | some (v, H') => k v H'
  | none => False
/-- One operation: what follows gets the value and the heap; some may be told in more than one way. -/
def evOp (T : TT) (G : Nat → Option (List AV)) (C : ACall) (fr : List AV) (H : AH) (op : Op) (k : AV → AH → Prop) : Prop :=
  match op with
  | .call { callee := .value f, args, .. } => match aval G fr f, args.toList.mapM (aval G fr) with
    | some (.fn g first caps), some as => C g (first ++ as ++ caps) H k
    | _, _ => False
  | .buildSlice t len parts => evRes (aop T G fr H (.buildSlice t len parts)) k ∨ ∃ j, evRes (aalt T G fr H j (.buildSlice t len parts)) k
  | .call { callee := .builtin .append, args, argTypes } => evRes (aop T G fr H (.call { callee := .builtin .append, args, argTypes })) k ∨ ∃ j, evRes (aalt T G fr H j (.call { callee := .builtin .append, args, argTypes })) k
  | .convert s d x => evRes (aop T G fr H (.convert s d x)) k ∨ ∃ j, evRes (aalt T G fr H j (.convert s d x)) k
  | .makeSlice t n c => evRes (aop T G fr H (.makeSlice t n c)) k ∨ ∃ j, evRes (aalt T G fr H j (.makeSlice t n c)) k
  | .next it false => match (aval G fr it).bind (anext H) with
    | some ([], _) => k (.tup [.bool false]) H
    | some (e :: L, p, some (l, since, seen, clock)) => ∀ e' ∈ e :: L, k (.tup [.bool true, e'.1, e'.2.1]) (H.set p (.iter (some l) since (seen ++ [e'.2.2]) clock))
    | _ => False
  | op => evRes (aop T G fr H op) k

def evOps (T : TT) (G : Nat → Option (List AV)) (C : ACall) (ops : Array Oper) (K : List AV → AH → Prop) : List Nat → List AV → AH → Prop
  | [], fr, H => K fr H
  | i :: rest, fr, H => match ops[i]? with
    | none => evOps T G C ops K rest fr H
    | some o => if Region.wanted o (ayielded ops fr) = true then evOp T G C fr H o.op (fun v H' => evOps T G C ops K rest (aput fr o.dst v) H')
      else evOps T G C ops K rest (aput fr o.dst (.tup [])) H

abbrev APost := AX → List AV → AH → Prop

/-- A loop: the least thing that is closed under a round and under a view shift. -/
def Loop (n : Nat) (B : List AV → AH → APost → Prop) (Q : APost) (fr : List AV) (H : AH) : Prop :=
  ∀ I : List AV → AH → Prop,
    (∀ fr H, B fr H (fun e fr' H' => match e with | .normal => I fr' H' | e => Q e fr' H') → I fr H) →
    (∀ fr H fr' H', VS n fr H fr' H' → I fr' H' → I fr H) → I fr H

/-- The code, run from a frame and a heap; n: how many blocks there were when the function began. -/
def ev (T : TT) (G : Nat → Option (List AV)) (mx : Bool) (C : ACall) (n : Nat) : Code → List AV → AH → APost → Prop
  | .skip, fr, H, Q => Q .normal fr H
  | .region _ ops d, fr, H, Q => if d then ∀ t, evOps T G C ops (fun fr H => ∃ fr' H', VS n fr H fr' H' ∧ Q .normal fr' H') (Region.schedule mx ops t) fr H else evOps T G C ops (Q .normal) (List.range ops.size) fr H
  | .seq a b, fr, H, Q => ev T G mx C n a fr H (fun e fr' H' => match e with | .normal => ∃ fr2 H2, VS n fr' H' fr2 H2 ∧ ev T G mx C n b fr2 H2 Q | e => Q e fr' H')
  | .cond c a b, fr, H, Q => match aval G fr c with
    | some (.bool true) => ev T G mx C n a fr H Q
    | some (.bool false) => ev T G mx C n b fr H Q
    | _ => False
  | .block id c, fr, H, Q => ev T G mx C n c fr H (fun e fr' H' => match e with | .exit i => if i = id then Q .normal fr' H' else Q (.exit i) fr' H' | e => Q e fr' H')
  | .loop c, fr, H, Q => Loop n (fun fr H Q => ev T G mx C n c fr H Q) Q fr H
  | .exit id, fr, H, Q => Q (.exit id) fr H
  | .scope c, fr, H, Q => ev T G mx C n c fr H Q
  | .label _, fr, H, Q => Q .normal fr H
  | .ret, fr, H, Q => Q .ret fr H
  | _, _, _, _ => False

/-- What a function hands back. -/
def ares (T : TT) (fr : List AV) (H : AH) : ResultVar → Option AV
  | .tmp t => some (fr.getD t (.tup []))
  | .cell a t => aload T H t (fr.getD a (.tup []))
def one : List AV → AV
  | [v] => v
  | vs => .tup vs
def aresults (T : TT) (fn : Func) (fr : List AV) (H : AH) : Option AV := (fn.results.toList.mapM (ares T fr H)).map one

/-- One function, its calls by C. -/
def body (P : Program) (T : TT) (G : Nat → Option (List AV)) (C : ACall) (f : FuncId) (args : List AV) (H : AH) (k : AV → AH → Prop) : Prop :=
  ∃ fn c, P.funcs[f]? = some fn ∧ fn.body = some c ∧ (fn.name == "runtime.NumGoroutine") = false ∧
    ev T G (P.follows .mixedOrders) C H.length c (args ++ List.replicate (fn.ntmps - args.length) (.tup [])) H (fun e fr H' =>
      (match e with | .exit _ => False | _ => True) ∧ ∃ r, aresults T fn fr H' = some r ∧ ∃ r' H'', VS H.length [r] H' [r'] H'' ∧ k r' H'')

theorem evRes_mono {r : Option (AV × AH)} {k k' : AV → AH → Prop} (hk : ∀ r H, k r H → k' r H) (h : evRes r k) : evRes r k' := by
  unfold evRes at h ⊢
  split at h
  · exact hk _ _ h
  · exact h.elim
theorem evOp_mono {T : TT} {G : Nat → Option (List AV)} {C C' : ACall} {fr : List AV} {H : AH} {op : Op} {k k' : AV → AH → Prop}
    (hC : ∀ f args H (k k' : AV → AH → Prop), (∀ r H, k r H → k' r H) → C f args H k → C' f args H k') (hk : ∀ r H, k r H → k' r H) (h : evOp T G C fr H op k) : evOp T G C' fr H op k' := by
  unfold evOp at h ⊢
  split at h
  · split at h
    · exact hC _ _ _ _ _ hk h
    · exact h.elim
  · exact h.imp (evRes_mono hk) fun ⟨j, h⟩ => ⟨j, evRes_mono hk h⟩
  · exact h.imp (evRes_mono hk) fun ⟨j, h⟩ => ⟨j, evRes_mono hk h⟩
  · exact h.imp (evRes_mono hk) fun ⟨j, h⟩ => ⟨j, evRes_mono hk h⟩
  · exact h.imp (evRes_mono hk) fun ⟨j, h⟩ => ⟨j, evRes_mono hk h⟩
  · split at h
    · exact hk _ _ h
    · exact fun e' he => hk _ _ (h e' he)
    · exact h.elim
  · exact evRes_mono hk h

theorem evOps_mono {T : TT} {G : Nat → Option (List AV)} {C C' : ACall} {ops : Array Oper} {K K' : List AV → AH → Prop}
    (hC : ∀ f args H (k k' : AV → AH → Prop), (∀ r H, k r H → k' r H) → C f args H k → C' f args H k') (hk : ∀ fr H, K fr H → K' fr H) :
    ∀ (l : List Nat) (fr : List AV) (H : AH), evOps T G C ops K l fr H → evOps T G C' ops K' l fr H
  | [], fr, H, h => hk _ _ h
  | i :: rest, fr, H, h => by
    unfold evOps at h ⊢
    split at h
    · rename_i h1
      exact evOps_mono hC hk rest _ _ h
    · rename_i o h1
      split at h
      · rename_i hw
        rw [if_pos hw]
        exact evOp_mono hC (fun r H' hr => evOps_mono hC hk rest _ _ hr) h
      · rename_i hw
        rw [if_neg hw]
        exact evOps_mono hC hk rest _ _ h

theorem ev_mono {T : TT} {G : Nat → Option (List AV)} {mx : Bool} {n : Nat} {C C' : ACall}
    (hC : ∀ f args H (k k' : AV → AH → Prop), (∀ r H, k r H → k' r H) → C f args H k → C' f args H k') :
    ∀ (c : Code) (fr : List AV) (H : AH) (Q Q' : APost), (∀ e fr H, Q e fr H → Q' e fr H) → ev T G mx C n c fr H Q → ev T G mx C' n c fr H Q' := by
  intro c
  induction c with
  | skip => intro fr H Q Q' hq h; exact hq _ _ _ h
  | region id ops d =>
    intro fr H Q Q' hq h
    unfold ev at h ⊢
    split at h
    · rename_i hd
      rw [if_pos hd]
      exact fun t => evOps_mono hC (fun fr H ⟨fr', H', hv, hn⟩ => ⟨fr', H', hv, hq .normal _ _ hn⟩) _ _ _ (h t)
    · rename_i hd
      rw [if_neg hd]
      exact evOps_mono hC (hq .normal) _ _ _ h
  | seq a b iha ihb =>
    intro fr H Q Q' hq h
    unfold ev at h ⊢
    refine iha _ _ _ _ (fun e fr' H' h' => ?_) h
    cases e with
    | normal => obtain ⟨fr2, H2, hv, h2⟩ := h'; exact ⟨fr2, H2, hv, ihb _ _ _ _ hq h2⟩
    | exit id => exact hq _ _ _ h'
    | ret => exact hq _ _ _ h'
  | cond c a b iha ihb =>
    intro fr H Q Q' hq h
    unfold ev at h ⊢
    split at h
    · exact iha _ _ _ _ hq h
    · exact ihb _ _ _ _ hq h
    · exact h.elim
  | block id c ih =>
    intro fr H Q Q' hq h
    unfold ev at h ⊢
    refine ih _ _ _ _ (fun e fr' H' h' => ?_) h
    cases e with
    | normal => exact hq _ _ _ h'
    | ret => exact hq _ _ _ h'
    | exit i =>
      simp only at h' ⊢
      split at h'
      · rename_i e; rw [if_pos e]; exact hq _ _ _ h'
      · rename_i e; rw [if_neg e]; exact hq _ _ _ h'
  | loop c ih =>
    intro fr H Q Q' hq h
    unfold ev at h ⊢
    intro I h1 h2
    refine h I (fun fr H hB => h1 fr H ?_) h2
    refine ih _ _ _ _ (fun e fr' H' h' => ?_) hB
    cases e with
    | normal => exact h'
    | exit id => exact hq _ _ _ h'
    | ret => exact hq _ _ _ h'
  | rangeFunc f ps a b _ _ => intro fr H Q Q' hq h; exact h.elim
  | exit id => intro fr H Q Q' hq h; exact hq _ _ _ h
  | scope c ih => intro fr H Q Q' hq h; unfold ev at h ⊢; exact ih _ _ _ _ hq h
  | label l => intro fr H Q Q' hq h; exact hq _ _ _ h
  | goto l => intro fr H Q Q' hq h; exact h.elim
  | ret => intro fr H Q Q' hq h; exact hq _ _ _ h
  | refuse w => intro fr H Q Q' hq h; exact h.elim

theorem body_mono {P : Program} {T : TT} {G : Nat → Option (List AV)} {C C' : ACall}
    (hC : ∀ f args H (k k' : AV → AH → Prop), (∀ r H, k r H → k' r H) → C f args H k → C' f args H k') {f : FuncId} {args : List AV} {H : AH} {k k' : AV → AH → Prop}
    (hk : ∀ r H, k r H → k' r H) (h : body P T G C f args H k) : body P T G C' f args H k' := by
  obtain ⟨fn, c, h1, h2, h3, h4⟩ := h
  refine ⟨fn, c, h1, h2, h3, ev_mono hC _ _ _ _ _ (fun e fr H' h' => ?_) h4⟩
  obtain ⟨h5, r, h6, r', H'', h7, h8⟩ := h'
  exact ⟨h5, r, h6, r', H'', h7, hk _ _ h8⟩

/-- A call comes to some end. -/
def Mono (C : ACall) : Prop := ∀ f args H (k k' : AV → AH → Prop), (∀ r H, k r H → k' r H) → C f args H k → C f args H k'
def Ends (C : ACall) : Prop := ∀ f args H k, C f args H k → ∃ v H', k v H'
theorem evRes_ends {r : Option (AV × AH)} {k : AV → AH → Prop} (h : evRes r k) : ∃ v H', k v H' := by
  unfold evRes at h
  split at h
  · exact ⟨_, _, h⟩
  · exact h.elim
theorem evOp_ends {T : TT} {G : Nat → Option (List AV)} {C : ACall} {fr : List AV} {H : AH} {op : Op} {k : AV → AH → Prop} (hC : Ends C) (h : evOp T G C fr H op k) : ∃ v H', k v H' := by
  unfold evOp at h
  split at h
  · split at h
    · exact hC _ _ _ _ h
    · exact h.elim
  · exact h.elim evRes_ends fun ⟨_, h⟩ => evRes_ends h
  · exact h.elim evRes_ends fun ⟨_, h⟩ => evRes_ends h
  · exact h.elim evRes_ends fun ⟨_, h⟩ => evRes_ends h
  · exact h.elim evRes_ends fun ⟨_, h⟩ => evRes_ends h
  · split at h
    · exact ⟨_, _, h⟩
    · exact ⟨_, _, h _ List.mem_cons_self⟩
    · exact h.elim
  · exact evRes_ends h
theorem evOps_ends {T : TT} {G : Nat → Option (List AV)} {C : ACall} {ops : Array Oper} {K : List AV → AH → Prop} (hC : Ends C) : ∀ (l : List Nat) (fr : List AV) (H : AH), evOps T G C ops K l fr H → ∃ fr H, K fr H
  | [], fr, H, h => ⟨fr, H, h⟩
  | i :: rest, fr, H, h => by
    unfold evOps at h
    split at h
    · exact evOps_ends hC rest _ _ h
    · split at h
      · obtain ⟨v, H', h'⟩ := evOp_ends hC h
        exact evOps_ends hC rest _ _ h'
      · exact evOps_ends hC rest _ _ h
theorem ev_ends {T : TT} {G : Nat → Option (List AV)} {mx : Bool} {n : Nat} {C : ACall} (hC : Ends C) : ∀ (c : Code) (fr : List AV) (H : AH) (Q : APost), ev T G mx C n c fr H Q → ∃ e fr H, Q e fr H := by
  intro c
  induction c with
  | skip => intro fr H Q h; exact ⟨_, _, _, h⟩
  | region id ops d =>
    intro fr H Q h
    unfold ev at h
    split at h
    · obtain ⟨fr, H, fr', H', _, h⟩ := evOps_ends hC _ _ _ (h 0)
      exact ⟨_, _, _, h⟩
    · obtain ⟨fr, H, h⟩ := evOps_ends hC _ _ _ h
      exact ⟨_, _, _, h⟩
  | seq a b iha ihb =>
    intro fr H Q h
    unfold ev at h
    obtain ⟨e, fr', H', h'⟩ := iha _ _ _ h
    cases e with
    | normal => obtain ⟨fr2, H2, _, h2⟩ := h'; exact ihb _ _ _ h2
    | exit id => exact ⟨_, _, _, h'⟩
    | ret => exact ⟨_, _, _, h'⟩
  | cond c a b iha ihb =>
    intro fr H Q h
    unfold ev at h
    split at h
    · exact iha _ _ _ h
    · exact ihb _ _ _ h
    · exact h.elim
  | block id c ih =>
    intro fr H Q h
    unfold ev at h
    obtain ⟨e, fr', H', h'⟩ := ih _ _ _ h
    cases e with
    | normal => exact ⟨_, _, _, h'⟩
    | ret => exact ⟨_, _, _, h'⟩
    | exit i =>
      simp only at h'
      split at h'
      · exact ⟨_, _, _, h'⟩
      · exact ⟨_, _, _, h'⟩
  | loop c ih =>
    intro fr H Q h
    unfold ev at h
    refine h (fun _ _ => ∃ e fr H, Q e fr H) (fun fr H hB => ?_) (fun _ _ _ _ _ h => h)
    obtain ⟨e, fr', H', h'⟩ := ih _ _ _ hB
    cases e with
    | normal => exact h'
    | exit id => exact ⟨_, _, _, h'⟩
    | ret => exact ⟨_, _, _, h'⟩
  | rangeFunc f ps a b _ _ => intro fr H Q h; exact h.elim
  | exit id => intro fr H Q h; exact ⟨_, _, _, h⟩
  | scope c ih => intro fr H Q h; unfold ev at h; exact ih _ _ _ h
  | label l => intro fr H Q h; exact ⟨_, _, _, h⟩
  | goto l => intro fr H Q h; exact h.elim
  | ret => intro fr H Q h; exact ⟨_, _, _, h⟩
  | refuse w => intro fr H Q h; exact h.elim
end Go.Abs
