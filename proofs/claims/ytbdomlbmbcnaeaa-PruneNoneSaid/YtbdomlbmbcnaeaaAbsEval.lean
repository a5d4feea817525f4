/- Closed runs: the interpreter as a function, with fuel. -/
import Derived.Test.YtbdomlbmbcnaeaaAbsDraw2
import Derived.Test.YtbdomlbmbcnaeaaAbsWf
namespace Go.Abs
mutual
def AV.same : AV → AV → Bool
  | .bool a, .bool b => a == b
  | .int k a, .int j b => k == j && a == b
  | .str a, .str b => a == b
  | .nilptr, .nilptr => true
  | .ptr l o, .ptr m p => l == m && o == p
  | .lptr a o, .lptr b p => o == p && sames a b
  | .lit n e a l, .lit m f b k => n == m && e == f && l == k && sames a b
  | .ref e l o n s, .ref f m p k t => e == f && l == m && o == p && n == k && s == t
  | .fn f a b, .fn g c d => f == g && sames a c && sames b d
  | .nilfn, .nilfn => true
  | .map l, .map m => l == m
  | .nilmap, .nilmap => true
  | .iface t a, .iface u b => t == u && a.same b
  | .nilif, .nilif => true
  | .agg a, .agg b => sames a b
  | .tup a, .tup b => sames a b
  | _, _ => false
def sames : List AV → List AV → Bool
  | [], [] => true
  | a :: as, b :: bs => a.same b && sames as bs
  | _, _ => false
end
mutual
theorem same_eq : ∀ {a b : AV}, a.same b = true → a = b := by
  intro a b h
  cases a <;> cases b <;> simp only [AV.same, Bool.and_eq_true, beq_iff_eq] at h <;> first
    | (cases h; done)
    | rfl
    | (subst h; rfl)
    | (rw [h])
    | (obtain ⟨rfl, rfl⟩ := h; rfl)
    | (obtain ⟨rfl, h⟩ := h; rw [sames_eq h]; done)
    | (obtain ⟨rfl, h⟩ := h; rw [same_eq h]; done)
    | (obtain ⟨⟨⟨rfl, rfl⟩, rfl⟩, h⟩ := h; rw [sames_eq h]; done)
    | (obtain ⟨⟨⟨⟨rfl, rfl⟩, rfl⟩, rfl⟩, rfl⟩ := h; rfl)
    | (obtain ⟨⟨rfl, h1⟩, h2⟩ := h; rw [sames_eq h1, sames_eq h2]; done)
    | (rw [sames_eq h]; done)
theorem sames_eq : ∀ {a b : List AV}, sames a b = true → a = b := by
  intro a b h
  cases a <;> cases b <;> simp only [sames, Bool.and_eq_true] at h <;> first
    | rfl
    | (cases h; done)
    | (rw [same_eq h.1, sames_eq h.2])
end

abbrev RCall := FuncId → List AV → AH → Option (AV × AH)
def blockSame : AB → AB → Bool
  | .cells a, .cells b => sames a b
  | .map a, .map b => sames (a.map (·.1)) (b.map (·.1)) && sames (a.map (·.2)) (b.map (·.2))
  | .dead, .dead => true
  | _, _ => false
def heapSame : AH → AH → Bool
  | [], [] => true
  | a :: as, b :: bs => blockSame a b && heapSame as bs
  | _, _ => false
theorem pairs_eq {α β : Type} : ∀ {a b : List (α × β)}, a.map (·.1) = b.map (·.1) → a.map (·.2) = b.map (·.2) → a = b
  | [], [], _, _ => rfl
  | [], _ :: _, h, _ => by simp at h
  | _ :: _, [], h, _ => by simp at h
  | a :: as, b :: bs, h1, h2 => by
    simp only [List.map_cons, List.cons.injEq] at h1 h2
    rw [pairs_eq h1.2 h2.2, Prod.ext h1.1 h2.1]
theorem blockSame_eq {a b : AB} (h : blockSame a b = true) : a = b := by
  cases a <;> cases b <;> simp only [blockSame, Bool.and_eq_true] at h <;> first
    | (cases h; done)
    | rfl
    | (rw [sames_eq h]; done)
    | (rw [pairs_eq (sames_eq h.1) (sames_eq h.2)])
theorem heapSame_eq : ∀ {a b : AH}, heapSame a b = true → a = b
  | [], [], _ => rfl
  | [], _ :: _, h => by simp [heapSame] at h
  | _ :: _, [], h => by simp [heapSame] at h
  | a :: as, b :: bs, h => by
    simp only [heapSame, Bool.and_eq_true] at h
    rw [blockSame_eq h.1, heapSame_eq h.2]

section
variable (T : TT) (G : Nat → Option (List AV)) (C : RCall)
def rOp (fr : List AV) (H : AH) (op : Op) : Option (AV × AH) :=
  match op with
  | .call { callee := .value f, args, .. } => match aval G fr f, args.toList.mapM (aval G fr) with
    | some (.fn g first caps), some as => C g (first ++ as ++ caps) H
    | _, _ => none
  | op => aop T G fr H op
/-- As it stands free: a slice that is built is frozen. -/
def rOpF (fr : List AV) (H : AH) (op : Op) : Option (AV × AH) :=
  match op with
  | .buildSlice t len parts => (afrozen T G fr t len parts).map (·, H)
  | op => rOp T G C fr H op
def rList (A : Array Oper) : List Oper → List AV → AH → Option (List AV × AH)
  | [], fr, H => some (fr, H)
  | o :: rest, fr, H => if Region.wanted o (ayielded A fr) = true then match rOp T G C fr H o.op with
      | some (v, H') => rList A rest (aput fr o.dst v) H'
      | none => none
    else rList A rest (aput fr o.dst (.tup [])) H
def rChk (A : Array Oper) (F : List AV) (H : AH) (o : Oper) : Bool :=
  match o.dst.bind (F[·]?) with
  | none => false
  | some v => if Region.wanted o (ayielded A F) = true then match rOpF T G C F H o.op with
      | some (v', H') => v.same v' && (pureOp T o.op || heapSame H H')
      | none => false
    else v.same (.tup [])
/-- Operations that leave the heap be. -/
def rFree (A : Array Oper) : List Oper → List AV → AH → Option (List AV)
  | [], fr, _ => some fr
  | o :: rest, fr, H => if Region.wanted o (ayielded A fr) = true then match rOpF T G C fr H o.op with
      | some (v, H') => if pureOp T o.op || heapSame H H' then rFree A rest (aput fr o.dst v) H else none
      | none => none
    else rFree A rest (aput fr o.dst (.tup [])) H
abbrev Plan := List Nat × List Nat × List Nat × Nat × List PlanRow
def rChain (ops : List Oper) : List PlanRow → List AV → AH → Option (List AV × AH)
  | [], F, H => some (F, H)
  | (c, p, f1, f2) :: rem, F, H => match rList T G C ops.toArray (ops[c]?).toList F H with
    | none => none
    | some (F1, H1) => match rFree T G C ops.toArray (pickOps ops p) F1 H1 with
      | none => none
      | some F2 => if (pickOps ops f1).all (rChk T G C ops.toArray F2 H1) && (pickOps ops f2).all (rChk T G C ops.toArray F2 H1) then rChain ops rem F2 H1 else none
def rPlan (ops : List Oper) (pl : Plan) (fr : List AV) (H : AH) : Option (List AV × AH) :=
  match pl with
  | (p0, f1, f2, _, rows) => match rFree T G C ops.toArray (pickOps ops p0) fr H with
    | none => none
    | some F => if (pickOps ops f1).all (rChk T G C ops.toArray F H) && (pickOps ops f2).all (rChk T G C ops.toArray F H) then rChain T G C ops rows F H else none
def rLoop (body : List AV → AH → Option (AX × List AV × AH)) : Nat → List AV → AH → Option (AX × List AV × AH)
  | 0, _, _ => none
  | n + 1, fr, H => match body fr H with
    | some (.normal, fr', H') => rLoop body n fr' H'
    | r => r
def rCode (tbl : Nat → Option Plan) : Code → List AV → AH → Option (AX × List AV × AH)
  | .skip, fr, H => some (.normal, fr, H)
  | .region id ops d, fr, H => match (if d then (tbl id).bind fun pl => rPlan T G C ops.toList pl fr H else rList T G C ops ops.toList fr H) with
    | some (fr', H') => some (.normal, fr', H')
    | none => none
  | .seq a b, fr, H => match rCode tbl a fr H with
    | some (.normal, fr', H') => rCode tbl b fr' H'
    | r => r
  | .cond c a b, fr, H => match aval G fr c with
    | some (.bool true) => rCode tbl a fr H
    | some (.bool false) => rCode tbl b fr H
    | _ => none
  | .block id c, fr, H => match rCode tbl c fr H with
    | some (.exit i, fr', H') => if i = id then some (.normal, fr', H') else some (.exit i, fr', H')
    | r => r
  | .loop c, fr, H => rLoop (rCode tbl c) 100000 fr H
  | .exit id, fr, H => some (.exit id, fr, H)
  | .scope c, fr, H => rCode tbl c fr H
  | .label _, fr, H => some (.normal, fr, H)
  | .ret, fr, H => some (.ret, fr, H)
  | _, _, _ => none
/-- A function's code and the plans of its drawn regions. -/
def rCall (fns : FuncId → Option (Func × (Nat → Option Plan))) (orc : RCall) : Nat → RCall
  | 0, _, _, _ => none
  | d + 1, f, args, H => match orc f args H with
    | some r => some r
    | none => match fns f with
      | none => none
      | some (fn, tbl) => match fn.body with
        | none => none
        | some c => match rCode T G (rCall fns orc d) tbl c (args ++ List.replicate (fn.ntmps - args.length) (.tup [])) H with
          | some (.exit _, _, _) => none
          | some (_, fr', H') => (aresults T fn fr' H').map (·, H')
          | none => none
end
def codeOk (T : TT) (tbl : Nat → Option Plan) : Code → Bool
  | .region id ops true => match tbl id with
    | some (p0, f1, f2, cp, rows) => planOk T cp ops.toList p0 f1 f2 rows
    | none => true
  | .seq a b => codeOk T tbl a && codeOk T tbl b
  | .cond _ a b => codeOk T tbl a && codeOk T tbl b
  | .block _ c | .loop c | .scope c => codeOk T tbl c
  | _ => true

section
variable {P : Program} {T : TT} {G : Nat → Option (List AV)} {C : RCall}
/-- What the function says of calls is so. -/
def Says (P : Program) (T : TT) (G : Nat → Option (List AV)) (C : RCall) : Prop := ∀ f args H v H', C f args H = some (v, H') → ∀ k : AV → AH → Prop, k v H' → EvCall P T G f args H k
theorem rOp_sound (hC : Says P T G C) {fr : List AV} {H : AH} {op : Op} {v : AV} {H' : AH} (h : rOp T G C fr H op = some (v, H')) {k : AV → AH → Prop} (hk : k v H') : evOp T G (EvCall P T G) fr H op k := by
  unfold rOp at h
  split at h
  · rename_i f args ts
    split at h
    · rename_i g first caps as h1 h2
      rw [evOp_call, h1, h2]
      exact hC _ _ _ _ _ h k hk
    · cases h
  · exact evOp_of h hk
theorem rList_sound (hC : Says P T G C) {A : Array Oper} {K : List AV → AH → Prop} : ∀ (l : List Oper) {fr fr' : List AV} {H H' : AH}, rList T G C A l fr H = some (fr', H') → K fr' H' → evList T G (EvCall P T G) A K l fr H
  | [], fr, fr', H, H', h, hk => by
    simp only [rList, Option.some.injEq, Prod.mk.injEq] at h
    obtain ⟨rfl, rfl⟩ := h
    exact hk
  | o :: rest, fr, fr', H, H', h, hk => by
    unfold rList at h
    unfold evList
    split at h
    · rename_i hw
      rw [if_pos hw]
      split at h
      · rename_i v H1 ho
        exact rOp_sound hC ho (rList_sound hC rest h hk)
      · cases h
    · rename_i hw
      rw [if_neg hw]
      exact rList_sound hC rest h hk
theorem pure_builtin {H H' : AH} {b : Builtin} {args : Array Operand} {ts : Array TypeId} {as : List AV} {v : AV} (hp : pureOp T (.call { callee := .builtin b, args := args, argTypes := ts }) = true) (h : abuiltin T H b ts as = some (v, H')) : H' = H := by
  unfold abuiltin at h
  cases b <;> first | (simp [pureOp] at hp; done) | skip
  all_goals
    generalize ts.toList = l at h
    rcases l with _ | ⟨t, _ | ⟨u, l⟩⟩ <;> rcases as with _ | ⟨x, _ | ⟨y, _ | ⟨z, as⟩⟩⟩ <;> simp only [] at h <;> first
      | (cases h; done)
      | (cases x <;> first | (cases h; done) | (cases y <;> first | (cases h; done) | skip); done)
      | (cases x <;> cases y <;> simp only [] at h <;> first | (cases h; done) | (split at h <;> first | (cases h; rfl) | (cases h; done)))
      | skip
    all_goals repeat' split at h
    all_goals first
      | (cases h; done)
      | (cases h; rfl)
      | (simp only [Option.map_eq_some_iff, Prod.mk.injEq] at h; obtain ⟨_, _, _, rfl⟩ := h; rfl)
theorem pure_heap {fr : List AV} {H H' : AH} {op : Op} {v : AV} (hp : pureOp T op = true) (h : aop T G fr H op = some (v, H')) : H' = H := by
  unfold aop at h
  split at h <;> first
    | (simp only [Option.map_eq_some_iff, Prod.mk.injEq] at h; obtain ⟨_, _, _, rfl⟩ := h; rfl)
    | (simp [pureOp] at hp; done)
    | (cases h; done)
    | skip
  case h_13 =>
    simp only [Option.bind_eq_some_iff] at h
    obtain ⟨x, _, h⟩ := h
    simp only [pureOp] at hp
    unfold aconvert at h
    split at h
    · split at h
      · cases h; rfl
      · cases h; rfl
      · rename_i hd _
        rw [hd] at hp
        cases hp
      · split at h
        · split at h
          · simp only [Option.map_eq_some_iff, Prod.mk.injEq] at h
            obtain ⟨_, _, _, rfl⟩ := h
            rfl
          · cases h
        · cases h
      · cases h
    · cases h
  case h_26 b args ts =>
    simp only [Option.bind_eq_some_iff] at h
    obtain ⟨as, _, h⟩ := h
    exact pure_builtin hp h
  all_goals repeat' split at h
  all_goals first
    | (cases h; done)
    | (cases h; rfl)
    | (simp only [Option.map_eq_some_iff, Prod.mk.injEq] at h; obtain ⟨_, _, _, rfl⟩ := h; rfl)
theorem rOpF_sound (hC : Says P T G C) {fr : List AV} {H : AH} {op : Op} {v : AV} {H' : AH} (h : rOpF T G C fr H op = some (v, H')) {k : AV → AH → Prop} (hk : k v H') : evOp T G (EvCall P T G) fr H op k := by
  unfold rOpF at h
  split at h
  · simp only [Option.map_eq_some_iff, Prod.mk.injEq] at h
    obtain ⟨v', hv, rfl, rfl⟩ := h
    exact evOp_frozen hv hk
  · exact rOp_sound hC h hk
theorem rOpF_pure {fr : List AV} {H : AH} {op : Op} (hp : pureOp T op = true) : rOpF T G C fr H op = aop T G fr H op := by
  unfold rOpF
  split
  · simp [pureOp] at hp
  · unfold rOp
    split
    · simp [pureOp] at hp
    · rfl
theorem rOp_pure {fr : List AV} {H : AH} {op : Op} (hp : pureOp T op = true) : rOp T G C fr H op = aop T G fr H op := by
  unfold rOp
  split
  · simp [pureOp] at hp
  · rfl
theorem rChk_sound (hC : Says P T G C) {ops : List Oper} {F : List AV} {H : AH} {o : Oper} (h : rChk T G C ops.toArray F H o = true) : chkC1 T G (EvCall P T G) ops F H o := by
  unfold rChk at h
  split at h
  · cases h
  · rename_i v hv
    refine ⟨v, hv, ?_⟩
    split at h
    · rename_i hw
      split at h
      · rename_i v' H' ho
        simp only [Bool.and_eq_true] at h
        have e1 := same_eq h.1
        have e2 : H' = H := by
          rcases Bool.or_eq_true_iff.1 h.2 with hp | hs
          · rw [rOpF_pure hp] at ho
            exact pure_heap hp ho
          · exact (heapSame_eq hs).symm
        subst e1 e2
        exact .inl ⟨hw, fun k hk => rOpF_sound hC ho hk⟩
      · cases h
    · rename_i hw
      exact .inr ⟨by simpa using hw, same_eq h⟩
theorem rChks_sound {ops : List Oper} {F : List AV} {H : AH} (p : ∀ o ∈ ops, True) : ∀ {l : List Oper}, (∀ o ∈ l, pureOp T o.op = true) → l.all (rChk T G C ops.toArray F H) = true → chks T G ops F H l
  | [], _, _ => trivial
  | o :: l, hp, h => by
    simp only [List.all_cons, Bool.and_eq_true] at h
    refine ⟨?_, rChks_sound p (fun o' h' => hp o' (by simp [h'])) h.2⟩
    have hp1 := hp o (by simp)
    have h1 := h.1
    unfold rChk at h1
    split at h1
    · cases h1
    · rename_i v hv
      rw [rOpF_pure hp1] at h1
      unfold chk1
      unfold Region.wanted at h1
      cases hg : o.guard with
      | none =>
        rw [hg] at h1
        simp only [if_true] at h1
        rw [hv]
        simp only [Option.isSome_some, true_and, Option.map_some]
        split at h1
        · rename_i v' H' ho
          simp only [Bool.and_eq_true] at h1
          rw [ho, same_eq h1.1, pure_heap hp1 ho]
        · cases h1
      | some jw =>
        obtain ⟨j, w⟩ := jw
        rw [hg] at h1
        simp only [beq_iff_eq] at h1
        split at h1
        · rename_i hw
          left
          refine ⟨hw, by rw [hv]; rfl, ?_⟩
          rw [hv]
          simp only [Option.map_some]
          split at h1
          · rename_i v' H' ho
            simp only [Bool.and_eq_true] at h1
            rw [ho, same_eq h1.1, pure_heap hp1 ho]
          · cases h1
        · rename_i hw
          right
          have hv2 := same_eq h1
          subst hv2
          cases hy : ayielded ops.toArray F j with
          | none => exact .inr ⟨rfl, hv⟩
          | some b =>
            left
            refine ⟨?_, hv⟩
            rw [hy] at hw
            cases b <;> cases w <;> simp_all
theorem rChkCs_sound (hC : Says P T G C) {ops : List Oper} {F : List AV} {H : AH} : ∀ {l : List Oper}, l.all (rChk T G C ops.toArray F H) = true → chkCs T G (EvCall P T G) ops F H l
  | [], _ => trivial
  | o :: l, h => by
    simp only [List.all_cons, Bool.and_eq_true] at h
    exact ⟨rChk_sound hC h.1, rChkCs_sound hC h.2⟩
theorem rFree_sound (hC : Says P T G C) {A : Array Oper} {K : List AV → AH → Prop} : ∀ (l : List Oper) {fr fr' : List AV} {H : AH}, rFree T G C A l fr H = some fr' → K fr' H → evList T G (EvCall P T G) A K l fr H
  | [], fr, fr', H, h, hk => by
    simp only [rFree, Option.some.injEq] at h
    subst h
    exact hk
  | o :: rest, fr, fr', H, h, hk => by
    unfold rFree at h
    unfold evList
    split at h
    · rename_i hw
      rw [if_pos hw]
      split at h
      · rename_i v H1 ho
        split at h
        · rename_i hp
          have e2 : H1 = H := by
            rcases Bool.or_eq_true_iff.1 hp with hp | hs
            · rw [rOpF_pure hp] at ho
              exact pure_heap hp ho
            · exact (heapSame_eq hs).symm
          subst e2
          exact rOpF_sound hC ho (rFree_sound hC rest h hk)
        · cases h
      · cases h
    · rename_i hw
      rw [if_neg hw]
      exact rFree_sound hC rest h hk
theorem pick_pure {ops : List Oper} {q : Nat → Oper → Bool} (hq : ∀ i o, q i o = true → pureOp T o.op = true) : ∀ o ∈ pickOps ops (idxs q ops), pureOp T o.op = true := by
  intro o ho
  rw [← someOps_idx] at ho
  obtain ⟨i, _, h⟩ := mem_someOps.1 ho
  exact hq i o h
theorem rChain_sound (hC : Says P T G C) {ops : List Oper} {K : List AV → AH → Prop} {cp : Nat} {A : List Nat} : ∀ (cs : List Nat) {F F' : List AV} {H H' : AH}, rChain T G C ops (planOf T cp A ops cs) F H = some (F', H') → K F' H' → evPlan T G (EvCall P T G) ops K (planOf T cp A ops cs) F H
  | [], F, F', H, H', h, hk => by
    simp only [planOf, rChain, Option.some.injEq, Prod.mk.injEq] at h
    obtain ⟨rfl, rfl⟩ := h
    exact hk
  | c :: cs, F, F', H, H', h, hk => by
    unfold planOf at h ⊢
    unfold rChain at h
    unfold evPlan
    split at h
    · cases h
    · rename_i F1 H1 h1
      split at h
      · cases h
      · rename_i F2 h2
        split at h
        · rename_i hc
          rw [Bool.and_eq_true] at hc
          refine rList_sound hC _ h1 (rFree_sound hC _ h2 ⟨rfl, ?_, rChkCs_sound hC hc.2, rChain_sound hC cs h hk⟩)
          exact rChks_sound (fun _ _ => trivial) (pick_pure fun i o hq => by simp only [Bool.and_eq_true] at hq; exact hq.1.1.2) hc.1
        · cases h
theorem rPlan_sound (hC : Says P T G C) {mx : Bool} {n id : Nat} {ops : List Oper} {p0 f1 f2 : List Nat} {cp : Nat} {rows : List PlanRow} (hok : planOk T cp ops p0 f1 f2 rows = true) {fr fr' : List AV} {H H' : AH} {Q : APost} (h : rPlan T G C ops (p0, f1, f2, cp, rows) fr H = some (fr', H')) (hk : Q .normal fr' H') :
    ev T G mx (EvCall P T G) n (.region id ops.toArray true) fr H Q := by
  refine go_plan id cp p0 f1 f2 rows call_ends callMono hok ?_
  unfold planOk at hok
  simp only [Bool.and_eq_true, decide_eq_true_eq] at hok
  obtain ⟨⟨⟨⟨⟨_, _⟩, e0⟩, e1⟩, e2⟩, e3⟩ := hok
  unfold rPlan at h
  simp only at h
  split at h
  · cases h
  · rename_i F hF
    split at h
    · rename_i hc
      rw [Bool.and_eq_true] at hc
      refine rFree_sound hC _ hF ⟨rfl, ?_, rChkCs_sound hC hc.2, ?_⟩
      · rw [e1]
        rw [e1] at hc
        exact rChks_sound (fun _ _ => trivial) (pick_pure fun i o hq => by simp only [Bool.and_eq_true] at hq; exact hq.1.2) hc.1
      · rw [e3] at h ⊢
        exact rChain_sound hC _ h hk
    · cases h
theorem rLoop_sound {mx : Bool} {n : Nat} {c : Code} {body : List AV → AH → Option (AX × List AV × AH)} {Q : APost} (hb : ∀ (fr : List AV) (H : AH) e fr' H' (Q : APost), body fr H = some (e, fr', H') → Q e fr' H' → ev T G mx (EvCall P T G) n c fr H Q) :
    ∀ (m : Nat) (fr : List AV) (H : AH) e fr' H', rLoop body m fr H = some (e, fr', H') → Q e fr' H' → ev T G mx (EvCall P T G) n (.loop c) fr H Q
  | 0, fr, H, e, fr', H', h, _ => by simp [rLoop] at h
  | m + 1, fr, H, e, fr', H', h, hq => by
    unfold rLoop at h
    refine loop_round ?_
    split at h
    · rename_i fr1 H1 h1
      exact hb _ _ _ _ _ _ h1 (rLoop_sound hb m _ _ _ _ _ h hq)
    · rename_i hn
      refine hb _ _ _ _ _ _ h ?_
      cases e with
      | normal => exact (hn _ _ h).elim
      | exit id => exact hq
      | ret => exact hq
theorem rCode_sound (hC : Says P T G C) {mx : Bool} {n : Nat} {tbl : Nat → Option Plan} : ∀ (c : Code), codeOk T tbl c = true → ∀ (fr : List AV) (H : AH) e fr' H' (Q : APost), rCode T G C tbl c fr H = some (e, fr', H') → Q e fr' H' → ev T G mx (EvCall P T G) n c fr H Q := by
  intro c
  induction c with
  | skip =>
    intro _ fr H e fr' H' Q h hq
    simp only [rCode, Option.some.injEq, Prod.mk.injEq] at h
    obtain ⟨rfl, rfl, rfl⟩ := h
    exact do_skip hq
  | region id ops d =>
    intro hok fr H e fr' H' Q h hq
    unfold rCode at h
    cases d with
    | false =>
      simp only [Bool.false_eq_true, if_false] at h
      split at h
      · rename_i fr1 H1 h1
        simp only [Option.some.injEq, Prod.mk.injEq] at h
        obtain ⟨rfl, rfl, rfl⟩ := h
        rw [ev_region]
        exact rList_sound hC _ h1 hq
      · cases h
    | true =>
      simp only [if_true] at h
      unfold codeOk at hok
      cases ht : tbl id with
      | none => rw [ht] at h; simp at h
      | some pl =>
        obtain ⟨p0, f1, f2, cp, rows⟩ := pl
        rw [ht] at h hok
        simp only [Option.bind_some] at h hok
        split at h
        · rename_i fr1 H1 h1
          simp only [Option.some.injEq, Prod.mk.injEq] at h
          obtain ⟨rfl, rfl, rfl⟩ := h
          have := rPlan_sound (mx := mx) (n := n) (id := id) hC hok (Q := Q) h1 hq
          rwa [Array.toArray_toList] at this
        · cases h
  | seq a b iha ihb =>
    intro hok fr H e fr' H' Q h hq
    simp only [codeOk, Bool.and_eq_true] at hok
    unfold rCode at h
    refine go_seq ?_
    split at h
    · rename_i fr1 H1 h1
      exact iha hok.1 _ _ _ _ _ _ h1 (ihb hok.2 _ _ _ _ _ _ h hq)
    · rename_i hn
      refine iha hok.1 _ _ _ _ _ _ h ?_
      cases e with
      | normal => exact (hn _ _ h).elim
      | exit id => exact hq
      | ret => exact hq
  | cond c a b iha ihb =>
    intro hok fr H e fr' H' Q h hq
    simp only [codeOk, Bool.and_eq_true] at hok
    unfold rCode at h
    split at h
    · rename_i hc
      exact cond_t hc (iha hok.1 _ _ _ _ _ _ h hq)
    · rename_i hc
      exact cond_f hc (ihb hok.2 _ _ _ _ _ _ h hq)
    · cases h
  | block id c ih =>
    intro hok fr H e fr' H' Q h hq
    simp only [codeOk] at hok
    unfold rCode at h
    refine do_block ?_
    split at h
    · rename_i i fr1 H1 h1
      refine ih hok _ _ _ _ _ _ h1 ?_
      show (if i = id then _ else _)
      split at h
      · rename_i hi
        rw [if_pos hi]
        simp only [Option.some.injEq, Prod.mk.injEq] at h
        obtain ⟨rfl, rfl, rfl⟩ := h
        exact hq
      · rename_i hi
        rw [if_neg hi]
        simp only [Option.some.injEq, Prod.mk.injEq] at h
        obtain ⟨rfl, rfl, rfl⟩ := h
        exact hq
    · rename_i hn
      refine ih hok _ _ _ _ _ _ h ?_
      cases e with
      | normal => exact hq
      | exit id => exact (hn _ _ _ h).elim
      | ret => exact hq
  | loop c ih =>
    intro hok fr H e fr' H' Q h hq
    simp only [codeOk] at hok
    unfold rCode at h
    exact rLoop_sound (fun fr H e fr' H' Q => ih hok fr H e fr' H' Q) _ _ _ _ _ _ h hq
  | rangeFunc f ps a b _ _ => intro _ fr H e fr' H' Q h; simp [rCode] at h
  | exit id =>
    intro _ fr H e fr' H' Q h hq
    simp only [rCode, Option.some.injEq, Prod.mk.injEq] at h
    obtain ⟨rfl, rfl, rfl⟩ := h
    exact do_exit hq
  | scope c ih =>
    intro hok fr H e fr' H' Q h hq
    simp only [codeOk] at hok
    unfold rCode at h
    exact do_scope (ih hok _ _ _ _ _ _ h hq)
  | label l =>
    intro _ fr H e fr' H' Q h hq
    simp only [rCode, Option.some.injEq, Prod.mk.injEq] at h
    obtain ⟨rfl, rfl, rfl⟩ := h
    exact do_label hq
  | goto l => intro _ fr H e fr' H' Q h; simp [rCode] at h
  | ret =>
    intro _ fr H e fr' H' Q h hq
    simp only [rCode, Option.some.injEq, Prod.mk.injEq] at h
    obtain ⟨rfl, rfl, rfl⟩ := h
    exact do_ret hq
  | refuse w => intro _ fr H e fr' H' Q h; simp [rCode] at h
/-- The table of functions is the program's. -/
def TabOk (P : Program) (T : TT) (fns : FuncId → Option (Func × (Nat → Option Plan))) : Prop :=
  ∀ f fn tbl, fns f = some (fn, tbl) → P.funcs[f]? = some fn ∧ (fn.name == "runtime.NumGoroutine") = false ∧ ∀ c, fn.body = some c → codeOk T tbl c = true
theorem rCall_says {fns : FuncId → Option (Func × (Nat → Option Plan))} {orc : RCall} (hT : TabOk P T fns) (ho : Says P T G orc) : ∀ d, Says P T G (rCall T G fns orc d)
  | 0 => fun f args H v H' h => by simp [rCall] at h
  | d + 1 => fun f args H v H' h k hk => by
    unfold rCall at h
    split at h
    · rename_i r hr
      cases h
      exact ho _ _ _ _ _ hr k hk
    · split at h
      · cases h
      · rename_i fn tbl hf
        obtain ⟨h1, h2, h3⟩ := hT _ _ _ hf
        split at h
        · cases h
        · rename_i c hc
          refine call_go h1 hc h2 rfl ?_
          split at h
          · cases h
          · rename_i e fr' H1 hn h4
            simp only [Option.map_eq_some_iff, Prod.mk.injEq] at h
            obtain ⟨r, hr, rfl, rfl⟩ := h
            refine rCode_sound (rCall_says hT ho d) c (h3 c hc) _ _ _ _ _ _ h4 ?_
            exact ⟨by cases e <;> first | trivial | exact (hn _ rfl).elim, r, hr, r, H1, VS.refl _ _ _, hk⟩
          · cases h
end
end Go.Abs
