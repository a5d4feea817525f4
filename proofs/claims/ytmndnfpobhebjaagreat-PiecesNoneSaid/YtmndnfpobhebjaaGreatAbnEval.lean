/- Closed runs: the interpreter as a function, with fuel. -/
import Derived.Test.YtmndnfpobhebjaaGreatAbnHide
namespace Go.Abs
mutual
def AV.same : AV → AV → Bool
  | .bool a, .bool b => a == b
  | .int k a, .int j b => k == j && a == b
  | .str a, .str b => a == b
  | .nilptr, .nilptr => true
  | .ptr l o, .ptr m p => l == m && o == p
  | .lptr a o, .lptr b p => o == p && sames a b
  | .lit n e a l, .lit m f b k => n == m && e == f && l == k && sames a b
  | .ref e l o n s, .ref f m p k t => e == f && l == m && o == p && n == k && s == t
  | .fn f a b, .fn g c d => f == g && sames a c && sames b d
  | .nilfn, .nilfn => true
  | .map l, .map m => l == m
  | .nilmap, .nilmap => true
  | .iface t a, .iface u b => t == u && a.same b
  | .nilif, .nilif => true
  | .agg a, .agg b => sames a b
  | .tup a, .tup b => sames a b
  | _, _ => false
def sames : List AV → List AV → Bool
  | [], [] => true
  | a :: as, b :: bs => a.same b && sames as bs
  | _, _ => false
end
mutual
theorem same_eq : ∀ {a b : AV}, a.same b = true → a = b := by
  intro a b h
  cases a <;> cases b <;> simp only [AV.same, Bool.and_eq_true, beq_iff_eq] at h <;> first
    | (cases h; done)
    | rfl
    | (subst h; rfl)
    | (rw [h])
    | (obtain ⟨rfl, rfl⟩ := h; rfl)
    | (obtain ⟨rfl, h⟩ := h; rw [sames_eq h]; done)
    | (obtain ⟨rfl, h⟩ := h; rw [same_eq h]; done)
    | (obtain ⟨⟨⟨rfl, rfl⟩, rfl⟩, h⟩ := h; rw [sames_eq h]; done)
    | (obtain ⟨⟨⟨⟨rfl, rfl⟩, rfl⟩, rfl⟩, rfl⟩ := h; rfl)
    | (obtain ⟨⟨rfl, h1⟩, h2⟩ := h; rw [sames_eq h1, sames_eq h2]; done)
    | (rw [sames_eq h]; done)
theorem sames_eq : ∀ {a b : List AV}, sames a b = true → a = b := by
  intro a b h
  cases a <;> cases b <;> simp only [sames, Bool.and_eq_true] at h <;> first
    | rfl
    | (cases h; done)
    | (rw [same_eq h.1, sames_eq h.2])
end

abbrev RCall := FuncId → List AV → AH → Option (AV × AH)
def blockSame : AB → AB → Bool
  | .cells a, .cells b => sames a b
  | .map a s c, .map b t d => sames (a.map (·.1)) (b.map (·.1)) && sames (a.map (·.2)) (b.map (·.2)) && s == t && c == d
  | .iter a s t c, .iter b u v d => a == b && s == u && t == v && c == d
  | .dead, .dead => true
  | _, _ => false
def heapSame : AH → AH → Bool
  | [], [] => true
  | a :: as, b :: bs => blockSame a b && heapSame as bs
  | _, _ => false
theorem pairs_eq {α β : Type} : ∀ {a b : List (α × β)}, a.map (·.1) = b.map (·.1) → a.map (·.2) = b.map (·.2) → a = b
  | [], [], _, _ => rfl
  | [], _ :: _, h, _ => by simp at h
  | _ :: _, [], h, _ => by simp at h
  | a :: as, b :: bs, h1, h2 => by
    simp only [List.map_cons, List.cons.injEq] at h1 h2
    rw [pairs_eq h1.2 h2.2, Prod.ext h1.1 h2.1]
theorem blockSame_eq {a b : AB} (h : blockSame a b = true) : a = b := by
  cases a <;> cases b <;> simp only [blockSame, Bool.and_eq_true, beq_iff_eq] at h <;> first
    | (cases h; done)
    | rfl
    | (rw [sames_eq h]; done)
    | (obtain ⟨⟨⟨h1, h2⟩, rfl⟩, rfl⟩ := h; rw [pairs_eq (sames_eq h1) (sames_eq h2)])
    | (obtain ⟨⟨⟨rfl, rfl⟩, rfl⟩, rfl⟩ := h; rfl)
theorem heapSame_eq : ∀ {a b : AH}, heapSame a b = true → a = b
  | [], [], _ => rfl
  | [], _ :: _, h => by simp [heapSame] at h
  | _ :: _, [], h => by simp [heapSame] at h
  | a :: as, b :: bs, h => by
    simp only [heapSame, Bool.and_eq_true] at h
    rw [blockSame_eq h.1, heapSame_eq h.2]

section
variable (T : TT) (G : Nat → Option (List AV)) (C : RCall)
/-- A call that is given no place and hands back none: what it makes is forgotten. -/
def rHid (g : FuncId) (as : List AV) : Option AV :=
  if lows 0 as then match C g as [] with
    | some (v, _) => if v.low 0 then some v else none
    | none => none
  else none
def rOp (fr : List AV) (H : AH) (op : Op) : Option (AV × AH) :=
  match op with
  | .call { callee := .value f, args, .. } => match aval G fr f, args.toList.mapM (aval G fr) with
    | some (.fn g first caps), some as => match rHid C g (first ++ as ++ caps) with
      | some v => some (v, H)
      | none => C g (first ++ as ++ caps) H
    | _, _ => none
  | op => aop T G fr H op
/-- As it stands free: a slice that is built is frozen. -/
def rOpF (fr : List AV) (H : AH) (op : Op) : Option (AV × AH) :=
  match op with
  | .buildSlice t len parts => (afrozen T G fr t len parts).map (·, H)
  | op => rOp T G C fr H op
/-- The same, where the heap is left as it was. -/
def rOpQ (fr : List AV) (H : AH) (op : Op) : Option AV :=
  match op with
  | .call { callee := .value f, args, .. } => match aval G fr f, args.toList.mapM (aval G fr) with
    | some (.fn g first caps), some as => match rHid C g (first ++ as ++ caps) with
      | some v => some v
      | none => match C g (first ++ as ++ caps) H with
        | some (v, H') => if heapSame H H' then some v else none
        | none => none
    | _, _ => none
  | op => match rOpF T G C fr H op with
    | some (v, H') => if pureOp T op || heapSame H H' then some v else none
    | none => none
def bindAll {α β : Type} : List α → (α → Option (List β)) → Option (List β)
  | [], _ => some []
  | a :: l, f => match f a with
    | some x => match bindAll l f with
      | some y => some (x ++ y)
      | none => none
    | none => none
/-- As a step: with all that may come. -/
def rOpN (fr : List AV) (H : AH) (op : Op) : Option (List (AV × AH)) :=
  match op with
  | .next it false => match (aval G fr it).bind (anext H) with
    | some ([], _) => some [(.tup [.bool false], H)]
    | some (e :: L, p, some (l, since, seen, clock)) => some ((e :: L).map fun e' => (.tup [.bool true, e'.1, e'.2.1], H.set p (.iter (some l) since (seen ++ [e'.2.2]) clock)))
    | _ => none
  | op => (rOp T G C fr H op).map fun r => [r]
def rList (A : Array Oper) : List Oper → List AV → AH → Option (List (List AV × AH))
  | [], fr, H => some [(fr, H)]
  | o :: rest, fr, H => if Region.wanted o (ayielded A fr) = true then match rOpN T G C fr H o.op with
      | some [(v, H')] => rList A rest (aput fr o.dst v) H'
      | some L => bindAll L fun r => rList A rest (aput fr o.dst r.1) r.2
      | none => none
    else rList A rest (aput fr o.dst (.tup [])) H
def rChk (A : Array Oper) (F : List AV) (H : AH) (o : Oper) : Bool :=
  match o.dst.bind (F[·]?) with
  | none => false
  | some v => if Region.wanted o (ayielded A F) = true then match rOpQ T G C F H o.op with
      | some v' => v.same v'
      | none => false
    else v.same (.tup [])
/-- Operations that leave the heap be. -/
def rFree (A : Array Oper) : List Oper → List AV → AH → Option (List AV)
  | [], fr, _ => some fr
  | o :: rest, fr, H => if Region.wanted o (ayielded A fr) = true then match rOpQ T G C fr H o.op with
      | some v => rFree A rest (aput fr o.dst v) H
      | none => none
    else rFree A rest (aput fr o.dst (.tup [])) H
abbrev Plan := List Nat × List Nat × List Nat × (Nat × Nat) × PT
def rTree (ops : List Oper) : PT → List AV → AH → Option (List (List AV × AH))
  | .done, F, H => some [(F, H)]
  | .nil, _, _ => some []
  | .alt c p f1 f2 next other, F, H => match rList T G C ops.toArray (ops[c]?).toList F H with
    | none => none
    | some L => match bindAll L fun r => match rFree T G C ops.toArray (pickOps ops p) r.1 r.2 with
      | none => none
      | some F2 => if (pickOps ops f1).all (rChk T G C ops.toArray F2 r.2) && (pickOps ops f2).all (rChk T G C ops.toArray F2 r.2) then rTree ops next F2 r.2 else none with
      | none => none
      | some x => match rTree ops other F H with
        | some y => some (x ++ y)
        | none => none
/-- Operations of which none writes what another that came before it has read or written. -/
def steady (A : Array Oper) (len : Nat) : List Oper → Bool
  | [] => true
  | o :: rest => (match o.dst with
    | none => false
    | some d => Nat.ble (d + 1) len && !((o.looksAt A).contains d) && rest.all fun o' => match o'.dst with
      | some d' => !(Nat.beq d' d) && !((o.looksAt A).contains d')
      | none => true) && steady A len rest
/-- The places that are reached, in the order in which they are met. -/
def addNew (s l : List Nat) : List Nat := l.foldl (fun s x => if s.contains x then s else s ++ [x]) s
def bfs (H : AH) : Nat → Nat → List Nat → List Nat
  | 0, _, s => s
  | k + 1, i, s => match s[i]? with
    | none => s
    | some o => bfs H k (i + 1) (addNew s (H.getD o .dead).refs)
def orderOf (n : Nat) (fr : List AV) (H : AH) : List Nat := bfs H 100000 0 (addNew (List.range n) (refss fr))
/-- The same state, packed. -/
def packed1 (n : Nat) (r : List AV × AH) : Option (List AV × AH) :=
  let s := orderOf n r.1 r.2
  if packOk n s r.1 r.2 then some (rens s.idxOf r.1, packed s r.2) else none
/-- Ways that come to the same are one. -/
def unify (n : Nat) : List (List AV × AH) → List (List AV × AH)
  | [] => []
  | [r] => [r]
  | r :: rs => match packed1 n r with
    | none => r :: rs
    | some k => if rs.all fun r' => match packed1 n r' with | some k' => sames k'.1 k.1 && heapSame k'.2 k.2 | none => false then [k] else r :: rs
def rPlan (ops : List Oper) (pl : Plan) (fr : List AV) (H : AH) : Option (List (List AV × AH)) :=
  match pl with
  | (p0, f1, f2, _, rows) => match rFree T G C ops.toArray (pickOps ops p0) fr H with
    | none => none
    | some F => if (steady ops.toArray fr.length (pickOps ops p0) && (f1 ++ f2).all fun i => p0.contains i) || ((pickOps ops f1).all (rChk T G C ops.toArray F H) && (pickOps ops f2).all (rChk T G C ops.toArray F H)) then rTree T G C ops rows F H else none
abbrev Outs := Option (List (AX × List AV × AH))
def rLoop (body : List AV → AH → Outs) : Nat → List AV → AH → Outs
  | 0, _, _ => none
  | n + 1, fr, H => match body fr H with
    | some [(.normal, fr', H')] => rLoop body n fr' H'
    | some L => bindAll L fun r => match r with
      | (.normal, fr', H') => rLoop body n fr' H'
      | r => some [r]
    | none => none
def rCode (n : Nat) (tbl : Nat → Option Plan) : Code → List AV → AH → Outs
  | .skip, fr, H => some [(.normal, fr, H)]
  | .region id ops d, fr, H => match (if d then (tbl id).bind fun pl => (rPlan T G C ops.toList pl fr H).map (unify n) else rList T G C ops ops.toList fr H) with
    | some [(fr', H')] => some [(.normal, fr', H')]
    | some L => some (L.map fun r => (.normal, r.1, r.2))
    | none => none
  | .seq a b, fr, H => match rCode n tbl a fr H with
    | some [(.normal, fr', H')] => rCode n tbl b fr' H'
    | some L => bindAll L fun r => match r with
      | (.normal, fr', H') => rCode n tbl b fr' H'
      | r => some [r]
    | none => none
  | .cond c a b, fr, H => match aval G fr c with
    | some (.bool true) => rCode n tbl a fr H
    | some (.bool false) => rCode n tbl b fr H
    | _ => none
  | .block id c, fr, H => match rCode n tbl c fr H with
    | some L => some (L.map fun r => match r with
      | (.exit i, fr', H') => if i = id then (.normal, fr', H') else (.exit i, fr', H')
      | r => r)
    | none => none
  | .loop c, fr, H => rLoop (rCode n tbl c) 100000 fr H
  | .exit id, fr, H => some [(.exit id, fr, H)]
  | .scope c, fr, H => rCode n tbl c fr H
  | .label _, fr, H => some [(.normal, fr, H)]
  | .ret, fr, H => some [(.ret, fr, H)]
  | _, _, _ => none
/-- What a function hands back, if all ways come to the same. -/
def rEnd (n : Nat) (l : List (AV × AH)) : Option (AV × AH) :=
  match unify n (l.map fun r => ([r.1], r.2)) with
  | [([v], H)] => match packed1 n ([v], H) with
    | some ([v'], H') => some (v', H')
    | _ => some (v, H)
  | _ => none
/-- A function's code and the plans of its drawn regions. -/
def rCall (fns : FuncId → Option (Func × (Nat → Option Plan))) (orc : RCall) : Nat → RCall
  | 0, _, _, _ => none
  | d + 1, f, args, H => match orc f args H with
    | some r => some r
    | none => match fns f with
      | none => none
      | some (fn, tbl) => match fn.body with
        | none => none
        | some c => match rCode T G (rCall fns orc d) H.length tbl c (args ++ List.replicate (fn.ntmps - args.length) (.tup [])) H with
          | some L => match L.mapM fun r => (match r.1 with | .exit _ => none | _ => (aresults T fn r.2.1 r.2.2).map (·, r.2.2)) with
            | some rs => rEnd H.length rs
            | none => none
          | none => none
end
def codeOk (T : TT) (tbl : Nat → Option Plan) : Code → Bool
  | .region id ops true => match tbl id with
    | some (p0, f1, f2, cp, rows) => treeOk T cp.1 cp.2 ops.toList p0 f1 f2 rows
    | none => true
  | .seq a b => codeOk T tbl a && codeOk T tbl b
  | .cond _ a b => codeOk T tbl a && codeOk T tbl b
  | .block _ c | .loop c | .scope c => codeOk T tbl c
  | _ => true

section
variable {P : Program} {T : TT} {G : Nat → Option (List AV)} {C : RCall}
/-- What the function says of calls is so. -/
def Says (P : Program) (T : TT) (G : Nat → Option (List AV)) (C : RCall) : Prop := ∀ f args H v H', C f args H = some (v, H') → ∀ k : AV → AH → Prop, k v H' → EvCall P T G f args H k
theorem rHid_sound (hC : Says P T G C) {g : FuncId} {as : List AV} {v : AV} (h : rHid C g as = some v) (H : AH) {k : AV → AH → Prop} (hk : k v H) : EvCall P T G g as H k := by
  unfold rHid at h
  split at h
  · rename_i hl
    split at h
    · rename_i v1 H1 h1
      split at h
      · rename_i hv
        cases h
        exact EvCall.hide hl (hC _ _ _ _ _ h1 (fun r _ => r = v) rfl) (fun r H' e => by rw [e]; exact hv) H (fun r H' e => by rw [e]; exact hk)
      · cases h
    · cases h
  · cases h
theorem rOp_sound (hC : Says P T G C) {fr : List AV} {H : AH} {op : Op} {v : AV} {H' : AH} (h : rOp T G C fr H op = some (v, H')) {k : AV → AH → Prop} (hk : k v H') : evOp T G (EvCall P T G) fr H op k := by
  unfold rOp at h
  split at h
  · rename_i f args ts
    split at h
    · rename_i g first caps as h1 h2
      rw [evOp_call, h1, h2]
      split at h
      · rename_i v1 hv1
        cases h
        exact rHid_sound hC hv1 H hk
      · exact hC _ _ _ _ _ h k hk
    · cases h
  · exact evOp_of h hk
theorem bindAll_mem {α β : Type} {f : α → Option (List β)} : ∀ {l : List α} {r : List β}, bindAll l f = some r → ∀ a ∈ l, ∃ x, f a = some x ∧ ∀ b ∈ x, b ∈ r
  | [], _, _, a, ha => by simp at ha
  | a0 :: l, r, h, a, ha => by
    unfold bindAll at h
    split at h
    · rename_i x hx
      split at h
      · rename_i y hy
        cases h
        rcases List.mem_cons.1 ha with rfl | ha
        · exact ⟨x, hx, fun b hb => List.mem_append_left _ hb⟩
        · obtain ⟨z, hz, hm⟩ := bindAll_mem hy a ha
          exact ⟨z, hz, fun b hb => List.mem_append_right _ (hm b hb)⟩
      · cases h
    · cases h
theorem rOpN_sound (hC : Says P T G C) {fr : List AV} {H : AH} {op : Op} {L : List (AV × AH)} (h : rOpN T G C fr H op = some L) {k : AV → AH → Prop} (hk : ∀ r ∈ L, k r.1 r.2) : evOp T G (EvCall P T G) fr H op k := by
  unfold rOpN at h
  split at h
  · rename_i it
    unfold evOp
    split at h
    · rename_i x hx
      cases h
      simp only [hx]
      exact hk _ (List.mem_singleton.2 rfl)
    · rename_i e L' p l since seen clock hx
      cases h
      simp only [hx]
      exact fun e' he => hk _ (List.mem_map.2 ⟨e', he, rfl⟩)
    · cases h
  · simp only [Option.map_eq_some_iff] at h
    obtain ⟨r, hr, rfl⟩ := h
    exact rOp_sound hC hr (hk r (by simp))
theorem rList_sound (hC : Says P T G C) {A : Array Oper} {K : List AV → AH → Prop} : ∀ (l : List Oper) {fr : List AV} {H : AH} {L : List (List AV × AH)}, rList T G C A l fr H = some L → (∀ r ∈ L, K r.1 r.2) → evList T G (EvCall P T G) A K l fr H
  | [], fr, H, L, h, hk => by
    simp only [rList, Option.some.injEq] at h
    subst h
    exact hk _ (List.mem_singleton.2 rfl)
  | o :: rest, fr, H, L, h, hk => by
    unfold rList at h
    unfold evList
    split at h
    · rename_i hw
      rw [if_pos hw]
      split at h
      · rename_i v H1 ho
        exact rOpN_sound hC ho (fun r hr => by rw [List.mem_singleton.1 hr]; exact rList_sound hC rest h hk)
      · rename_i L1 _ ho
        refine rOpN_sound hC ho (fun r hr => ?_)
        obtain ⟨x, hx, hm⟩ := bindAll_mem h r hr
        exact rList_sound hC rest hx (fun b hb => hk b (hm b hb))
      · cases h
    · rename_i hw
      rw [if_neg hw]
      exact rList_sound hC rest h hk
theorem pure_builtin {H H' : AH} {b : Builtin} {args : Array Operand} {ts : Array TypeId} {as : List AV} {v : AV} (hp : pureOp T (.call { callee := .builtin b, args := args, argTypes := ts }) = true) (h : abuiltin T H b ts as = some (v, H')) : H' = H := by
  unfold abuiltin at h
  cases b <;> first | (simp [pureOp] at hp; done) | skip
  all_goals
    generalize ts.toList = l at h
    rcases l with _ | ⟨t, _ | ⟨u, l⟩⟩ <;> rcases as with _ | ⟨x, _ | ⟨y, _ | ⟨z, as⟩⟩⟩ <;> simp only [] at h <;> first
      | (cases h; done)
      | (cases x <;> first | (cases h; done) | (cases y <;> first | (cases h; done) | skip); done)
      | (cases x <;> cases y <;> simp only [] at h <;> first | (cases h; done) | (split at h <;> first | (cases h; rfl) | (cases h; done)))
      | skip
    all_goals repeat' split at h
    all_goals first
      | (cases h; done)
      | (cases h; rfl)
      | (simp only [Option.map_eq_some_iff, Prod.mk.injEq] at h; obtain ⟨_, _, _, rfl⟩ := h; rfl)
theorem pure_heap {fr : List AV} {H H' : AH} {op : Op} {v : AV} (hp : pureOp T op = true) (h : aop T G fr H op = some (v, H')) : H' = H := by
  unfold aop at h
  split at h <;> first
    | (simp only [Option.map_eq_some_iff, Prod.mk.injEq] at h; obtain ⟨_, _, _, rfl⟩ := h; rfl)
    | (simp [pureOp] at hp; done)
    | (cases h; done)
    | skip
  case h_13 =>
    simp only [Option.bind_eq_some_iff] at h
    obtain ⟨x, _, h⟩ := h
    simp only [pureOp] at hp
    unfold aconvert at h
    split at h
    · split at h
      · cases h; rfl
      · cases h; rfl
      · rename_i hd _
        rw [hd] at hp
        cases hp
      · split at h
        · split at h
          · simp only [Option.map_eq_some_iff, Prod.mk.injEq] at h
            obtain ⟨_, _, _, rfl⟩ := h
            rfl
          · cases h
        · cases h
      · cases h
    · cases h
  case h_28 b args ts =>
    simp only [Option.bind_eq_some_iff] at h
    obtain ⟨as, _, h⟩ := h
    exact pure_builtin hp h
  all_goals repeat' split at h
  all_goals first
    | (cases h; done)
    | (cases h; rfl)
    | (simp only [Option.map_eq_some_iff, Prod.mk.injEq] at h; obtain ⟨_, _, _, rfl⟩ := h; rfl)
theorem rOpF_sound (hC : Says P T G C) {fr : List AV} {H : AH} {op : Op} {v : AV} {H' : AH} (h : rOpF T G C fr H op = some (v, H')) {k : AV → AH → Prop} (hk : k v H') : evOp T G (EvCall P T G) fr H op k := by
  unfold rOpF at h
  split at h
  · simp only [Option.map_eq_some_iff, Prod.mk.injEq] at h
    obtain ⟨v', hv, rfl, rfl⟩ := h
    exact evOp_frozen hv hk
  · exact rOp_sound hC h hk
theorem rOpF_pure {fr : List AV} {H : AH} {op : Op} (hp : pureOp T op = true) : rOpF T G C fr H op = aop T G fr H op := by
  unfold rOpF
  split
  · simp [pureOp] at hp
  · unfold rOp
    split
    · simp [pureOp] at hp
    · rfl
theorem rOp_pure {fr : List AV} {H : AH} {op : Op} (hp : pureOp T op = true) : rOp T G C fr H op = aop T G fr H op := by
  unfold rOp
  split
  · simp [pureOp] at hp
  · rfl
theorem rOpQ_sound (hC : Says P T G C) {fr : List AV} {H : AH} {op : Op} {v : AV} (h : rOpQ T G C fr H op = some v) {k : AV → AH → Prop} (hk : k v H) : evOp T G (EvCall P T G) fr H op k := by
  unfold rOpQ at h
  split at h
  · split at h
    · rename_i g first caps as h1 h2
      rw [evOp_call, h1, h2]
      split at h
      · rename_i v1 hv1
        cases h
        exact rHid_sound hC hv1 H hk
      · split at h
        · rename_i v1 H1 hc
          split at h
          · rename_i hs
            cases h
            have := heapSame_eq hs
            subst this
            exact hC _ _ _ _ _ hc k hk
          · cases h
        · cases h
    · cases h
  · split at h
    · rename_i v1 H1 ho
      split at h
      · rename_i hs
        cases h
        have e2 : H1 = H := by
          rcases Bool.or_eq_true_iff.1 hs with hp | hs
          · rw [rOpF_pure hp] at ho
            exact pure_heap hp ho
          · exact (heapSame_eq hs).symm
        subst e2
        exact rOpF_sound hC ho hk
      · cases h
    · cases h
theorem rOpQ_pure {fr : List AV} {H : AH} {op : Op} {v : AV} (hp : pureOp T op = true) (h : rOpQ T G C fr H op = some v) : aop T G fr H op = some (v, H) := by
  unfold rOpQ at h
  split at h
  · simp [pureOp] at hp
  · rw [rOpF_pure hp] at h
    split at h
    · rename_i v1 H1 ho
      split at h
      · cases h
        rw [ho, pure_heap hp ho]
      · cases h
    · cases h
theorem rChk_sound (hC : Says P T G C) {ops : List Oper} {F : List AV} {H : AH} {o : Oper} (h : rChk T G C ops.toArray F H o = true) : chkC1 T G (EvCall P T G) ops F H o := by
  unfold rChk at h
  split at h
  · cases h
  · rename_i v hv
    refine ⟨v, hv, ?_⟩
    split at h
    · rename_i hw
      split at h
      · rename_i v' ho
        have e1 := same_eq h
        subst e1
        exact .inl ⟨hw, fun k hk => rOpQ_sound hC ho hk⟩
      · cases h
    · rename_i hw
      exact .inr ⟨by simpa using hw, same_eq h⟩
theorem rChks_sound {ops : List Oper} {F : List AV} {H : AH} (p : ∀ o ∈ ops, True) : ∀ {l : List Oper}, (∀ o ∈ l, pureOp T o.op = true) → l.all (rChk T G C ops.toArray F H) = true → chks T G ops F H l
  | [], _, _ => trivial
  | o :: l, hp, h => by
    simp only [List.all_cons, Bool.and_eq_true] at h
    refine ⟨?_, rChks_sound p (fun o' h' => hp o' (by simp [h'])) h.2⟩
    have hp1 := hp o (by simp)
    have h1 := h.1
    unfold rChk at h1
    split at h1
    · cases h1
    · rename_i v hv
      unfold chk1
      unfold Region.wanted at h1
      cases hg : o.guard with
      | none =>
        rw [hg] at h1
        simp only [if_true] at h1
        rw [hv]
        simp only [Option.isSome_some, true_and, Option.map_some]
        split at h1
        · rename_i v' ho
          rw [rOpQ_pure hp1 ho, same_eq h1]
        · cases h1
      | some jw =>
        obtain ⟨j, w⟩ := jw
        rw [hg] at h1
        simp only [beq_iff_eq] at h1
        split at h1
        · rename_i hw
          left
          refine ⟨hw, by rw [hv]; rfl, ?_⟩
          rw [hv]
          simp only [Option.map_some]
          split at h1
          · rename_i v' ho
            rw [rOpQ_pure hp1 ho, same_eq h1]
          · cases h1
        · rename_i hw
          right
          have hv2 := same_eq h1
          subst hv2
          cases hy : ayielded ops.toArray F j with
          | none => exact .inr ⟨rfl, hv⟩
          | some b =>
            left
            refine ⟨?_, hv⟩
            rw [hy] at hw
            cases b <;> cases w <;> simp_all
theorem rChkCs_sound (hC : Says P T G C) {ops : List Oper} {F : List AV} {H : AH} : ∀ {l : List Oper}, l.all (rChk T G C ops.toArray F H) = true → chkCs T G (EvCall P T G) ops F H l
  | [], _ => trivial
  | o :: l, h => by
    simp only [List.all_cons, Bool.and_eq_true] at h
    exact ⟨rChk_sound hC h.1, rChkCs_sound hC h.2⟩
theorem rFree_sound (hC : Says P T G C) {A : Array Oper} {K : List AV → AH → Prop} : ∀ (l : List Oper) {fr fr' : List AV} {H : AH}, rFree T G C A l fr H = some fr' → K fr' H → evList T G (EvCall P T G) A K l fr H
  | [], fr, fr', H, h, hk => by
    simp only [rFree, Option.some.injEq] at h
    subst h
    exact hk
  | o :: rest, fr, fr', H, h, hk => by
    unfold rFree at h
    unfold evList
    split at h
    · rename_i hw
      rw [if_pos hw]
      split at h
      · rename_i v ho
        exact rOpQ_sound hC ho (rFree_sound hC rest h hk)
      · cases h
    · rename_i hw
      rw [if_neg hw]
      exact rFree_sound hC rest h hk
theorem pick_pure {ops : List Oper} {q : Nat → Oper → Bool} (hq : ∀ i o, q i o = true → pureOp T o.op = true) : ∀ o ∈ pickOps ops (idxs q ops), pureOp T o.op = true := by
  intro o ho
  rw [← someOps_idx] at ho
  obtain ⟨i, _, h⟩ := mem_someOps.1 ho
  exact hq i o h
theorem rTree_sound (hC : Says P T G C) {ops : List Oper} {K : List AV → AH → Prop} {cp : Nat} {A : List Nat} : ∀ (n : Nat) (dn rem : List Nat) {F : List AV} {H : AH} {L : List (List AV × AH)}, rTree T G C ops (treeOf T cp A ops n dn rem) F H = some L → (∀ r ∈ L, K r.1 r.2) → evPT T G (EvCall P T G) ops K (treeOf T cp A ops n dn rem) F H
  | 0, _, _, F, H, L, h, hk => by
    simp only [treeOf, rTree, Option.some.injEq] at h
    subst h
    exact hk _ (List.mem_singleton.2 rfl)
  | n + 1, dn, rem, F, H, L, h, hk => by
    unfold treeOf at h ⊢
    generalize (rem.filter fun c => rem.all fun c' => !bit A c c') = l at h ⊢
    induction l generalizing L with
    | nil => trivial
    | cons c l ih =>
      rw [List.foldr_cons] at h ⊢
      unfold rTree at h
      unfold evPT
      split at h
      · cases h
      · rename_i L1 h1
        split at h
        · cases h
        · rename_i x hx
          split at h
          · rename_i y hy
            cases h
            refine ⟨rList_sound hC _ h1 (fun r hr => ?_), ih _ (fun r hr => hk r (List.mem_append_right _ hr)) hy⟩
            obtain ⟨z, hz, hm⟩ := bindAll_mem hx r hr
            split at hz
            · cases hz
            · rename_i F2 h2
              split at hz
              · rename_i hc
                rw [Bool.and_eq_true] at hc
                refine rFree_sound hC _ h2 ⟨rfl, ?_, rChkCs_sound hC hc.2, rTree_sound hC n _ _ hz (fun b hb => hk b (List.mem_append_left _ (hm b hb)))⟩
                exact rChks_sound (fun _ _ => trivial) (pick_pure fun i o hq => by simp only [Bool.and_eq_true] at hq; exact hq.1.1.2) hc.1
              · cases hz
          · cases h
theorem packed1_vs {n : Nat} {r k : List AV × AH} (hk : packed1 n r = some k) : VS n r.1 r.2 k.1 k.2 := by
  unfold packed1 at hk
  simp only at hk
  split at hk
  · rename_i hp
    cases hk
    exact VS.pack hp
  · cases hk
theorem unify_vs {n : Nat} {L : List (List AV × AH)} {K : List AV → AH → Prop} (h : ∀ r ∈ unify n L, K r.1 r.2) : ∀ r ∈ L, ∃ fr' H', VS n r.1 r.2 fr' H' ∧ K fr' H' := by
  have keep : ∀ L : List (List AV × AH), (∀ r ∈ L, K r.1 r.2) → ∀ r ∈ L, ∃ fr' H', VS n r.1 r.2 fr' H' ∧ K fr' H' := fun L hL r hr => ⟨_, _, VS.refl _ _ _, hL r hr⟩
  have pk : ∀ (r k : List AV × AH), packed1 n r = some k → VS n r.1 r.2 k.1 k.2 := fun r k hk => by
    unfold packed1 at hk
    simp only at hk
    split at hk
    · rename_i hp
      cases hk
      exact VS.pack hp
    · cases hk
  match L with
  | [] => intro r hr; simp at hr
  | [r] => exact keep _ h
  | r :: r1 :: rs =>
    simp only [unify] at h
    split at h
    · exact keep _ h
    · rename_i k hk
      split at h
      · rename_i hall
        have hK := h k (List.mem_singleton.2 rfl)
        intro r' hr'
        rcases List.mem_cons.1 hr' with rfl | hr'
        · exact ⟨_, _, pk _ _ hk, hK⟩
        · have := List.all_eq_true.1 hall r' hr'
          split at this
          · rename_i k' hk'
            rw [Bool.and_eq_true] at this
            have e : k' = k := Prod.ext (sames_eq this.1) (heapSame_eq this.2)
            subst e
            exact ⟨_, _, pk _ _ hk', hK⟩
          · cases this
      · exact keep _ h
/-- What was run stands as it was run. -/
def Stands (T : TT) (G : Nat → Option (List AV)) (C : RCall) (A : Array Oper) (F : List AV) (H : AH) (o : Oper) : Prop :=
  ∃ v, o.dst.bind (F[·]?) = some v ∧ ((Region.wanted o (ayielded A F) = true ∧ rOpQ T G C F H o.op = some v) ∨ (Region.wanted o (ayielded A F) = false ∧ v = .tup []))
theorem looks_tmp {A : Array Oper} {o : Oper} {t : Tmp} (h : Operand.tmp t ∈ o.op.operands) : t ∈ o.looksAt A := List.mem_append_left _ (List.mem_filterMap.2 ⟨.tmp t, by simpa using h, rfl⟩)
theorem wanted_congr {A : Array Oper} {o : Oper} {fr fr' : List AV} (h : ∀ k ∈ o.looksAt A, fr[k]? = fr'[k]?) : Region.wanted o (ayielded A fr) = Region.wanted o (ayielded A fr') := by
  unfold Region.wanted
  cases hg : o.guard with
  | none => rfl
  | some jw =>
    obtain ⟨j, w⟩ := jw
    have : ayielded A fr j = ayielded A fr' j := by
      unfold ayielded
      cases ht : (A[j]?).bind (·.dst) with
      | none => rfl
      | some t =>
        have := h t (List.mem_append_right _ (by rw [hg]; simp only []; rw [ht]; simp))
        simp only [Option.bind_some, this]
    simp only [this]
theorem rOpF_congr {A : Array Oper} {o : Oper} {fr fr' : List AV} {H : AH} (h : ∀ k ∈ o.looksAt A, fr[k]? = fr'[k]?) : rOpF T G C fr H o.op = rOpF T G C fr' H o.op := by
  have ha : ∀ x ∈ o.op.operands, aval G fr x = aval G fr' x := fun x hx => by
    cases x with
    | tmp t => simp only [aval, List.getD_eq_getElem?_getD, h t (looks_tmp hx)]
    | _ => rfl
  generalize o.op = op at ha
  have h1 := aop_congr (T := T) (H := H) op ha
  have h2 : rOp T G C fr H op = rOp T G C fr' H op := by
    unfold rOp
    split
    · rename_i f args ts
      have e1 := ha f (by simp [Op.operands, Call.operands])
      have e2 : args.toList.mapM (aval G fr) = args.toList.mapM (aval G fr') := mapM_congr_mem fun x hx => ha x (by
        have : x ∈ args := by simpa using hx
        simp [Op.operands, Call.operands, this])
      rw [e1, e2]
    · exact h1
  unfold rOpF
  split
  · rename_i t len parts
    have := aalt_congr (T := T) (G := G) (H := H) 0 _ ha
    have e : afrozen T G fr t len parts = afrozen T G fr' t len parts := by
      simp only [aalt] at this
      cases e1 : afrozen T G fr t len parts <;> cases e2 : afrozen T G fr' t len parts <;> simp_all
    rw [e]
  · exact h2
theorem rOpQ_congr {A : Array Oper} {o : Oper} {fr fr' : List AV} {H : AH} (h : ∀ k ∈ o.looksAt A, fr[k]? = fr'[k]?) : rOpQ T G C fr H o.op = rOpQ T G C fr' H o.op := by
  have ha : ∀ x ∈ o.op.operands, aval G fr x = aval G fr' x := fun x hx => by
    cases x with
    | tmp t => simp only [aval, List.getD_eq_getElem?_getD, h t (looks_tmp hx)]
    | _ => rfl
  have h1 := rOpF_congr (T := T) (G := G) (C := C) (H := H) h
  generalize o.op = op at ha h1
  unfold rOpQ
  split
  · rename_i f args ts
    have e1 := ha f (by simp [Op.operands, Call.operands])
    have e2 : args.toList.mapM (aval G fr) = args.toList.mapM (aval G fr') := mapM_congr_mem fun x hx => ha x (by
      have : x ∈ args := by simpa using hx
      simp [Op.operands, Call.operands, this])
    rw [e1, e2]
  · rw [h1]
theorem rFree_keeps {A : Array Oper} : ∀ (l : List Oper) {fr F : List AV} {H : AH}, rFree T G C A l fr H = some F → fr.length = F.length ∧ ∀ k, (∀ o ∈ l, o.dst ≠ some k) → F[k]? = fr[k]?
  | [], fr, F, H, h => by
    simp only [rFree, Option.some.injEq] at h
    subst h
    exact ⟨rfl, fun _ _ => rfl⟩
  | o :: rest, fr, F, H, h => by
    have put : ∀ v, (aput fr o.dst v).length = fr.length ∧ ∀ k, o.dst ≠ some k → (aput fr o.dst v)[k]? = fr[k]? := fun v => by
      unfold aput
      cases hd : o.dst with
      | none => exact ⟨rfl, fun _ _ => rfl⟩
      | some d => exact ⟨List.length_set, fun k hk => by rw [List.getElem?_set_ne (fun e => hk (by rw [e]))]⟩
    have fin : ∀ v, rFree T G C A rest (aput fr o.dst v) H = some F → fr.length = F.length ∧ ∀ k, (∀ o' ∈ o :: rest, o'.dst ≠ some k) → F[k]? = fr[k]? := fun v hr => by
      obtain ⟨h1, h2⟩ := rFree_keeps rest hr
      exact ⟨(put v).1.symm.trans h1, fun k hk => (h2 k fun o' h' => hk o' (List.mem_cons_of_mem _ h')).trans ((put v).2 k (hk o (by simp)))⟩
    unfold rFree at h
    split at h
    · split at h
      · exact fin _ h
      · cases h
    · exact fin _ h
theorem rFree_stands {A : Array Oper} : ∀ (l : List Oper) {fr F : List AV} {H : AH}, rFree T G C A l fr H = some F → steady A fr.length l = true → ∀ o ∈ l, Stands T G C A F H o
  | [], _, _, _, _, _, o, ho => by simp at ho
  | o :: rest, fr, F, H, h, hs, o', ho' => by
    simp only [steady, Bool.and_eq_true] at hs
    obtain ⟨hs1, hs2⟩ := hs
    cases hd : o.dst with
    | none => rw [hd] at hs1; simp at hs1
    | some d =>
      rw [hd] at hs1
      simp only [Bool.and_eq_true, List.all_eq_true, Bool.not_eq_true', Nat.ble_eq] at hs1
      obtain ⟨⟨hlt, hdl⟩, hr⟩ := hs1
      have hdl' : d ∉ o.looksAt A := fun hm => by rw [List.contains_eq_mem, decide_eq_false_iff_not] at hdl; exact hdl hm
      have hne : ∀ k, k = d ∨ k ∈ o.looksAt A → ∀ o2 ∈ rest, o2.dst ≠ some k := fun k hk o2 h2 e => by
        have := hr o2 h2
        rw [e] at this
        simp only [Bool.and_eq_true, Bool.not_eq_true', List.contains_eq_mem, decide_eq_false_iff_not] at this
        rcases hk with rfl | hk
        · have := this.1; simp at this
        · exact this.2 hk
      have main : ∀ v, rFree T G C A rest (aput fr o.dst v) H = some F → (Region.wanted o (ayielded A fr) = true → rOpQ T G C fr H o.op = some v) → (Region.wanted o (ayielded A fr) = false → v = .tup []) → Stands T G C A F H o' := fun v hf hw1 hw2 => by
        rcases List.mem_cons.1 ho' with rfl | hm
        · obtain ⟨k1, k2⟩ := rFree_keeps rest hf
          have hag : ∀ k ∈ o'.looksAt A, F[k]? = fr[k]? := fun k hk => by
            rw [k2 k (hne k (.inr hk)), hd]
            have : d ≠ k := fun e => hdl' (e ▸ hk)
            simp only [aput, List.getElem?_set_ne this]
          refine ⟨v, ?_, ?_⟩
          · rw [hd, Option.bind_some, k2 d (hne d (.inl rfl)), hd]
            simp only [aput]
            rw [List.getElem?_set_self (by omega)]
          · rw [wanted_congr hag, rOpQ_congr hag]
            cases hw : Region.wanted o' (ayielded A fr) with
            | true => exact .inl ⟨rfl, hw1 hw⟩
            | false => exact .inr ⟨rfl, hw2 hw⟩
        · refine rFree_stands rest hf ?_ o' hm
          rw [hd]
          simp only [aput, List.length_set]
          exact hs2
      unfold rFree at h
      split at h
      · rename_i hw
        split at h
        · rename_i v hop
          exact main v h (fun _ => hop) (fun e => by rw [hw] at e; cases e)
        · cases h
      · rename_i hw
        exact main _ h (fun e => absurd e hw) (fun _ => rfl)
theorem Stands.chkC (hC : Says P T G C) {ops : List Oper} {F : List AV} {H : AH} {o : Oper} (h : Stands T G C ops.toArray F H o) : chkC1 T G (EvCall P T G) ops F H o := by
  obtain ⟨v, hv, ⟨hw, ho⟩ | ⟨hw, rfl⟩⟩ := h
  · exact ⟨v, hv, .inl ⟨hw, fun k hk => rOpQ_sound hC ho hk⟩⟩
  · exact ⟨_, hv, .inr ⟨hw, rfl⟩⟩
theorem Stands.chk {ops : List Oper} {F : List AV} {H : AH} {o : Oper} (hp : pureOp T o.op = true) (h : Stands T G C ops.toArray F H o) : chk1 T G ops F H o := by
  obtain ⟨v, hv, ⟨hw, ho⟩ | ⟨hw, rfl⟩⟩ := h
  · have ho := rOpQ_pure hp ho
    unfold chk1
    unfold Region.wanted at hw
    cases hg : o.guard with
    | none => exact ⟨by rw [hv]; rfl, by rw [hv]; exact ho⟩
    | some jw =>
      obtain ⟨j, w⟩ := jw
      rw [hg] at hw
      simp only [beq_iff_eq] at hw
      exact .inl ⟨hw, by rw [hv]; rfl, by rw [hv]; exact ho⟩
  · unfold chk1
    unfold Region.wanted at hw
    cases hg : o.guard with
    | none => rw [hg] at hw; simp at hw
    | some jw =>
      obtain ⟨j, w⟩ := jw
      rw [hg] at hw
      simp only at hw
      cases hy : ayielded ops.toArray F j with
      | none => exact .inr (.inr ⟨hy, hv⟩)
      | some b => exact .inr (.inl ⟨by rw [hy] at hw ⊢; cases b <;> cases w <;> simp_all, hv⟩)
theorem stands_chks {ops : List Oper} {F : List AV} {H : AH} : ∀ {l : List Oper}, (∀ o ∈ l, pureOp T o.op = true) → (∀ o ∈ l, Stands T G C ops.toArray F H o) → chks T G ops F H l
  | [], _, _ => trivial
  | o :: l, hp, h => ⟨(h o (by simp)).chk (hp o (by simp)), stands_chks (fun o' h' => hp o' (by simp [h'])) (fun o' h' => h o' (by simp [h']))⟩
theorem stands_chkCs (hC : Says P T G C) {ops : List Oper} {F : List AV} {H : AH} : ∀ {l : List Oper}, (∀ o ∈ l, Stands T G C ops.toArray F H o) → chkCs T G (EvCall P T G) ops F H l
  | [], _ => trivial
  | o :: l, h => ⟨(h o (by simp)).chkC hC, stands_chkCs hC (fun o' h' => h o' (by simp [h']))⟩
theorem mem_pick {ops : List Oper} {o : Oper} : ∀ {l : List Nat}, o ∈ pickOps ops l ↔ ∃ i ∈ l, ops[i]? = some o
  | [] => by simp [pickOps]
  | i :: l => by
    unfold pickOps
    cases h : ops[i]? with
    | none => simp only []; rw [mem_pick]; constructor
              · rintro ⟨j, hj, h'⟩; exact ⟨j, by simp [hj], h'⟩
              · rintro ⟨j, hj, h'⟩
                rcases List.mem_cons.1 hj with rfl | hj
                · rw [h] at h'; cases h'
                · exact ⟨j, hj, h'⟩
    | some a => simp only [List.mem_cons]; rw [mem_pick]; constructor
                · rintro (rfl | ⟨j, hj, h'⟩)
                  · exact ⟨i, .inl rfl, h⟩
                  · exact ⟨j, .inr hj, h'⟩
                · rintro ⟨j, rfl | hj, h'⟩
                  · rw [h] at h'; cases h'; exact .inl rfl
                  · exact .inr ⟨j, hj, h'⟩
theorem rPlan_sound (hC : Says P T G C) {mx : Bool} {n id : Nat} {ops : List Oper} {p0 f1 f2 : List Nat} {cp : Nat × Nat} {rows : PT} (hok : treeOk T cp.1 cp.2 ops p0 f1 f2 rows = true) {fr : List AV} {H : AH} {L : List (List AV × AH)} {Q : APost} (h : rPlan T G C ops (p0, f1, f2, cp, rows) fr H = some L) (hk : ∀ r ∈ unify n L, Q .normal r.1 r.2) :
    ev T G mx (EvCall P T G) n (.region id ops.toArray true) fr H Q := by
  refine go_tree id cp.1 cp.2 p0 f1 f2 rows call_ends callMono hok ?_
  unfold treeOk at hok
  simp only [Bool.and_eq_true, decide_eq_true_eq] at hok
  obtain ⟨⟨⟨⟨⟨⟨_, _⟩, _⟩, e0⟩, e1⟩, e2⟩, e3⟩ := hok
  have e3 := PT.same_eq e3
  unfold rPlan at h
  simp only at h
  split at h
  · cases h
  · rename_i F hF
    split at h
    · rename_i hc
      have hpure : ∀ o ∈ pickOps ops f1, pureOp T o.op = true := by
        rw [e1]
        exact pick_pure fun i o hq => by simp only [Bool.and_eq_true] at hq; exact hq.1.2
      have both : chks T G ops F H (pickOps ops f1) ∧ chkCs T G (EvCall P T G) ops F H (pickOps ops f2) := by
        rcases Bool.or_eq_true_iff.1 hc with hc | hc
        · rw [Bool.and_eq_true, List.all_eq_true] at hc
          have hst := rFree_stands _ hF hc.1
          have sub : ∀ o i, i ∈ f1 ++ f2 → ops[i]? = some o → Stands T G C ops.toArray F H o := fun o i hi ho => hst o (mem_pick.2 ⟨i, by simpa using hc.2 i hi, ho⟩)
          refine ⟨stands_chks (C := C) hpure fun o ho => ?_, stands_chkCs hC fun o ho => ?_⟩
          · obtain ⟨i, hi, h'⟩ := mem_pick.1 ho
            exact sub o i (List.mem_append_left _ hi) h'
          · obtain ⟨i, hi, h'⟩ := mem_pick.1 ho
            exact sub o i (List.mem_append_right _ hi) h'
        · rw [Bool.and_eq_true] at hc
          exact ⟨rChks_sound (fun _ _ => trivial) hpure hc.1, rChkCs_sound hC hc.2⟩
      refine rFree_sound hC _ hF ⟨rfl, both.1, both.2, ?_⟩
      rw [e3] at h ⊢
      exact rTree_sound hC _ _ _ h (unify_vs hk)
    · cases h
theorem then_of {mx : Bool} {n : Nat} {a : Code} {fr : List AV} {H : AH} {Q : APost} {b : List AV → AH → Prop} {L : List (AX × List AV × AH)} (ha : ∀ Q' : APost, (∀ r ∈ L, Q' r.1 r.2.1 r.2.2) → ev T G mx (EvCall P T G) n a fr H Q')
    (h : ∀ r ∈ L, match r.1 with | .normal => b r.2.1 r.2.2 | e => Q e r.2.1 r.2.2) : ev T G mx (EvCall P T G) n a fr H (AX.then b Q) := by
  refine ha _ fun r hr => ?_
  have := h r hr
  obtain ⟨e, fr', H'⟩ := r
  cases e <;> exact this
theorem rLoop_sound {mx : Bool} {n : Nat} {c : Code} {body : List AV → AH → Outs} {Q : APost} (hb : ∀ (fr : List AV) (H : AH) L (Q : APost), body fr H = some L → (∀ r ∈ L, Q r.1 r.2.1 r.2.2) → ev T G mx (EvCall P T G) n c fr H Q) :
    ∀ (m : Nat) (fr : List AV) (H : AH) L, rLoop body m fr H = some L → (∀ r ∈ L, Q r.1 r.2.1 r.2.2) → ev T G mx (EvCall P T G) n (.loop c) fr H Q
  | 0, fr, H, L, h, _ => by simp [rLoop] at h
  | m + 1, fr, H, L, h, hq => by
    unfold rLoop at h
    refine loop_round ?_
    split at h
    · rename_i fr1 H1 h1
      refine hb _ _ _ _ h1 fun r hr => ?_
      rw [List.mem_singleton.1 hr]
      exact rLoop_sound hb m _ _ _ h hq
    · rename_i L1 _ h1
      refine then_of (fun Q' => hb _ _ _ Q' h1) fun r hr => ?_
      obtain ⟨x, hx, hm⟩ := bindAll_mem h r hr
      obtain ⟨e, fr', H'⟩ := r
      cases e with
      | normal => exact rLoop_sound hb m _ _ _ hx (fun b hb' => hq b (hm b hb'))
      | exit id => cases hx; exact hq _ (hm _ (List.mem_singleton.2 rfl))
      | ret => cases hx; exact hq _ (hm _ (List.mem_singleton.2 rfl))
    · cases h
theorem rCode_sound (hC : Says P T G C) {mx : Bool} {n : Nat} {tbl : Nat → Option Plan} : ∀ (c : Code), codeOk T tbl c = true → ∀ (fr : List AV) (H : AH) L (Q : APost), rCode T G C n tbl c fr H = some L → (∀ r ∈ L, Q r.1 r.2.1 r.2.2) → ev T G mx (EvCall P T G) n c fr H Q := by
  intro c
  have one : ∀ {e : AX} {fr : List AV} {H : AH} {L : List (AX × List AV × AH)} {Q : APost}, some [(e, fr, H)] = some L → (∀ r ∈ L, Q r.1 r.2.1 r.2.2) → Q e fr H := fun h hq => by
    cases h
    exact hq _ (List.mem_singleton.2 rfl)
  induction c with
  | skip => intro _ fr H L Q h hq; exact do_skip (one h hq)
  | region id ops d =>
    intro hok fr H L Q h hq
    unfold rCode at h
    have hall : ∃ L1, (if d then (tbl id).bind fun pl => (rPlan T G C ops.toList pl fr H).map (unify n) else rList T G C ops ops.toList fr H) = some L1 ∧ ∀ r ∈ L1, Q .normal r.1 r.2 := by
      split at h
      · rename_i fr1 H1 h1
        refine ⟨_, h1, fun r hr => ?_⟩
        rw [List.mem_singleton.1 hr]
        exact one h hq
      · rename_i L1 _ h1
        cases h
        exact ⟨_, h1, fun r hr => hq _ (List.mem_map.2 ⟨r, hr, rfl⟩)⟩
      · cases h
    obtain ⟨L1, h1, hq1⟩ := hall
    cases d with
    | false =>
      simp only [Bool.false_eq_true, if_false] at h1
      rw [ev_region]
      exact rList_sound hC _ h1 hq1
    | true =>
      simp only [if_true] at h1
      unfold codeOk at hok
      cases ht : tbl id with
      | none => rw [ht] at h1; simp at h1
      | some pl =>
        obtain ⟨p0, f1, f2, cp, rows⟩ := pl
        rw [ht] at h1 hok
        simp only [Option.bind_some, Option.map_eq_some_iff] at h1 hok
        obtain ⟨L0, h0, rfl⟩ := h1
        have := rPlan_sound (mx := mx) (n := n) (id := id) hC hok (Q := Q) h0 hq1
        rwa [Array.toArray_toList] at this
  | seq a b iha ihb =>
    intro hok fr H L Q h hq
    simp only [codeOk, Bool.and_eq_true] at hok
    unfold rCode at h
    refine go_seq ?_
    split at h
    · rename_i fr1 H1 h1
      refine iha hok.1 _ _ _ _ h1 fun r hr => ?_
      rw [List.mem_singleton.1 hr]
      exact go_same (ihb hok.2 _ _ _ _ h hq)
    · rename_i L1 _ h1
      refine then_of (fun Q' => iha hok.1 _ _ _ Q' h1) fun r hr => ?_
      obtain ⟨x, hx, hm⟩ := bindAll_mem h r hr
      obtain ⟨e, fr', H'⟩ := r
      cases e with
      | normal => exact go_same (ihb hok.2 _ _ _ _ hx (fun b hb' => hq b (hm b hb')))
      | exit id => cases hx; exact hq _ (hm _ (List.mem_singleton.2 rfl))
      | ret => cases hx; exact hq _ (hm _ (List.mem_singleton.2 rfl))
    · cases h
  | cond c a b iha ihb =>
    intro hok fr H L Q h hq
    simp only [codeOk, Bool.and_eq_true] at hok
    unfold rCode at h
    split at h
    · rename_i hc
      exact cond_t hc (iha hok.1 _ _ _ _ h hq)
    · rename_i hc
      exact cond_f hc (ihb hok.2 _ _ _ _ h hq)
    · cases h
  | block id c ih =>
    intro hok fr H L Q h hq
    simp only [codeOk] at hok
    unfold rCode at h
    refine go_block ?_
    split at h
    · rename_i L1 h1
      cases h
      refine ih hok _ _ _ _ h1 fun r hr => ?_
      have := hq _ (List.mem_map.2 ⟨r, hr, rfl⟩)
      obtain ⟨e, fr', H'⟩ := r
      cases e with
      | normal => exact this
      | ret => exact this
      | exit i =>
        show (if i = id then _ else _)
        simp only at this
        split at this
        · rename_i hi
          rw [if_pos hi]
          exact this
        · rename_i hi
          rw [if_neg hi]
          exact this
    · cases h
  | loop c ih =>
    intro hok fr H L Q h hq
    simp only [codeOk] at hok
    unfold rCode at h
    exact rLoop_sound (fun fr H L Q => ih hok fr H L Q) _ _ _ _ h hq
  | rangeFunc f ps a b _ _ => intro _ fr H L Q h; simp [rCode] at h
  | exit id => intro _ fr H L Q h hq; exact do_exit (one h hq)
  | scope c ih =>
    intro hok fr H L Q h hq
    simp only [codeOk] at hok
    unfold rCode at h
    exact do_scope (ih hok _ _ _ _ h hq)
  | label l => intro _ fr H L Q h hq; exact do_label (one h hq)
  | goto l => intro _ fr H L Q h; simp [rCode] at h
  | ret => intro _ fr H L Q h hq; exact do_ret (one h hq)
  | refuse w => intro _ fr H L Q h; simp [rCode] at h
theorem rEnd_some {n : Nat} {rs : List (AV × AH)} {v : AV} {H' : AH} (h : rEnd n rs = some (v, H')) : ∀ r ∈ rs, VS n [r.1] r.2 [v] H' := by
  unfold rEnd at h
  split at h
  · rename_i v' H1 hu
    intro r hr
    have := unify_vs (K := fun fr H => fr = [v'] ∧ H = H1) (n := n) (L := rs.map fun r => ([r.1], r.2)) (by rw [hu]; intro r hr; rw [List.mem_singleton.1 hr]; exact ⟨rfl, rfl⟩) _ (List.mem_map.2 ⟨r, hr, rfl⟩)
    obtain ⟨fr', H2, hvs, rfl, rfl⟩ := this
    split at h
    · rename_i v2 H2 hp
      cases h
      exact hvs.trans (packed1_vs hp)
    · cases h
      exact hvs
  · cases h
/-- The table of functions is the program's. -/
def TabOk (P : Program) (T : TT) (fns : FuncId → Option (Func × (Nat → Option Plan))) : Prop :=
  ∀ f fn tbl, fns f = some (fn, tbl) → P.funcs[f]? = some fn ∧ (fn.name == "runtime.NumGoroutine") = false ∧ ∀ c, fn.body = some c → codeOk T tbl c = true
theorem mapM_mem {α β : Type} {f : α → Option β} : ∀ {l : List α} {r : List β}, l.mapM f = some r → ∀ a ∈ l, ∃ b, f a = some b ∧ b ∈ r
  | [], _, _, a, ha => by simp at ha
  | a0 :: l, r, h, a, ha => by
    simp only [List.mapM_cons, Option.bind_eq_bind, Option.bind_eq_some_iff, Option.pure_def, Option.some.injEq] at h
    obtain ⟨b, hb, bs, hbs, rfl⟩ := h
    rcases List.mem_cons.1 ha with rfl | ha
    · exact ⟨b, hb, by simp⟩
    · obtain ⟨b', h1, h2⟩ := mapM_mem hbs a ha
      exact ⟨b', h1, by simp [h2]⟩
theorem rCall_says {fns : FuncId → Option (Func × (Nat → Option Plan))} {orc : RCall} (hT : TabOk P T fns) (ho : Says P T G orc) : ∀ d, Says P T G (rCall T G fns orc d)
  | 0 => fun f args H v H' h => by simp [rCall] at h
  | d + 1 => fun f args H v H' h k hk => by
    unfold rCall at h
    split at h
    · rename_i r hr
      cases h
      exact ho _ _ _ _ _ hr k hk
    · split at h
      · cases h
      · rename_i fn tbl hf
        obtain ⟨h1, h2, h3⟩ := hT _ _ _ hf
        split at h
        · cases h
        · rename_i c hc
          refine go_call h1 hc h2 rfl ?_
          split at h
          · rename_i L h4
            split at h
            · rename_i rs hrs
              refine rCode_sound (rCall_says hT ho d) c (h3 c hc) _ _ _ _ h4 fun r hr => ?_
              obtain ⟨x, hx, hm⟩ := mapM_mem hrs r hr
              obtain ⟨e, fr', H1⟩ := r
              have hne : ∀ id, e ≠ .exit id := fun id e' => by subst e'; cases hx
              have hx' : (aresults T fn fr' H1).map (·, H1) = some x := by cases e <;> first | exact hx | exact absurd rfl (hne _)
              simp only [Option.map_eq_some_iff] at hx'
              obtain ⟨r', hr', rfl⟩ := hx'
              have hvs := rEnd_some h _ hm
              exact ⟨by cases e <;> first | trivial | exact absurd rfl (hne _), r', hr', v, H', hvs, hk⟩
            · cases h
          · cases h
end
/-- A closed run that answers yes. -/
def answers (r : Option (AV × AH)) (b : Bool) : Bool := match r with
  | some (.bool c, _) => c == b
  | _ => false
theorem run_answers {P : Program} {T : TT} {G : Nat → Option (List AV)} {C : RCall} (hC : Says P T G C) {f : FuncId} {args : List AV} {H : AH} {b : Bool} (h : answers (C f args H) b = true) : EvCall P T G f args H (fun r _ => r = .bool b) := by
  unfold answers at h
  split at h
  · rename_i c H' hc
    simp only [beq_iff_eq] at h
    subst h
    exact hC _ _ _ _ _ hc _ rfl
  · cases h
/-- A closed run that comes to a value. -/
def comesTo (r : Option (AV × AH)) (v : AV) : Bool := match r with
  | some (v', _) => v'.same v
  | none => false
theorem run_comes {P : Program} {T : TT} {G : Nat → Option (List AV)} {C : RCall} (hC : Says P T G C) {f : FuncId} {args : List AV} {H : AH} {v : AV} (h : comesTo (C f args H) v = true) : EvCall P T G f args H (fun r _ => r = v) := by
  unfold comesTo at h
  split at h
  · rename_i v' H' hc
    exact hC _ _ _ _ _ hc _ (same_eq h)
  · cases h
/-- The same, at any heap. -/
theorem run_at {P : Program} {T : TT} {G : Nat → Option (List AV)} {C : RCall} (hC : Says P T G C) {f : FuncId} {args : List AV} {v : AV} (ha : lows 0 args = true) (hv : v.low 0 = true) (h : comesTo (C f args []) v = true) (H : AH) {k : AV → AH → Prop} (hk : k v H) : EvCall P T G f args H k :=
  EvCall.hide ha (run_comes hC h) (fun r H' e => by rw [e]; exact hv) H (fun r H' e => by rw [e]; exact hk)
def bodyOk (T : TT) (tbl : Nat → Option Plan) (fn : Func) : Bool := match fn.body with
  | some c => codeOk T tbl c
  | none => true
def AreFuncs (P : Program) : List (Nat × Func × (Nat → Option Plan)) → Prop
  | [] => True
  | p :: r => P.funcs[p.1]? = some p.2.1 ∧ AreFuncs P r
def fnOk (T : TT) (tbl : Nat → Option Plan) (fn : Func) : Bool := !(fn.name == "runtime.NumGoroutine") && bodyOk T tbl fn
def FitAll (T : TT) : List (Nat × Func × (Nat → Option Plan)) → Prop
  | [] => True
  | p :: r => fnOk T p.2.2 p.2.1 = true ∧ FitAll T r
theorem tabOk_of {P : Program} {T : TT} : ∀ {l : List (Nat × Func × (Nat → Option Plan))}, AreFuncs P l → FitAll T l → TabOk P T (fun f => (l.find? fun p => p.1 == f).map (·.2))
  | [], _, _ => fun f fn tbl h => by simp at h
  | p :: l, h1, h2 => fun f fn tbl h => by
    simp only [List.find?_cons] at h
    cases hq : p.1 == f with
    | false =>
      rw [hq] at h
      exact tabOk_of h1.2 h2.2 f fn tbl h
    | true =>
      rw [hq] at h
      simp only [Option.map_some, Option.some.injEq] at h
      have hf : p.1 = f := by simpa using hq
      have h3 := h2.1
      have h4 := h1.1
      unfold fnOk at h3
      simp only [Bool.and_eq_true, Bool.not_eq_true'] at h3
      rw [h] at h3 h4
      rw [hf] at h4
      refine ⟨h4, h3.1, fun c hc => ?_⟩
      have := h3.2
      unfold bodyOk at this
      rw [hc] at this
      exact this
theorem says_none {P : Program} {T : TT} {G : Nat → Option (List AV)} : Says P T G (fun _ _ _ => none) := fun _ _ _ _ _ h => by cases h
end Go.Abs
