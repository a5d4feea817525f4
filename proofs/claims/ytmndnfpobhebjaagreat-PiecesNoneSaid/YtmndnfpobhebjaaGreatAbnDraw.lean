/- A region whose order is drawn: operations that leave the heap be, in any order. -/
import Derived.Test.YtmndnfpobhebjaaGreatAbnRun
import Derived.Orders
namespace Go.Abs
theorem mapM_congr_mem {α β : Type} {f g : α → Option β} : ∀ {l : List α}, (∀ x ∈ l, f x = g x) → l.mapM f = l.mapM g
  | [], _ => rfl
  | a :: l, h => by
    simp only [List.mapM_cons]
    rw [h a (by simp), mapM_congr_mem (l := l) (fun x hx => h x (by simp [hx]))]

theorem aop_congr {T : TT} {G : Nat → Option (List AV)} {fr fr' : List AV} {H : AH} (op : Op) (h : ∀ x ∈ op.operands, aval G fr x = aval G fr' x) : aop T G fr H op = aop T G fr' H op := by
  have hl : ∀ xs : Array Operand, (∀ x ∈ xs, aval G fr x = aval G fr' x) → xs.toList.mapM (aval G fr) = xs.toList.mapM (aval G fr') := fun xs hx => mapM_congr_mem fun x hm => hx x (by simpa using hm)
  have hp : ∀ ps : Array (Nat × Operand), (∀ x ∈ (ps.toList.map (·.2)).toArray, aval G fr x = aval G fr' x) →
      (ps.toList.mapM fun p => (aval G fr p.2).map fun v => (p.1, v)) = (ps.toList.mapM fun p => (aval G fr' p.2).map fun v => (p.1, v)) := fun ps hx => mapM_congr_mem fun p hm => by
    rw [hx p.2 (by simpa using ⟨p.1, by simpa using hm⟩)]
  cases op
  case move x | assign x | box t x | load t x | nilCheck x | unOp o t x | convert s t x | extract x i => simp only [aop, h x (by simp [Op.operands])]
  case pick a b c => simp only [aop, h a (by simp [Op.operands]), h b (by simp [Op.operands]), h c (by simp [Op.operands])]
  case build t ps => simp only [aop, hp ps (fun x hx => h x hx)]
  case buildSlice t n ps => simp only [aop, hp ps (fun x hx => h x hx)]
  case store t a b | binOp o t a b u | makeSlice t a b | indexAddr t a b | index t a b => simp only [aop, h a (by simp [Op.operands]), h b (by simp [Op.operands])]
  case lookup t a b ok => simp only [aop, h a (by simp [Op.operands]), h b (by simp [Op.operands])]
  case mapUpdate t a b c | insert t a b c => simp only [aop, h a (by simp [Op.operands]), h b (by simp [Op.operands]), h c (by simp [Op.operands])]
  case makeMap t r => cases r <;> rfl
  case range t x | entry x => simp only [aop, h x (by simp [Op.operands])]
  case fieldAddr t x f => simp only [aop, h x (by simp [Op.operands])]
  case field t x f => simp only [aop, h x (by simp [Op.operands])]
  case makeFunc f a b =>
    cases f <;> simp only [aop]
    rw [hl a (fun x hx => h x (by simp [Op.operands, hx])), hl b (fun x hx => h x (by simp [Op.operands, hx]))]
  case slice t x a b c =>
    have ho : ∀ o : Option Operand, (∀ y ∈ o.toArray, aval G fr y = aval G fr' y) → o.mapM (aval G fr) = o.mapM (aval G fr') := fun o hy => by
      cases o with
      | none => rfl
      | some y => show Option.map some (aval G fr y) = Option.map some (aval G fr' y); rw [hy y (by simp)]
    simp only [aop, h x (by simp [Op.operands]), ho a (fun y hy => h y (by simp [Op.operands] at hy ⊢; simp [hy])), ho b (fun y hy => h y (by simp [Op.operands] at hy ⊢; simp [hy])), ho c (fun y hy => h y (by simp [Op.operands] at hy ⊢; simp [hy]))]
  case call c =>
    obtain ⟨cl, as, ts⟩ := c
    cases cl <;> simp only [aop]
    rw [hl as (fun x hx => h x (by simp [Op.operands, Call.operands, hx]))]
  all_goals rfl

theorem aalt_congr {T : TT} {G : Nat → Option (List AV)} {fr fr' : List AV} {H : AH} (j : Nat) (op : Op) (h : ∀ x ∈ op.operands, aval G fr x = aval G fr' x) : aalt T G fr H j op = aalt T G fr' H j op := by
  cases op
  case buildSlice t n ps =>
    have hp : (ps.toList.mapM fun p => (aval G fr p.2).map fun v => (p.1, v)) = (ps.toList.mapM fun p => (aval G fr' p.2).map fun v => (p.1, v)) := mapM_congr_mem fun p hm => by
      rw [h p.2 (by simpa [Op.operands] using ⟨p.1, by simpa using hm⟩)]
    simp only [aalt, afrozen, hp]
  case convert s t x => simp only [aalt, h x (by simp [Op.operands])]
  case makeSlice t a b => simp only [aalt, h a (by simp [Op.operands]), h b (by simp [Op.operands])]
  case call c =>
    obtain ⟨cl, as, ts⟩ := c
    have hl : as.toList.mapM (aval G fr) = as.toList.mapM (aval G fr') := mapM_congr_mem fun x hm => h x (by
      have hx' : x ∈ as := by simpa using hm
      simp [Op.operands, Call.operands, hx'])
    cases cl with
    | builtin b => cases b <;> first | rfl | simp only [aalt, hl]
    | value f => rfl
    | invoke a b => rfl
  all_goals rfl

def isAny (e : Edge) : Bool := match e.ground with | .textOnly _ | .gcOnly _ => false | _ => true
def departsL (ops : List Oper) : Bool := ops.any fun o => o.after.toList.any fun e => !Region.binds .any e
theorem departsL_eq {ops : List Oper} : Region.departs ops.toArray = departsL ops := by
  unfold Region.departs departsL
  rw [List.any_toArray]
  congr 1
  funext o
  rw [Array.any_toList]
/-- A region whose operations each write a slot of their own, and read what an edge bids them to await. -/
def okDraw (ops : List Oper) : Bool :=
  !departsL ops && (List.range ops.length).all fun i => match ops[i]? with
    | none => false
    | some o => o.dst.isSome && (o.after.toList.all fun e => decide (e.on < i)) && (List.range ops.length).all fun j => match ops[j]? with
      | none => false
      | some o' => (i == j || !(o'.dst == o.dst)) && (match o'.dst with
        | some k => !((o.looksAt ops.toArray).contains k) || o.after.toList.any fun e => isAny e && e.on == j
        | none => false)

def chk1 (T : TT) (G : Nat → Option (List AV)) (ops : List Oper) (F : List AV) (H : AH) (o : Oper) : Prop :=
  match o.guard with
  | none => (o.dst.bind (F[·]?)).isSome = true ∧ aop T G F H o.op = (o.dst.bind (F[·]?)).map (·, H)
  | some (j, w) => (ayielded ops.toArray F j = some w ∧ (o.dst.bind (F[·]?)).isSome = true ∧ aop T G F H o.op = (o.dst.bind (F[·]?)).map (·, H)) ∨
      (ayielded ops.toArray F j = some (!w) ∧ o.dst.bind (F[·]?) = some (.tup [])) ∨ (ayielded ops.toArray F j = none ∧ o.dst.bind (F[·]?) = some (.tup []))
def chks (T : TT) (G : Nat → Option (List AV)) (ops : List Oper) (F : List AV) (H : AH) : List Oper → Prop
  | [] => True
  | o :: rest => chk1 T G ops F H o ∧ chks T G ops F H rest
theorem chks_mem {T : TT} {G : Nat → Option (List AV)} {ops : List Oper} {F : List AV} {H : AH} {o : Oper} : ∀ {l : List Oper}, chks T G ops F H l → o ∈ l → chk1 T G ops F H o
  | [], _, h => by simp at h
  | a :: l, hc, h => by
    rcases List.mem_cons.1 h with rfl | h
    · exact hc.1
    · exact chks_mem hc.2 h

theorem chk1_spec {T : TT} {G : Nat → Option (List AV)} {ops : List Oper} {F : List AV} {H : AH} {o : Oper} (h : chk1 T G ops F H o) : ∃ v, o.dst.bind (F[·]?) = some v ∧
    ((Region.wanted o (ayielded ops.toArray F) = true ∧ aop T G F H o.op = some (v, H)) ∨ (Region.wanted o (ayielded ops.toArray F) = false ∧ v = .tup [])) := by
  unfold chk1 at h
  unfold Region.wanted
  cases hg : o.guard with
  | none =>
    rw [hg] at h
    obtain ⟨h1, h2⟩ := h
    obtain ⟨v, hv⟩ := Option.isSome_iff_exists.1 h1
    rw [hv] at h2
    exact ⟨v, hv, .inl ⟨rfl, h2⟩⟩
  | some jw =>
    obtain ⟨j, w⟩ := jw
    rw [hg] at h
    rcases h with ⟨hy, h1, h2⟩ | ⟨hy, h1⟩ | ⟨hy, h1⟩
    · obtain ⟨v, hv⟩ := Option.isSome_iff_exists.1 h1
      rw [hv] at h2
      exact ⟨v, hv, .inl ⟨by simp [hy], h2⟩⟩
    · exact ⟨_, h1, .inr ⟨by cases w <;> simp [hy], rfl⟩⟩
    · exact ⟨_, h1, .inr ⟨by cases w <;> simp [hy], rfl⟩⟩

theorem isAny_binds {e : Edge} (h : isAny e = true) (m : Region.Mode) : Region.binds m e = true := by
  unfold isAny at h
  unfold Region.binds
  cases hg : e.ground <;> simp_all

structure Agree (ops : List Oper) (F : List AV) (listed : Array Bool) (fr : List AV) : Prop where
  len : fr.length = F.length
  done : ∀ (i : Nat) (o : Oper) (k : Nat), ops[i]? = some o → o.dst = some k → listed.getD i false = true → fr[k]? = F[k]?
  rest : ∀ (k : Nat), (∀ (i : Nat) (o : Oper), ops[i]? = some o → o.dst ≠ some k) → fr[k]? = F[k]?

theorem okDraw_spec {ops : List Oper} (h : okDraw ops = true) : Region.departs ops.toArray = false ∧ ∀ i o, ops[i]? = some o → (∃ k, o.dst = some k) ∧ (∀ e ∈ o.after, e.on < i) ∧
    ∀ j o' k, ops[j]? = some o' → o'.dst = some k → (i ≠ j → o.dst ≠ some k) ∧ (k ∈ o.looksAt ops.toArray → ∃ e ∈ o.after, isAny e = true ∧ e.on = j) := by
  unfold okDraw at h
  rw [Bool.and_eq_true, Bool.not_eq_true', List.all_eq_true] at h
  obtain ⟨h0, h⟩ := h
  rw [departsL_eq]
  refine ⟨h0, fun i o hi => ?_⟩
  have hin : i < ops.length := (List.getElem?_eq_some_iff.1 hi).1
  have h1 := h i (List.mem_range.2 hin)
  rw [hi] at h1
  simp only [Bool.and_eq_true, List.all_eq_true, decide_eq_true_eq] at h1
  obtain ⟨⟨h2, h3⟩, h4⟩ := h1
  refine ⟨Option.isSome_iff_exists.1 h2, fun e he => h3 e (by simpa using he), fun j o' k hj hk => ?_⟩
  have h5 := h4 j (List.mem_range.2 (List.getElem?_eq_some_iff.1 hj).1)
  rw [hj] at h5
  simp only [Bool.and_eq_true, hk, Bool.or_eq_true, beq_iff_eq, Bool.not_eq_true', List.any_eq_true] at h5
  obtain ⟨h6, h7⟩ := h5
  refine ⟨fun hne hd => ?_, fun hm => ?_⟩
  · rcases h6 with h6 | h6
    · exact hne h6
    · rw [hd] at h6; simp at h6
  · rcases h7 with h7 | ⟨e, he, h8, h9⟩
    · rw [List.contains_eq_mem, decide_eq_false_iff_not] at h7
      exact absurd hm h7
    · exact ⟨e, by simpa using he, h8, h9⟩

theorem agree_reads {ops : List Oper} {F : List AV} {listed : Array Bool} {fr : List AV} {G : Nat → Option (List AV)} (hok : okDraw ops = true) (ha : Agree ops F listed fr) {i : Nat} {o : Oper} {m : Region.Mode} (hi : ops[i]? = some o)
    (hr : ∀ e ∈ o.after, Region.binds m e = true → listed.getD e.on false = true) : (∀ x ∈ o.op.operands, aval G fr x = aval G F x) ∧ Region.wanted o (ayielded ops.toArray fr) = Region.wanted o (ayielded ops.toArray F) := by
  have key : ∀ k ∈ o.looksAt ops.toArray, fr[k]? = F[k]? := fun k hk => by
    by_cases hd : ∀ (j : Nat) (o' : Oper), ops[j]? = some o' → o'.dst ≠ some k
    · exact ha.rest k hd
    · simp only [Classical.not_forall] at hd
      obtain ⟨j, o', hj, hk'⟩ := hd
      have hk'' : o'.dst = some k := Classical.not_not.1 hk'
      obtain ⟨e, he, h1, h2⟩ := (((okDraw_spec hok).2 i o hi).2.2 j o' k hj hk'').2 hk
      exact ha.done j o' k hj hk'' (h2 ▸ hr e he (isAny_binds h1 m))
  constructor
  · intro x hx
    cases x with
    | tmp t =>
      have := key t (List.mem_append_left _ (List.mem_filterMap.2 ⟨.tmp t, by simpa using hx, rfl⟩))
      simp only [aval, List.getD_eq_getElem?_getD, this]
    | _ => rfl
  · unfold Region.wanted
    cases hg : o.guard with
    | none => rfl
    | some jw =>
      obtain ⟨j, w⟩ := jw
      have : ayielded ops.toArray fr j = ayielded ops.toArray F j := by
        unfold ayielded
        cases ht : (ops.toArray[j]?).bind (·.dst) with
        | none => rfl
        | some t =>
          have := key t (List.mem_append_right _ (by rw [hg]; simp only []; rw [ht]; simp))
          simp only [Option.bind_some, this]
      simp only [this]

theorem draw_sound {T : TT} {G : Nat → Option (List AV)} {C : ACall} {K : List AV → AH → Prop} {ops : List Oper} {F : List AV} {H : AH} (m : Region.Mode) (hok : okDraw ops = true) (hc : chks T G ops F H ops) (hK : K F H) :
    ∀ (fuel t : Nat) (listed : Array Bool) (fr : List AV), listed.size = ops.length → listed.toList.count false = fuel → Agree ops F listed fr →
      evOps T G C ops.toArray K (Region.linearise.go m ops.toArray fuel t listed []) fr H := by
  have hend : ∀ (listed : Array Bool) (fr : List AV), listed.size = ops.length → (∀ i, i < ops.length → listed.getD i false = true) → Agree ops F listed fr → fr = F := fun listed fr hs hall ha => by
    refine List.ext_getElem? fun k => ?_
    by_cases hd : ∀ (j : Nat) (o' : Oper), ops[j]? = some o' → o'.dst ≠ some k
    · exact ha.rest k hd
    · simp only [Classical.not_forall] at hd
      obtain ⟨j, o', hj, hk'⟩ := hd
      exact ha.done j o' k hj (Classical.not_not.1 hk') (hall j (List.getElem?_eq_some_iff.1 hj).1)
  intro fuel
  induction fuel with
  | zero =>
    intro t listed fr hs hcount ha
    have hall : ∀ i, i < ops.length → listed.getD i false = true := fun i hi => by
      have hn := List.count_eq_zero.1 hcount
      have hlt : i < listed.size := by omega
      cases hb : listed[i] with
      | true => simp [hlt, hb]
      | false => exact absurd (by rw [← hb]; simp) hn
    rw [hend listed fr hs hall ha]
    simpa [Region.linearise.go, evOps] using hK
  | succ fuel ih =>
    intro t listed fr hs hcount ha
    simp only [Region.linearise.go]
    change evOps T G C ops.toArray K (match (Region.ready m ops.toArray listed)[t % (Region.ready m ops.toArray listed).length]? with
      | some i => Region.linearise.go m ops.toArray fuel (t / (Region.ready m ops.toArray listed).length) (listed.setIfInBounds i true) [i]
      | none => [].reverse) fr H
    cases hi : (Region.ready m ops.toArray listed)[t % (Region.ready m ops.toArray listed).length]? with
    | none =>
      exfalso
      have hnil : Region.ready m ops.toArray listed = [] := by
        cases hr : Region.ready m ops.toArray listed with
        | nil => rfl
        | cons x xs =>
          rw [hr] at hi
          have hlt : t % (x :: xs).length < (x :: xs).length := Nat.mod_lt _ (by simp)
          simp at hi
          simp at hlt
          omega
      have hall : ∀ i, i < ops.length → listed.getD i false = true := by
        intro i
        induction i using Nat.strongRecOn with
        | ind i ihi =>
          intro hil
          cases hb : listed.getD i false with
          | true => rfl
          | false =>
            have : i ∈ Region.ready m ops.toArray listed := by
              rw [mem_ready]
              have hlt : i < listed.size := by omega
              refine ⟨by simpa [hlt] using hb, ops[i], by simp, fun e he _ => ?_⟩
              have := ((okDraw_spec hok).2 i ops[i] (by simp)).2.1 e he
              exact ihi e.on this (by omega)
            rw [hnil] at this
            simp at this
      have : false ∈ listed.toList := List.count_pos_iff.1 (by omega)
      obtain ⟨i, hi', hb⟩ := List.getElem_of_mem this
      have hlt : i < listed.size := by simpa using hi'
      have := hall i (by omega)
      rw [Array.getElem_toList] at hb
      simp [hlt, hb] at this
    | some i =>
      simp only []
      rw [linearise_go_acc, List.reverse_singleton, List.singleton_append]
      have hr := List.mem_of_getElem? hi
      rw [mem_ready] at hr
      obtain ⟨hl, o, ho, hdeps⟩ := hr
      have ho' : ops[i]? = some o := by simpa using ho
      obtain ⟨hread, hwant⟩ := agree_reads (G := G) hok ha ho' hdeps
      obtain ⟨v, hv, hcase⟩ := chk1_spec (chks_mem hc (List.mem_of_getElem? ho'))
      obtain ⟨d, hd⟩ := ((okDraw_spec hok).2 i o ho').1
      rw [hd, Option.bind_some] at hv
      have hil : i < listed.size := by have := (List.getElem?_eq_some_iff.1 ho').1; omega
      have hnext : Agree ops F (listed.setIfInBounds i true) (fr.set d v) := by
        refine ⟨by simp [ha.len], fun j o' k hj hk hlj => ?_, fun k hk => ?_⟩
        · by_cases hij : j = i
          · subst hij
            rw [ho'] at hj
            cases hj
            rw [hd] at hk
            cases hk
            have hdl := (List.getElem?_eq_some_iff.1 hv).1
            rw [hv, List.getElem?_set_self (by rw [ha.len]; exact hdl)]
          · have hne : d ≠ k := fun e => (((okDraw_spec hok).2 i o ho').2.2 j o' k hj hk).1 (Ne.symm hij) (e ▸ hd)
            rw [List.getElem?_set_ne hne]
            refine ha.done j o' k hj hk ?_
            rwa [getD_set_ne false (Ne.symm hij)] at hlj
        · have hne : d ≠ k := fun e => hk i o ho' (e ▸ hd)
          rw [List.getElem?_set_ne hne]
          exact ha.rest k hk
      have hcnt : (listed.setIfInBounds i true).toList.count false = fuel := by
        rw [Array.toList_setIfInBounds, List.count_set (by simpa using hil)]
        have : listed.toList[i]'(by simpa using hil) = false := by
          rw [Array.getElem_toList]
          simpa [hil] using hl
        rw [this, hcount]
        rfl
      have hgo := ih (t / (Region.ready m ops.toArray listed).length) _ _ (by simpa using hs) hcnt hnext
      show evOps T G C ops.toArray K (i :: _) fr H
      unfold evOps
      rw [ho]
      simp only [hwant]
      rcases hcase with ⟨hw, hop⟩ | ⟨hw, hv'⟩
      · rw [if_pos hw]
        have hop' : aop T G fr H o.op = some (v, H) := by rw [aop_congr o.op hread]; exact hop
        refine evOp_of hop' ?_
        rw [hd]
        exact hgo
      · rw [if_neg (by simp [hw]), hd, ← hv']
        exact hgo

theorem evList_ends {T : TT} {G : Nat → Option (List AV)} {C : ACall} {K : List AV → AH → Prop} {ops : Array Oper} (hC : Ends C) : ∀ (l : List Oper) (fr : List AV) (H : AH), evList T G C ops K l fr H →
    ∃ F H', K F H' ∧ F.length = fr.length ∧ ∀ k, (∀ o ∈ l, o.dst ≠ some k) → F[k]? = fr[k]?
  | [], fr, H, h => ⟨fr, H, h, rfl, fun _ _ => rfl⟩
  | o :: l, fr, H, h => by
    have hput : ∀ v k, o.dst ≠ some k → (aput fr o.dst v)[k]? = fr[k]? := fun v k hk => by
      cases hd : o.dst with
      | none => rfl
      | some d => rw [aput_some, List.getElem?_set_ne (fun e => hk (by rw [hd, e]))]
    have hlen : ∀ v, (aput fr o.dst v).length = fr.length := fun v => by cases o.dst <;> simp [aput]
    have fin : ∀ v H1, evList T G C ops K l (aput fr o.dst v) H1 → ∃ F H', K F H' ∧ F.length = fr.length ∧ ∀ k, (∀ o' ∈ o :: l, o'.dst ≠ some k) → F[k]? = fr[k]? := fun v H1 h1 => by
      obtain ⟨F, H', hk, hl, hf⟩ := evList_ends hC l _ _ h1
      exact ⟨F, H', hk, by rw [hl, hlen], fun k hk' => by rw [hf k (fun o' ho' => hk' o' (by simp [ho'])), hput v k (hk' o (by simp))]⟩
    unfold evList at h
    split at h
    · obtain ⟨v, H', h'⟩ := evOp_ends hC h
      exact fin _ _ h'
    · exact fin _ _ h

theorem go_draw {T : TT} {G : Nat → Option (List AV)} {mx : Bool} {C : ACall} {n : Nat} {fr : List AV} {H : AH} {Q : APost} {id : Nat} {ops : List Oper} (hC : Ends C) (hok : okDraw ops = true)
    (h : evList T G C ops.toArray (fun F H' => H' = H ∧ chks T G ops F H ops ∧ Q .normal F H) ops fr H) : ev T G mx C n (.region id ops.toArray true) fr H Q := by
  obtain ⟨F, H', ⟨rfl, hc, hq⟩, hlen, hkeep⟩ := evList_ends hC _ _ _ h
  unfold ev
  simp only [if_true]
  intro t
  have hs : Region.schedule mx ops.toArray t = Region.linearise .any ops.toArray t := by
    unfold Region.schedule
    rw [(okDraw_spec hok).1]
    simp
  rw [hs]
  unfold Region.linearise
  refine draw_sound (K := fun fr H => ∃ fr' H', VS n fr H fr' H' ∧ Q .normal fr' H') .any hok hc ⟨F, _, VS.refl _ _ _, hq⟩ _ _ _ _ (by simp) (by simp) ⟨hlen.symm, fun i o k _ _ hl => ?_, fun k hk => (hkeep k (fun o ho => ?_)).symm⟩
  · exfalso
    by_cases hi : i < ops.length <;> simp [hi] at hl
  · obtain ⟨i, hi⟩ := List.getElem?_of_mem ho
    exact hk i o hi

/-- Told at once: what each operation of a list comes to in a frame. -/
def outs (T : TT) (G : Nat → Option (List AV)) (A : Array Oper) (F : List AV) (H : AH) (l : List Oper) : List (Option (AV × AH)) :=
  l.map fun o => match o.guard with
    | none => aop T G F H o.op
    | some (j, w) => match ayielded A F j with
      | some b => match b == w with
        | true => aop T G F H o.op
        | false => some (.tup [], H)
      | none => some (.tup [], H)
def slots (F : List AV) (H : AH) (l : List Oper) : List (Option (AV × AH)) := l.map fun o => (o.dst.bind (F[·]?)).map (·, H)
theorem chks_of {T : TT} {G : Nat → Option (List AV)} {ops : List Oper} {F : List AV} {H : AH} : ∀ {l : List Oper}, (l.all fun o => (o.dst.bind (F[·]?)).isSome) = true → outs T G ops.toArray F H l = slots F H l → chks T G ops F H l
  | [], _, _ => trivial
  | o :: l, h1, h2 => by
    simp only [List.all_cons, Bool.and_eq_true] at h1
    simp only [outs, slots, List.map_cons, List.cons.injEq] at h2
    refine ⟨?_, chks_of h1.2 h2.2⟩
    obtain ⟨v, hv⟩ := Option.isSome_iff_exists.1 h1.1
    have h3 := h2.1
    unfold chk1
    cases hg : o.guard with
    | none =>
      rw [hg] at h3
      exact ⟨h1.1, h3⟩
    | some jw =>
      obtain ⟨j, w⟩ := jw
      rw [hg] at h3
      simp only at h3 ⊢
      cases hy : ayielded ops.toArray F j with
      | none =>
        rw [hy] at h3
        simp only [hv, Option.map_some, Option.some.injEq, Prod.mk.injEq] at h3
        exact .inr (.inr ⟨rfl, by rw [hv, ← h3.1]⟩)
      | some b =>
        rw [hy] at h3
        simp only at h3
        cases hb : b == w with
        | true =>
          rw [hb] at h3
          have : b = w := by simpa using hb
          subst this
          exact .inl ⟨rfl, h1.1, h3⟩
        | false =>
          rw [hb] at h3
          simp only [hv, Option.map_some, Option.some.injEq, Prod.mk.injEq] at h3
          have : b = !w := by cases b <;> cases w <;> simp at hb ⊢
          subst this
          exact .inr (.inl ⟨rfl, by rw [hv, ← h3.1]⟩)
theorem do_drawn {T : TT} {G : Nat → Option (List AV)} {F : List AV} {H : AH} {ops ops' : List Oper} {P : Prop} (h1 : chks T G ops F H ops') (h2 : P) : H = H ∧ chks T G ops F H ops' ∧ P := ⟨rfl, h1, h2⟩
theorem callMono {P : Program} {T : TT} {G : Nat → Option (List AV)} : ∀ f args H (k k' : AV → AH → Prop), (∀ r H, k r H → k' r H) → EvCall P T G f args H k → EvCall P T G f args H k' := fun _ _ _ _ _ hk hc => EvCall.mono hk hc
end Go.Abs
