/- A region whose order is drawn, in which operations that may change the heap stand in a chain: all others are told again at each heap that they may meet. -/
import Derived.Test.YtmndnfpobhebjaaGreatAbnDraw
namespace Go.Abs
theorem evOp_congr {T : TT} {G : Nat → Option (List AV)} {C : ACall} {fr fr' : List AV} {H : AH} {op : Op} {k : AV → AH → Prop} (h : ∀ x ∈ op.operands, aval G fr x = aval G fr' x) (hk : evOp T G C fr' H op k) : evOp T G C fr H op k := by
  have h1 := aop_congr (T := T) (H := H) op h
  have h2 := fun j => aalt_congr (T := T) (H := H) j op h
  unfold evOp at hk ⊢
  split at hk
  · rename_i f args ts
    have hl : args.toList.mapM (aval G fr) = args.toList.mapM (aval G fr') := mapM_congr_mem fun x hx => h x (by
      have hx' : x ∈ args := by simpa using hx
      simp [Op.operands, Call.operands, hx'])
    have hf := h f (by simp [Op.operands, Call.operands])
    rw [hf, hl]
    exact hk
  · rw [h1]; exact hk.imp id fun ⟨j, hj⟩ => ⟨j, by rw [h2 j]; exact hj⟩
  · rw [h1]; exact hk.imp id fun ⟨j, hj⟩ => ⟨j, by rw [h2 j]; exact hj⟩
  · rw [h1]; exact hk.imp id fun ⟨j, hj⟩ => ⟨j, by rw [h2 j]; exact hj⟩
  · rw [h1]; exact hk.imp id fun ⟨j, hj⟩ => ⟨j, by rw [h2 j]; exact hj⟩
  · rename_i it
    rw [h it (by simp [Op.operands])]
    exact hk
  · rw [h1]; exact hk

/-- A region whose operations each write a slot of their own, and read what an edge bids them to await; whatever mode it is drawn in. -/
def gcEdge (e : Edge) : Bool := match e.ground with | .gcOnly _ => true | _ => false
def textEdge (e : Edge) : Bool := match e.ground with | .textOnly _ => true | _ => false
def okD (cs : List Nat) (ops : List Oper) : Bool :=
  (List.range ops.length).all fun i => match ops[i]? with
    | none => false
    | some o => (cs.contains i || o.dst.isSome) && (o.after.toList.all fun e => if gcEdge e then decide (e.on < ops.length) else decide (e.on < i)) && (List.range ops.length).all fun j => match ops[j]? with
      | none => false
      | some o' => match o'.dst with
        | some k => (i == j || !(o.dst == some k)) && (cs.contains j || !((o.looksAt ops.toArray).contains k) || o.after.toList.any fun e => isAny e && e.on == j)
        | none => true
/-- An order for the mode in which loads come late: told in bytes; 0: as it is written. -/
def lateRank (m i : Nat) : Nat := if m = 0 then i else (m >>> (8 * i)) % 256
def okGc (ops : List Oper) (m : Nat) : Bool :=
  (List.range ops.length).all fun i => match ops[i]? with
    | none => false
    | some o => o.after.toList.all fun e => textEdge e || decide (lateRank m e.on < lateRank m i)
theorem okD_spec {cs : List Nat} {ops : List Oper} (h : okD cs ops = true) : ∀ i o, ops[i]? = some o → (i ∈ cs ∨ ∃ k, o.dst = some k) ∧ (∀ e ∈ o.after, (gcEdge e = false → e.on < i) ∧ e.on < ops.length) ∧
    ∀ j o' k, ops[j]? = some o' → o'.dst = some k → (i ≠ j → o.dst ≠ some k) ∧ (k ∈ o.looksAt ops.toArray → j ∈ cs ∨ ∃ e ∈ o.after, isAny e = true ∧ e.on = j) := by
  unfold okD at h
  rw [List.all_eq_true] at h
  refine fun i o hi => ?_
  have hin : i < ops.length := (List.getElem?_eq_some_iff.1 hi).1
  have h1 := h i (List.mem_range.2 hin)
  rw [hi] at h1
  simp only [Bool.and_eq_true, List.all_eq_true] at h1
  obtain ⟨⟨h2, h3⟩, h4⟩ := h1
  refine ⟨(Bool.or_eq_true_iff.1 h2).imp (fun h => by simpa using h) Option.isSome_iff_exists.1, fun e he => ?_, fun j o' k hj hk => ?_⟩
  · have := h3 e (by simpa using he)
    split at this
    · rename_i hg
      exact ⟨fun h => absurd (hg.symm.trans h) (by decide), by simpa using this⟩
    · have h5 : e.on < i := by simpa using this
      exact ⟨fun _ => h5, by omega⟩
  · have h5 := h4 j (List.mem_range.2 (List.getElem?_eq_some_iff.1 hj).1)
    rw [hj] at h5
    simp only [hk, Bool.and_eq_true, Bool.or_eq_true, beq_iff_eq, Bool.not_eq_true', List.any_eq_true] at h5
    obtain ⟨h6, h7⟩ := h5
    refine ⟨fun hne hd => ?_, fun hm => ?_⟩
    · rcases h6 with h6 | h6
      · exact hne h6
      · rw [hd] at h6; simp at h6
    · rcases h7 with (h7 | h7) | ⟨e, he, h8, h9⟩
      · exact .inl (by simpa using h7)
      · rw [List.contains_eq_mem, decide_eq_false_iff_not] at h7
        exact absurd hm h7
      · exact .inr ⟨e, by simpa using he, h8, h9⟩
/-- A slot is as it should be, unless it waits for an operation that stands free. -/
structure Agree2 (ops : List Oper) (cs : List Nat) (F : List AV) (listed : Array Bool) (fr : List AV) : Prop where
  len : fr.length = F.length
  all : ∀ k, (∀ (i : Nat) (o : Oper), ops[i]? = some o → o.dst = some k → i ∈ cs ∨ listed.getD i false = true) → fr[k]? = F[k]?
theorem any_gc {e : Edge} (h : isAny e = true) : gcEdge e = false := by
  unfold isAny at h
  unfold gcEdge
  cases hg : e.ground <;> simp_all
theorem agree_reads2 {ops : List Oper} {cs : List Nat} {F : List AV} {listed : Array Bool} {fr : List AV} {G : Nat → Option (List AV)} (hok : okD cs ops = true) (ha : Agree2 ops cs F listed fr) {i : Nat} {o : Oper} {m : Region.Mode} (hi : ops[i]? = some o)
    (hr : ∀ e ∈ o.after, Region.binds m e = true → listed.getD e.on false = true) : (∀ x ∈ o.op.operands, aval G fr x = aval G F x) ∧ Region.wanted o (ayielded ops.toArray fr) = Region.wanted o (ayielded ops.toArray F) := by
  have key : ∀ k ∈ o.looksAt ops.toArray, fr[k]? = F[k]? := fun k hk => by
    refine ha.all k fun j o' hj hk' => ?_
    rcases ((okD_spec hok i o hi).2.2 j o' k hj hk').2 hk with h | ⟨e, he, h1, h2⟩
    · exact .inl h
    · exact .inr (h2 ▸ hr e he (isAny_binds h1 m))
  constructor
  · intro x hx
    cases x with
    | tmp t =>
      have := key t (List.mem_append_left _ (List.mem_filterMap.2 ⟨.tmp t, by simpa using hx, rfl⟩))
      simp only [aval, List.getD_eq_getElem?_getD, this]
    | _ => rfl
  · unfold Region.wanted
    cases hg : o.guard with
    | none => rfl
    | some jw =>
      obtain ⟨j, w⟩ := jw
      have : ayielded ops.toArray fr j = ayielded ops.toArray F j := by
        unfold ayielded
        cases ht : (ops.toArray[j]?).bind (·.dst) with
        | none => rfl
        | some t =>
          have := key t (List.mem_append_right _ (by rw [hg]; simp only []; rw [ht]; simp))
          simp only [Option.bind_some, this]
      simp only [this]
/-- An order in which nothing stands ahead of what it awaits. -/
def Ranked (m : Region.Mode) (ops : List Oper) (rank : Nat → Nat) : Prop := ∀ i o, ops[i]? = some o → ∀ e ∈ o.after, Region.binds m e = true → rank e.on < rank i
theorem ranked_id {m : Region.Mode} {cs : List Nat} {ops : List Oper} (hm : m ≠ .gc) (hok : okD cs ops = true) : Ranked m ops (fun i => i) := fun i o hi e he hb => by
  refine ((okD_spec hok i o hi).2.1 e he).1 ?_
  unfold Region.binds at hb
  unfold gcEdge
  cases hg : e.ground with
  | gcOnly r => rw [hg] at hb; simp only [beq_iff_eq] at hb; exact absurd hb hm
  | _ => rfl
theorem ranked_gc {ops : List Oper} {L : Nat} (h : okGc ops L = true) : Ranked .gc ops (lateRank L) := fun i o hi e he hb => by
  unfold okGc at h
  rw [List.all_eq_true] at h
  have h1 := h i (List.mem_range.2 (List.getElem?_eq_some_iff.1 hi).1)
  rw [hi] at h1
  simp only [List.all_eq_true, Bool.or_eq_true, decide_eq_true_eq] at h1
  rcases h1 e (by simpa using he) with h2 | h2
  · exfalso
    unfold Region.binds at hb
    unfold textEdge at h2
    cases hg : e.ground <;> rw [hg] at hb h2 <;> first | (cases h2; done) | (simp at hb; done)
  · exact h2

/-! ### the chain -/
def pureOp (T : TT) : Op → Bool
  | .move _ | .assign _ | .pick _ _ _ | .build _ _ | .load _ _ | .nilCheck _ | .binOp _ _ _ _ _ | .unOp _ _ _ | .makeFunc _ _ _ | .slice _ _ _ _ _ | .fieldAddr _ _ _ | .field _ _ _ | .indexAddr _ _ _ | .index _ _ _ | .extract _ _ | .lookup _ _ _ _ => true
  | .convert _ d _ => match (T d).d with | .slice _ => false | _ => true
  | .call { callee := .builtin .len, .. } | .call { callee := .builtin .min, .. } | .call { callee := .builtin .max, .. } => true
  | _ => false
/-- A call, or a slice that is built and never written to, may stand free. -/
def isCallOp : Op → Bool
  | .call { callee := .value _, .. } => true
  | .call { callee := .builtin .append, .. } => true
  | .buildSlice _ _ _ => true
  | _ => false
theorem pure_noCall {T : TT} {o : Op} (h : isCallOp o = true) : pureOp T o = false := by
  unfold isCallOp at h
  split at h
  · rfl
  · rfl
  · rfl
  · cases h
def maskOf (A : List Nat) (o : Oper) : Nat := o.after.toList.foldl (fun m e => if isAny e then m ||| 2 ^ e.on ||| A.getD e.on 0 else m) 0
def masksGo : List Oper → List Nat → List Nat
  | [], acc => acc
  | o :: r, acc => masksGo r (acc ++ [maskOf acc o])
def bit (A : List Nat) (i j : Nat) : Bool := (A.getD i 0).testBit j
theorem bit_maskOf {A : List Nat} {o : Oper} {j : Nat} (h : (maskOf A o).testBit j = true) : ∃ e ∈ o.after, isAny e = true ∧ (e.on = j ∨ bit A e.on j = true) := by
  unfold maskOf at h
  have key : ∀ (l : List Edge) (m : Nat), (l.foldl (fun m e => if isAny e then m ||| 2 ^ e.on ||| A.getD e.on 0 else m) m).testBit j = true → m.testBit j = true ∨ ∃ e ∈ l, isAny e = true ∧ (e.on = j ∨ bit A e.on j = true) := by
    intro l
    induction l with
    | nil => intro m h; exact .inl h
    | cons e l ih =>
      intro m h
      rw [List.foldl_cons] at h
      rcases ih _ h with h1 | ⟨e', h1, h2⟩
      · by_cases ha : isAny e = true
        · rw [if_pos ha, Nat.testBit_or, Nat.testBit_or, Nat.testBit_two_pow, Bool.or_eq_true, Bool.or_eq_true, decide_eq_true_eq] at h1
          rcases h1 with (h1 | h1) | h1
          · exact .inl h1
          · exact .inr ⟨e, by simp, ha, .inl h1⟩
          · exact .inr ⟨e, by simp, ha, .inr h1⟩
        · rw [if_neg ha] at h1
          exact .inl h1
      · exact .inr ⟨e', by simp [h1], h2⟩
  rcases key _ _ h with h1 | ⟨e, h1, h2⟩
  · simp at h1
  · exact ⟨e, by simpa using h1, h2⟩

/-- Which operations are links: by their places. -/
def linksOf (p : Nat → Oper → Bool) (ops : List Oper) : List Nat := (List.range ops.length).filter fun i => match ops[i]? with | some o => !p i o | none => false
def free (T : TT) (cp : Nat) (i : Nat) (o : Oper) : Bool := cp.testBit i && (pureOp T o.op || isCallOp o.op)
def chainOk (A : List Nat) : List Nat → Bool
  | [] => true
  | c :: r => (r.all fun c' => bit A c' c) && chainOk A r
/-- The links are a chain, and the masks are right. -/
def okChain (A : List Nat) (ops : List Oper) (cs : List Nat) : Bool :=
  okD cs ops && ((List.range ops.length).all fun i => match ops[i]? with | some o => A[i]? == some (maskOf A o) | none => false) &&
    chainOk A cs
def enabled (A : List Nat) (rem : List Nat) (i : Nat) : Bool := rem.all fun c => !bit A i c
def someOps (q : Nat → Oper → Bool) (ops : List Oper) : List Oper := (List.range ops.length).filterMap fun i => match ops[i]? with | some o => if q i o then some o else none | none => none
theorem mem_someOps {q : Nat → Oper → Bool} {ops : List Oper} {o : Oper} : o ∈ someOps q ops ↔ ∃ i, ops[i]? = some o ∧ q i o = true := by
  unfold someOps
  rw [List.mem_filterMap]
  constructor
  · rintro ⟨i, hi, h⟩
    cases ho : ops[i]? with
    | none => rw [ho] at h; cases h
    | some o' =>
      rw [ho] at h
      simp only at h
      split at h
      · rename_i hq
        cases h
        exact ⟨i, ho, hq⟩
      · cases h
  · rintro ⟨i, hi, hq⟩
    exact ⟨i, List.mem_range.2 (List.getElem?_eq_some_iff.1 hi).1, by rw [hi]; simp [hq]⟩

/-- A call that stands free: told at the heap that it meets. -/
def chkC1 (T : TT) (G : Nat → Option (List AV)) (C : ACall) (ops : List Oper) (F : List AV) (H : AH) (o : Oper) : Prop :=
  ∃ v, o.dst.bind (F[·]?) = some v ∧ ((Region.wanted o (ayielded ops.toArray F) = true ∧ ∀ k : AV → AH → Prop, k v H → evOp T G C F H o.op k) ∨ (Region.wanted o (ayielded ops.toArray F) = false ∧ v = .tup []))
def chkCs (T : TT) (G : Nat → Option (List AV)) (C : ACall) (ops : List Oper) (F : List AV) (H : AH) : List Oper → Prop
  | [] => True
  | o :: rest => chkC1 T G C ops F H o ∧ chkCs T G C ops F H rest
theorem chkCs_mem {T : TT} {G : Nat → Option (List AV)} {C : ACall} {ops : List Oper} {F : List AV} {H : AH} {o : Oper} : ∀ {l : List Oper}, chkCs T G C ops F H l → o ∈ l → chkC1 T G C ops F H o
  | [], _, h => by simp at h
  | a :: l, hc, h => by
    rcases List.mem_cons.1 h with rfl | h
    · exact hc.1
    · exact chkCs_mem hc.2 h
theorem chkC1_of {T : TT} {G : Nat → Option (List AV)} {C : ACall} {ops : List Oper} {F : List AV} {H : AH} {o : Oper} (h : chk1 T G ops F H o) : chkC1 T G C ops F H o := by
  obtain ⟨v, hv, hc⟩ := chk1_spec h
  refine ⟨v, hv, hc.imp (fun ⟨h1, h2⟩ => ⟨h1, fun k hk => ?_⟩) id⟩
  exact evOp_of h2 hk

/-- The links, one behind the other: behind each the operations that awaited it. -/
def evChain (T : TT) (G : Nat → Option (List AV)) (C : ACall) (cp : Nat) (A : List Nat) (ops : List Oper) (K : List AV → AH → Prop) : List Nat → List AV → AH → Prop
  | [], F, H => K F H
  | c :: rem, F, H => evList T G C ops.toArray (fun F1 H1 => evList T G C ops.toArray (fun F2 H2 => H2 = H1 ∧
      chks T G ops F2 H2 (someOps (fun i o => cp.testBit i && pureOp T o.op && enabled A rem i && !bit A c i) ops) ∧
      (chkCs T G C ops F2 H2 (someOps (fun i o => cp.testBit i && isCallOp o.op && enabled A rem i && !bit A c i) ops) ∧ evChain T G C cp A ops K rem F2 H2))
        (someOps (fun i o => free T cp i o && enabled A rem i && bit A i c) ops) F1 H1) (ops[c]?).toList F H

section
variable {T : TT} {G : Nat → Option (List AV)} {C : ACall} {cp : Nat} {A : List Nat} {ops : List Oper} {K : List AV → AH → Prop} {cs : List Nat}
theorem okChain_spec (h : okChain A ops cs = true) : okD cs ops = true ∧ (∀ i o, ops[i]? = some o → ∀ j, bit A i j = true → ∃ e ∈ o.after, isAny e = true ∧ (e.on = j ∨ bit A e.on j = true)) ∧
    chainOk A cs = true := by
  unfold okChain at h
  simp only [Bool.and_eq_true, List.all_eq_true, List.mem_range] at h
  obtain ⟨⟨h1, h2⟩, h3⟩ := h
  refine ⟨h1, fun i o hi j hj => ?_, h3⟩
  · have := h2 i (List.getElem?_eq_some_iff.1 hi).1
    rw [hi] at this
    simp only [beq_iff_eq] at this
    refine bit_maskOf ?_
    unfold bit at hj
    rw [List.getD_eq_getElem?_getD, this] at hj
    exact hj

/-- What is listed is closed. -/
def Down (ops : List Oper) (listed : Array Bool) : Prop := ∀ i o, ops[i]? = some o → listed.getD i false = true → ∀ e ∈ o.after, isAny e = true → listed.getD e.on false = true
theorem Down.bit (hok : okChain A ops cs = true) {listed : Array Bool} (hd : Down ops listed) : ∀ i, i < ops.length → listed.getD i false = true → ∀ j, bit A i j = true → listed.getD j false = true := by
  intro i
  induction i using Nat.strongRecOn with
  | ind i ih =>
    intro hi hl j hj
    obtain ⟨h1, h2, _⟩ := okChain_spec hok
    have ho : ops[i]? = some ops[i] := List.getElem?_eq_getElem hi
    obtain ⟨e, he, ha, hc⟩ := h2 i _ ho j hj
    have hle := hd i _ ho hl e he ha
    rcases hc with rfl | hc
    · exact hle
    · have := ((okD_spec h1 i _ ho).2.1 e he).1 (any_gc ha)
      exact ih e.on this (by omega) hle j hc

structure ChainAt (T : TT) (G : Nat → Option (List AV)) (C : ACall) (cp : Nat) (A : List Nat) (ops : List Oper) (K : List AV → AH → Prop) (cs rem : List Nat) (listed : Array Bool) (fr F : List AV) (H : AH) : Prop where
  down : Down ops listed
  rems : ∀ c ∈ rem, c ∈ cs ∧ listed.getD c false = false
  done : ∀ c ∈ cs, c ∉ rem → listed.getD c false = true
  chain : chainOk A rem = true
  chk : ∀ i o, ops[i]? = some o → free T cp i o = true → enabled A rem i = true → listed.getD i false = false → chkC1 T G C ops F H o
  goes : evChain T G C cp A ops K rem F H
  agree : Agree2 ops cs F listed fr

theorem chain_sound (m : Region.Mode) {rank : Nat → Nat} (hrank : Ranked m ops rank) (hC : Ends C) (hCm : Mono C) (hok : okChain A ops cs = true) (hcs : ∀ i o, ops[i]? = some o → (i ∈ cs ↔ free T cp i o = false)) (hlt : ∀ c ∈ cs, c < ops.length) :
    ∀ (fuel t : Nat) (listed : Array Bool) (rem : List Nat) (fr F : List AV) (H : AH), listed.size = ops.length → listed.toList.count false = fuel → ChainAt T G C cp A ops K cs rem listed fr F H →
      evOps T G C ops.toArray K (Region.linearise.go m ops.toArray fuel t listed []) fr H := by
  obtain ⟨hok1, hbit, _⟩ := okChain_spec hok
  intro fuel
  induction fuel with
  | zero =>
    intro t listed rem fr F H hs hcount hst
    have hall : ∀ i, i < ops.length → listed.getD i false = true := fun i hi => by
      have hn := List.count_eq_zero.1 hcount
      have hlt : i < listed.size := by omega
      cases hb : listed[i] with
      | true => simp [hlt, hb]
      | false => exact absurd (by rw [← hb]; simp) hn
    have hrem : rem = [] := by
      cases rem with
      | nil => rfl
      | cons c rem =>
        have := hst.rems c (by simp)
        rw [hall c (hlt c this.1)] at this
        simp at this
    subst hrem
    have hfr : fr = F := List.ext_getElem? fun k => hst.agree.all k fun j o' hj _ => .inr (hall j (List.getElem?_eq_some_iff.1 hj).1)
    have := hst.goes
    unfold evChain at this
    rw [hfr]
    simpa [Region.linearise.go, evOps] using this
  | succ fuel ih =>
    intro t listed rem fr F H hs hcount hst
    simp only [Region.linearise.go]
    change evOps T G C ops.toArray K (match (Region.ready m ops.toArray listed)[t % (Region.ready m ops.toArray listed).length]? with
      | some i => Region.linearise.go m ops.toArray fuel (t / (Region.ready m ops.toArray listed).length) (listed.setIfInBounds i true) [i]
      | none => [].reverse) fr H
    cases hi : (Region.ready m ops.toArray listed)[t % (Region.ready m ops.toArray listed).length]? with
    | none =>
      exfalso
      have hnil : Region.ready m ops.toArray listed = [] := by
        cases hr : Region.ready m ops.toArray listed with
        | nil => rfl
        | cons x xs =>
          rw [hr] at hi
          have hlt : t % (x :: xs).length < (x :: xs).length := Nat.mod_lt _ (by simp)
          simp at hi
          simp at hlt
          omega
      have hall : ∀ i, i < ops.length → listed.getD i false = true := by
        suffices hsuf : ∀ r i, rank i = r → i < ops.length → listed.getD i false = true by exact fun i => hsuf _ i rfl
        intro r
        induction r using Nat.strongRecOn with
        | ind r ihi =>
          intro i hir hil
          subst hir
          cases hb : listed.getD i false with
          | true => rfl
          | false =>
            have : i ∈ Region.ready m ops.toArray listed := by
              rw [mem_ready]
              have hlt : i < listed.size := by omega
              refine ⟨by simpa [hlt] using hb, ops[i], by simp, fun e he hbe => ?_⟩
              exact ihi _ (hrank i ops[i] (by simp) e he hbe) e.on rfl ((okD_spec hok1 i ops[i] (by simp)).2.1 e he).2
            rw [hnil] at this
            simp at this
      have : false ∈ listed.toList := List.count_pos_iff.1 (by omega)
      obtain ⟨i, hi', hb⟩ := List.getElem_of_mem this
      have hlt : i < listed.size := by simpa using hi'
      have := hall i (by omega)
      rw [Array.getElem_toList] at hb
      simp [hlt, hb] at this
    | some i =>
      simp only []
      rw [linearise_go_acc, List.reverse_singleton, List.singleton_append]
      have hr := List.mem_of_getElem? hi
      rw [mem_ready] at hr
      obtain ⟨hl, o, ho, hdeps⟩ := hr
      have ho' : ops[i]? = some o := by simpa using ho
      have hin : i < ops.length := (List.getElem?_eq_some_iff.1 ho').1
      have hil : i < listed.size := by omega
      have hlf : listed.getD i false = false := by simpa [hil] using hl
      obtain ⟨hread, hwant⟩ := agree_reads2 (G := G) hok1 hst.agree ho' hdeps
      -- what it awaits is listed
      have hbits : ∀ j, bit A i j = true → listed.getD j false = true := fun j hj => by
        obtain ⟨e, he, ha, hc⟩ := hbit i o ho' j hj
        have hle := hdeps e he (isAny_binds ha m)
        rcases hc with rfl | hc
        · exact hle
        · exact hst.down.bit hok e.on ((okD_spec hok1 i o ho').2.1 e he).2 hle j hc
      have hdown : Down ops (listed.setIfInBounds i true) := fun j oj hj hlj e he ha => by
        by_cases hij : j = i
        · subst hij
          rw [ho'] at hj
          cases hj
          have hle := hdeps e he (isAny_binds ha m)
          by_cases hie : j = e.on
          · rw [← hie]; simp [hil]
          · rw [getD_set_ne false hie]; exact hle
        · rw [getD_set_ne false (Ne.symm hij)] at hlj
          have hle := hst.down j oj hj hlj e he ha
          by_cases hie : i = e.on
          · rw [← hie]; simp [hil]
          · rw [getD_set_ne false hie]; exact hle
      have hcnt : (listed.setIfInBounds i true).toList.count false = fuel := by
        rw [Array.toList_setIfInBounds, List.count_set (by simpa using hil)]
        have : listed.toList[i]'(by simpa using hil) = false := by
          rw [Array.getElem_toList]
          simpa [hil] using hl
        rw [this, hcount]
        rfl
      show evOps T G C ops.toArray K (i :: _) fr H
      unfold evOps
      rw [ho]
      simp only [hwant]
      -- operands are as in F
      have hop : ∀ k : AV → AH → Prop, evOp T G C F H o.op k → evOp T G C fr H o.op k := fun k hk => evOp_congr hread hk
      by_cases hfree : free T cp i o = true
      · -- free
        have hen : enabled A rem i = true := by
          unfold enabled
          rw [List.all_eq_true]
          intro c hc
          cases hb : bit A i c with
          | false => rfl
          | true => have := hbits c hb; rw [(hst.rems c hc).2] at this; cases this
        have hnic : i ∉ cs := fun h => by have := (hcs i o ho').1 h; rw [hfree] at this; cases this
        obtain ⟨d, hd⟩ := (okD_spec hok1 i o ho').1.resolve_left hnic
        obtain ⟨v, hv, hcase⟩ := hst.chk i o ho' hfree hen hlf
        rw [hd, Option.bind_some] at hv
        have hnext : ChainAt T G C cp A ops K cs rem (listed.setIfInBounds i true) (fr.set d v) F H := by
          have hic : ∀ c ∈ rem, i ≠ c := fun c hc e => by
            have := (hcs i o ho').1 (e ▸ (hst.rems c hc).1)
            rw [hfree] at this; cases this
          refine ⟨hdown, fun c hc => ⟨(hst.rems c hc).1, by rw [getD_set_ne false (hic c hc)]; exact (hst.rems c hc).2⟩, fun c hc hn => ?_, hst.chain, fun j oj hj hf he hlj => ?_, hst.goes, ⟨by simp [hst.agree.len], fun k hk => ?_⟩⟩
          · by_cases h : i = c
            · subst h; simp [hil]
            · rw [getD_set_ne false h]; exact hst.done c hc hn
          · by_cases h : i = j
            · subst h; simp [hil] at hlj
            · rw [getD_set_ne false h] at hlj; exact hst.chk j oj hj hf he hlj
          · by_cases hdk : d = k
            · subst hdk
              have hdl := (List.getElem?_eq_some_iff.1 hv).1
              rw [hv, List.getElem?_set_self (by rw [hst.agree.len]; exact hdl)]
            · rw [List.getElem?_set_ne hdk]
              refine hst.agree.all k fun j oj hj hjk => (hk j oj hj hjk).imp id fun hlj => ?_
              have hij : i ≠ j := fun e => by
                subst e
                rw [ho'] at hj
                cases hj
                rw [hd] at hjk
                cases hjk
                exact hdk rfl
              rwa [getD_set_ne false hij] at hlj
        have hgo := ih (t / (Region.ready m ops.toArray listed).length) _ _ _ _ _ (by simpa using hs) hcnt hnext
        rcases hcase with ⟨hw, hop'⟩ | ⟨hw, hv'⟩
        · rw [if_pos hw]
          refine hop _ (hop' _ ?_)
          rw [hd]
          exact hgo
        · rw [if_neg (by simp [hw]), hd, ← hv']
          exact hgo
      · -- a link
        have hfree' : free T cp i o = false := by simpa using hfree
        have hic := (hcs i o ho').2 hfree'
        have hirem : i ∈ rem := Classical.byContradiction fun hn => by rw [hst.done i hic hn] at hlf; cases hlf
        obtain ⟨c, rem', rfl⟩ : ∃ c rem', rem = c :: rem' := by cases rem with | nil => simp at hirem | cons c r => exact ⟨c, r, rfl⟩
        have hchain := hst.chain
        simp only [chainOk, Bool.and_eq_true, List.all_eq_true] at hchain
        obtain rfl : i = c := by
          rcases List.mem_cons.1 hirem with h | h
          · exact h
          · have := hbits c (hchain.1 i h)
            rw [(hst.rems c (by simp)).2] at this
            cases this
        have hself : bit A i i = false := by
          cases hb : bit A i i with
          | false => rfl
          | true => have := hbits i hb; rw [hlf] at this; cases this
        have hgoes := hst.goes
        unfold evChain at hgoes
        rw [ho', Option.toList_some] at hgoes
        -- what follows a value of this link
        have next : ∀ v H1, evList T G C ops.toArray (fun F2 H2 => H2 = H1 ∧
            chks T G ops F2 H2 (someOps (fun j o => cp.testBit j && pureOp T o.op && enabled A rem' j && !bit A i j) ops) ∧
            (chkCs T G C ops F2 H2 (someOps (fun j o => cp.testBit j && isCallOp o.op && enabled A rem' j && !bit A i j) ops) ∧ evChain T G C cp A ops K rem' F2 H2))
              (someOps (fun j o => free T cp j o && enabled A rem' j && bit A j i) ops) (aput F o.dst v) H1 →
            evOps T G C ops.toArray K (Region.linearise.go m ops.toArray fuel (t / (Region.ready m ops.toArray listed).length) (listed.setIfInBounds i true) []) (aput fr o.dst v) H1 := by
          intro v H1 h1
          obtain ⟨F2, H2, ⟨rfl, hc1, hc2, hgo⟩, hlen, hkeep⟩ := evList_ends hC _ _ _ h1
          have hal : ∀ (L : List AV) (v : AV), (aput L o.dst v).length = L.length := fun L v => by cases o.dst <;> simp [aput]
          refine ih _ _ rem' _ F2 _ (by simpa using hs) hcnt ⟨hdown, fun c hc => ⟨(hst.rems c (by simp [hc])).1, ?_⟩, fun c hc hn' => ?_, hchain.2, fun j oj hj hf he hlj => ?_, hgo, ⟨by rw [hal, hlen, hal, hst.agree.len], fun k hk => ?_⟩⟩
          · have hne : i ≠ c := fun e => by
              subst e
              have := hchain.1 i hc
              rw [hself] at this
              cases this
            rw [getD_set_ne false hne]
            exact (hst.rems c (by simp [hc])).2
          · by_cases h : i = c
            · subst h; simp [hil]
            · rw [getD_set_ne false h]
              exact hst.done c hc (by simp [hn', Ne.symm h])
          · have hij : i ≠ j := fun e => by subst e; rw [ho'] at hj; cases hj; rw [hf] at hfree'; cases hfree'
            rw [getD_set_ne false hij] at hlj
            have hnb : bit A i j = false := by
              cases hb : bit A i j with
              | false => rfl
              | true => have := hbits j hb; rw [hlj] at this; cases this
            unfold free at hf
            rw [Bool.and_eq_true, Bool.or_eq_true] at hf
            rcases hf.2 with hp | hp
            · exact chkC1_of (chks_mem hc1 (mem_someOps.2 ⟨j, hj, by simp [hf.1, hp, he, hnb]⟩))
            · exact chkCs_mem hc2 (mem_someOps.2 ⟨j, hj, by simp [hf.1, hp, he, hnb]⟩)
          · -- a slot
            have hnew : ∀ o2 ∈ someOps (fun j o => free T cp j o && enabled A rem' j && bit A j i) ops, o2.dst ≠ some k := fun o2 ho2 e => by
              obtain ⟨j2, hj2, hq⟩ := mem_someOps.1 ho2
              simp only [Bool.and_eq_true] at hq
              have hne : i ≠ j2 := fun e => by subst e; rw [hself] at hq; cases hq.2
              rcases hk j2 o2 hj2 e with h | h
              · have := (hcs j2 o2 hj2).1 h
                rw [hq.1.1] at this
                cases this
              · rw [getD_set_ne false hne] at h
                have := hst.down.bit hok j2 (List.getElem?_eq_some_iff.1 hj2).1 h i hq.2
                rw [hlf] at this
                cases this
            rw [hkeep k hnew]
            cases hd : o.dst with
            | none =>
              refine hst.agree.all k fun j oj hj hjk => (hk j oj hj hjk).elim .inl fun hlj => ?_
              by_cases hij : i = j
              · exact .inl (hij ▸ hic)
              · rw [getD_set_ne false hij] at hlj; exact .inr hlj
            | some d =>
              simp only [aput_some]
              by_cases hdk : d = k
              · rw [List.getElem?_set, List.getElem?_set, hst.agree.len, if_pos hdk, if_pos hdk]
              · rw [List.getElem?_set_ne hdk, List.getElem?_set_ne hdk]
                refine hst.agree.all k fun j oj hj hjk => (hk j oj hj hjk).elim .inl fun hlj => ?_
                by_cases hij : i = j
                · exact .inl (hij ▸ hic)
                · rw [getD_set_ne false hij] at hlj; exact .inr hlj
        unfold evList at hgoes
        by_cases hw : Region.wanted o (ayielded ops.toArray F) = true
        · rw [if_pos hw] at hgoes ⊢
          exact hop _ (evOp_mono (fun _ _ _ _ _ h hc => hCm _ _ _ _ _ h hc) (fun v H1 h1 => next v H1 h1) hgoes)
        · rw [if_neg hw] at hgoes ⊢
          exact next _ H hgoes

theorem go_chain {mx : Bool} {n : Nat} {fr : List AV} {H : AH} {Q : APost} {id gr : Nat} (hC : Ends C) (hCm : Mono C) (hok : (okChain (masksGo ops []) ops (linksOf (free T cp) ops) && okGc ops gr) = true)
    (h : evList T G C ops.toArray (fun F H' => H' = H ∧ chks T G ops F H' (someOps (fun i o => cp.testBit i && pureOp T o.op && enabled (masksGo ops []) (linksOf (free T cp) ops) i) ops) ∧
      (chkCs T G C ops F H' (someOps (fun i o => cp.testBit i && isCallOp o.op && enabled (masksGo ops []) (linksOf (free T cp) ops) i) ops) ∧ evChain T G C cp (masksGo ops []) ops (fun fr H => ∃ fr' H', VS n fr H fr' H' ∧ Q .normal fr' H') (linksOf (free T cp) ops) F H'))
        (someOps (fun i o => free T cp i o && enabled (masksGo ops []) (linksOf (free T cp) ops) i) ops) fr H) : ev T G mx C n (.region id ops.toArray true) fr H Q := by
  rw [Bool.and_eq_true] at hok
  obtain ⟨hok, hgc⟩ := hok
  obtain ⟨hok1, _, hch⟩ := okChain_spec hok
  have hmem : ∀ i o, ops[i]? = some o → (i ∈ linksOf (free T cp) ops ↔ free T cp i o = false) := fun i o hi => by
    unfold linksOf
    rw [List.mem_filter, List.mem_range, hi]
    have := (List.getElem?_eq_some_iff.1 hi).1
    simp [this]
  obtain ⟨F, H', ⟨rfl, hc1, hc2, hgoes⟩, hlen, hkeep⟩ := evList_ends hC _ _ _ h
  have hgo : ∀ (m : Region.Mode) (rank : Nat → Nat), Ranked m ops rank → ∀ t, evOps T G C ops.toArray (fun fr H => ∃ fr' H', VS n fr H fr' H' ∧ Q .normal fr' H') (Region.linearise m ops.toArray t) fr H' := fun m rank hr t => ?_
  · unfold ev
    simp only [if_true]
    intro t
    unfold Region.schedule
    split
    · exact hgo .any (fun i => i) (ranked_id (by decide) hok1) t
    · split
      · exact hgo .text (fun i => i) (ranked_id (by decide) hok1) _
      · exact hgo .gc _ (ranked_gc hgc) _
  unfold Region.linearise
  have hno : ∀ i, (Array.replicate ops.toArray.size false).getD i false = false := fun i => by by_cases hi : i < ops.length <;> simp [hi]
  refine chain_sound m hr hC hCm hok hmem (fun c hc => ?_) _ _ _ _ _ F _ (by simp) (by simp) ⟨fun i o _ hl => ?_, fun c hc => ⟨hc, hno c⟩, fun c hc hn' => absurd hc hn', hch, fun i o hi hf he _ => ?_, hgoes, ⟨hlen.symm, fun k hk => (hkeep k (fun o ho e => ?_)).symm⟩⟩
  · unfold linksOf at hc
    exact List.mem_range.1 (List.mem_filter.1 hc).1
  · rw [hno] at hl; cases hl
  · unfold free at hf
    rw [Bool.and_eq_true, Bool.or_eq_true] at hf
    rcases hf.2 with hp | hp
    · exact chkC1_of (chks_mem hc1 (mem_someOps.2 ⟨i, hi, by simp [hf.1, hp, he]⟩))
    · exact chkCs_mem hc2 (mem_someOps.2 ⟨i, hi, by simp [hf.1, hp, he]⟩)
  · obtain ⟨i, hi, hq⟩ := mem_someOps.1 ho
    simp only [Bool.and_eq_true] at hq
    rcases hk i o hi e with h | h
    · have := (hmem i o hi).1 h
      rw [hq.1] at this
      cases this
    · rw [hno] at h; cases h
end
theorem evList_mono2 {T : TT} {G : Nat → Option (List AV)} {C : ACall} {K K' : List AV → AH → Prop} {ops : Array Oper} (hCm : Mono C) (hk : ∀ F H, K F H → K' F H) : ∀ (l : List Oper) (fr : List AV) (H : AH), evList T G C ops K l fr H → evList T G C ops K' l fr H
  | [], fr, H, h => hk _ _ h
  | o :: l, fr, H, h => by
    unfold evList at h ⊢
    split at h
    · rename_i hw
      rw [if_pos hw]
      exact evOp_mono (fun _ _ _ _ _ h hc => hCm _ _ _ _ _ h hc) (fun v H' h' => evList_mono2 hCm hk l _ _ h') h
    · rename_i hw
      rw [if_neg hw]
      exact evList_mono2 hCm hk l _ _ h
/-! ### the plan, told -/
def pickOps (ops : List Oper) : List Nat → List Oper
  | [] => []
  | i :: is => match ops[i]? with
    | some o => o :: pickOps ops is
    | none => pickOps ops is
def idxs (q : Nat → Oper → Bool) (ops : List Oper) : List Nat := (List.range ops.length).filter fun i => match ops[i]? with | some o => q i o | none => false
theorem someOps_idx {q : Nat → Oper → Bool} {ops : List Oper} : someOps q ops = pickOps ops (idxs q ops) := by
  unfold someOps idxs
  generalize List.range ops.length = l
  induction l with
  | nil => rfl
  | cons i l ih =>
    rw [List.filterMap_cons, List.filter_cons]
    cases ho : ops[i]? with
    | none => simpa using ih
    | some o =>
      simp only []
      by_cases hq : q i o = true
      · simp only [hq, if_true, pickOps, ho]
        rw [ih]
      · simp only [hq]
        simpa using ih
abbrev PlanRow := Nat × List Nat × List Nat × List Nat
def planOf (T : TT) (cp : Nat) (A : List Nat) (ops : List Oper) : List Nat → List PlanRow
  | [] => []
  | c :: rem => (c, idxs (fun i o => free T cp i o && enabled A rem i && bit A i c) ops, idxs (fun i o => cp.testBit i && pureOp T o.op && enabled A rem i && !bit A c i) ops, idxs (fun i o => cp.testBit i && isCallOp o.op && enabled A rem i && !bit A c i) ops) :: planOf T cp A ops rem
def evPlan (T : TT) (G : Nat → Option (List AV)) (C : ACall) (ops : List Oper) (K : List AV → AH → Prop) : List PlanRow → List AV → AH → Prop
  | [], F, H => K F H
  | (c, p, f1, f2) :: rem, F, H => evList T G C ops.toArray (fun F1 H1 => evList T G C ops.toArray (fun F2 H2 => H2 = H1 ∧ chks T G ops F2 H2 (pickOps ops f1) ∧ (chkCs T G C ops F2 H2 (pickOps ops f2) ∧ evPlan T G C ops K rem F2 H2)) (pickOps ops p) F1 H1) (ops[c]?).toList F H
theorem evPlan_mono {T : TT} {G : Nat → Option (List AV)} {C : ACall} {K K' : List AV → AH → Prop} {ops : List Oper} (hCm : Mono C) (hk : ∀ F H, K F H → K' F H) : ∀ (l : List PlanRow) (F : List AV) (H : AH), evPlan T G C ops K l F H → evPlan T G C ops K' l F H
  | [], F, H, h => hk _ _ h
  | (c, p, f1, f2) :: rem, F, H, h => by
    unfold evPlan at h ⊢
    refine evList_mono2 hCm (fun F1 H1 h1 => evList_mono2 hCm (fun F2 H2 h2 => ?_) _ _ _ h1) _ _ _ h
    obtain ⟨e, h3, h4, h5⟩ := h2
    exact ⟨e, h3, h4, evPlan_mono hCm hk rem _ _ h5⟩
theorem evChain_plan {T : TT} {G : Nat → Option (List AV)} {C : ACall} {cp : Nat} {A : List Nat} {ops : List Oper} {K : List AV → AH → Prop} (hCm : Mono C) : ∀ (cs : List Nat) (F : List AV) (H : AH), evPlan T G C ops K (planOf T cp A ops cs) F H → evChain T G C cp A ops K cs F H
  | [], F, H, h => h
  | c :: rem, F, H, h => by
    unfold planOf evPlan at h
    unfold evChain
    simp only [someOps_idx]
    have : ∀ F2 H2, evPlan T G C ops K (planOf T cp A ops rem) F2 H2 → evChain T G C cp A ops K rem F2 H2 := fun F2 H2 => evChain_plan hCm rem F2 H2
    refine evList_mono2 hCm (fun F1 H1 h1 => evList_mono2 hCm (fun F2 H2 h2 => ?_) _ _ _ h1) _ _ _ h
    obtain ⟨e, h3, h4, h5⟩ := h2
    exact ⟨e, h3, h4, this _ _ h5⟩
def planOk (T : TT) (cp gr : Nat) (ops : List Oper) (p0 f1 f2 : List Nat) (pl : List PlanRow) : Bool :=
  let A := masksGo ops []
  let cs := linksOf (free T cp) ops
  okChain A ops cs && okGc ops gr && decide (p0 = idxs (fun i o => free T cp i o && enabled A cs i) ops) && decide (f1 = idxs (fun i o => cp.testBit i && pureOp T o.op && enabled A cs i) ops) &&
    decide (f2 = idxs (fun i o => cp.testBit i && isCallOp o.op && enabled A cs i) ops) && decide (pl = planOf T cp A ops cs)
theorem go_plan {T : TT} {G : Nat → Option (List AV)} {C : ACall} {mx : Bool} {n : Nat} {fr : List AV} {H : AH} {Q : APost} {ops : List Oper} (id : Nat) (cp gr : Nat) (p0 f1 f2 : List Nat) (pl : List PlanRow) (hC : Ends C) (hCm : Mono C) (hok : planOk T cp gr ops p0 f1 f2 pl = true)
    (h : evList T G C ops.toArray (fun F H' => H' = H ∧ chks T G ops F H' (pickOps ops f1) ∧ (chkCs T G C ops F H' (pickOps ops f2) ∧ evPlan T G C ops (Q .normal) pl F H')) (pickOps ops p0) fr H) : ev T G mx C n (.region id ops.toArray true) fr H Q := by
  unfold planOk at hok
  simp only [Bool.and_eq_true, decide_eq_true_eq] at hok
  obtain ⟨⟨⟨⟨⟨h1, h2⟩, rfl⟩, rfl⟩, rfl⟩, rfl⟩ := hok
  refine go_chain (cp := cp) hC hCm (by rw [h1, h2]; rfl) ?_
  simp only [someOps_idx]
  refine evList_mono2 hCm (fun F H' h' => ?_) _ _ _ h
  obtain ⟨e, h3, h4, h5⟩ := h'
  exact ⟨e, h3, h4, evChain_plan hCm _ _ _ (evPlan_mono hCm (fun F H hq => ⟨F, H, VS.refl _ _ _, hq⟩) _ _ _ h5)⟩
theorem pick_head {T : TT} {G : Nat → Option (List AV)} {C : ACall} {K : List AV → AH → Prop} {A : Array Oper} {ops : List Oper} {fr : List AV} {H : AH} {i : Nat} {is : List Nat} {o : Oper} (h : ops[i]? = some o) (hh : evList T G C A K (o :: pickOps ops is) fr H) : evList T G C A K (pickOps ops (i :: is)) fr H := by
  rw [pickOps, h]
  exact hh
theorem pick_one {T : TT} {G : Nat → Option (List AV)} {C : ACall} {K : List AV → AH → Prop} {A : Array Oper} {ops : List Oper} {fr : List AV} {H : AH} {i : Nat} {o : Oper} (h : ops[i]? = some o) (hh : evList T G C A K [o] fr H) : evList T G C A K (ops[i]?).toList fr H := by
  rw [h]
  exact hh
theorem pick_end {T : TT} {G : Nat → Option (List AV)} {C : ACall} {K : List AV → AH → Prop} {A : Array Oper} {ops : List Oper} {fr : List AV} {H : AH} (h : K fr H) : evList T G C A K (pickOps ops []) fr H := h
theorem chk_head {T : TT} {G : Nat → Option (List AV)} {A ops : List Oper} {F : List AV} {H : AH} {i : Nat} {is : List Nat} {o : Oper} (h : ops[i]? = some o) (h1 : chk1 T G A F H o) (h2 : chks T G A F H (pickOps ops is)) : chks T G A F H (pickOps ops (i :: is)) := by
  rw [pickOps, h]
  exact ⟨h1, h2⟩
theorem chk_end {T : TT} {G : Nat → Option (List AV)} {A ops : List Oper} {F : List AV} {H : AH} : chks T G A F H (pickOps ops []) := trivial
theorem chkC_head {T : TT} {G : Nat → Option (List AV)} {C : ACall} {A ops : List Oper} {F : List AV} {H : AH} {i : Nat} {is : List Nat} {o : Oper} (h : ops[i]? = some o) (h1 : chkC1 T G C A F H o) (h2 : chkCs T G C A F H (pickOps ops is)) : chkCs T G C A F H (pickOps ops (i :: is)) := by
  rw [pickOps, h]
  exact ⟨h1, h2⟩
theorem chkC_end {T : TT} {G : Nat → Option (List AV)} {C : ACall} {A ops : List Oper} {F : List AV} {H : AH} : chkCs T G C A F H (pickOps ops []) := trivial
theorem plan_nil {T : TT} {G : Nat → Option (List AV)} {C : ACall} {ops : List Oper} {K : List AV → AH → Prop} {F : List AV} {H : AH} (h : K F H) : evPlan T G C ops K [] F H := h
theorem plan_cons {T : TT} {G : Nat → Option (List AV)} {C : ACall} {ops : List Oper} {K : List AV → AH → Prop} {F : List AV} {H : AH} {c : Nat} {p f1 f2 : List Nat} {rem : List PlanRow}
    (h : evList T G C ops.toArray (fun F1 H1 => evList T G C ops.toArray (fun F2 H2 => H2 = H1 ∧ chks T G ops F2 H2 (pickOps ops f1) ∧ (chkCs T G C ops F2 H2 (pickOps ops f2) ∧ evPlan T G C ops K rem F2 H2)) (pickOps ops p) F1 H1) (ops[c]?).toList F H) : evPlan T G C ops K ((c, p, f1, f2) :: rem) F H := h
section
variable {T : TT} {G : Nat → Option (List AV)} {C : ACall} {cp : Nat} {A : List Nat} {fr F : List AV} {H : AH} {ops l rest : List Oper} {K : List AV → AH → Prop} {d : Tmp} {op : Op} {t : TypeId} {p : String} {es : Array Edge} {v : AV}
theorem do_drawn2 {P Q : Prop} (h1 : chks T G ops F H l) (h2 : P) (h3 : Q) : H = H ∧ chks T G ops F H l ∧ (P ∧ Q) := ⟨rfl, h1, h2, h3⟩
theorem chk_nil : chks T G ops F H [] := trivial
theorem chk_cons {o : Oper} (h1 : chk1 T G ops F H o) (h2 : chks T G ops F H rest) : chks T G ops F H (o :: rest) := ⟨h1, h2⟩
theorem chkC_nil : chkCs T G C ops F H [] := trivial
theorem chkC_cons {o : Oper} (h1 : chkC1 T G C ops F H o) (h2 : chkCs T G C ops F H rest) : chkCs T G C ops F H (o :: rest) := ⟨h1, h2⟩
theorem chain_nil (h : K F H) : evChain T G C cp A ops K [] F H := h
theorem chain_cons {c : Nat} {rem : List Nat} (h : evList T G C ops.toArray (fun F1 H1 => evList T G C ops.toArray (fun F2 H2 => H2 = H1 ∧
      chks T G ops F2 H2 (someOps (fun i o => cp.testBit i && pureOp T o.op && enabled A rem i && !bit A c i) ops) ∧
      (chkCs T G C ops F2 H2 (someOps (fun i o => cp.testBit i && isCallOp o.op && enabled A rem i && !bit A c i) ops) ∧ evChain T G C cp A ops K rem F2 H2))
        (someOps (fun i o => free T cp i o && enabled A rem i && bit A i c) ops) F1 H1) (ops[c]?).toList F H) : evChain T G C cp A ops K (c :: rem) F H := h
theorem chkc_call {f : Operand} {args : Array Operand} {ts : Array TypeId} {g : FuncId} {first caps as : List AV} (hv : F[d]? = some v) (hf : aval G F f = some (.fn g first caps)) (ha : args.toList.mapM (aval G F) = some as)
    (h : ∀ k : AV → AH → Prop, k v H → C g (first ++ as ++ caps) H k) : chkC1 T G C ops F H ⟨some d, .call { callee := .value f, args := args, argTypes := ts }, t, p, es, none⟩ :=
  ⟨v, hv, .inl ⟨rfl, fun k hk => by rw [evOp_call, hf, ha]; exact h k hk⟩⟩
theorem chkc_take {f : Operand} {args : Array Operand} {ts : Array TypeId} {g : FuncId} {first caps as : List AV} {j : Nat} {w : Bool} (hy : ayielded ops.toArray F j = some w) (hv : F[d]? = some v) (hf : aval G F f = some (.fn g first caps)) (ha : args.toList.mapM (aval G F) = some as)
    (h : ∀ k : AV → AH → Prop, k v H → C g (first ++ as ++ caps) H k) : chkC1 T G C ops F H ⟨some d, .call { callee := .value f, args := args, argTypes := ts }, t, p, es, some (j, w)⟩ :=
  ⟨v, hv, .inl ⟨by unfold Region.wanted; simp [hy], fun k hk => by rw [evOp_call, hf, ha]; exact h k hk⟩⟩
theorem chkc_pass {j : Nat} {w b : Bool} (hy : ayielded ops.toArray F j = some b) (hb : b = !w) (hv : F[d]? = some (.tup [])) : chkC1 T G C ops F H ⟨some d, op, t, p, es, some (j, w)⟩ :=
  ⟨_, hv, .inr ⟨by subst hb; unfold Region.wanted; cases w <;> simp [hy], rfl⟩⟩
theorem chkc_pass0 {j : Nat} {w : Bool} (hy : ayielded ops.toArray F j = none) (hv : F[d]? = some (.tup [])) : chkC1 T G C ops F H ⟨some d, op, t, p, es, some (j, w)⟩ :=
  ⟨_, hv, .inr ⟨by unfold Region.wanted; simp [hy], rfl⟩⟩
end
end Go.Abs
