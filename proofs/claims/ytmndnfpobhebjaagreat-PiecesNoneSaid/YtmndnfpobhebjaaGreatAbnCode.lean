/- The interpreter is sound: what it says of a call, the machine's call does. -/
import Derived.Test.YtmndnfpobhebjaaGreatAbnOpSound
import Derived.Scope
namespace Go.Abs

def AX.conc : AX → Exit
  | .normal => .normal
  | .exit id => .exit id
  | .ret => .ret

/-- What a call comes to, as the abstract one says. -/
def CallSound (P : Program) (G : Nat → Option (List AV)) (f : FuncId) (args : List AV) (H : AH) (k : AV → AH → Prop) : Prop :=
  (∃ fn c, P.funcs[f]? = some fn ∧ fn.body = some c ∧ (fn.name == "runtime.NumGoroutine") = false) ∧
  ∀ (x : Cx) (vs : List Value), Rel x H → RL x args vs → GOk G x → Calls P f vs.toArray x.w (fun e w' => ∃ v r H' y, e = .returned v ∧ k r H' ∧ y.w = w' ∧ Mv x.N x H y H' ∧ Rel y H' ∧ R y r v)

theorem R.bool {x : Cx} {a : AV} {v : Value} (h : R x a v) (b : Bool) : v = .bool b ↔ a = .bool b := by
  cases a <;> simp only [R] at h
  case bool => subst h; simp
  case lit => rcases h with ⟨_, rfl, _⟩ | ⟨_, _, _, _, _, rfl, _⟩ <;> simp
  case own => rcases h with ⟨_, ⟨_, rfl, _⟩ | ⟨_, _, _, _, _, rfl, _⟩⟩ <;> simp
  case lptr => obtain ⟨_, _, _, rfl, _⟩ := h; simp
  case ref => obtain ⟨_, _, _, _, _, rfl, _⟩ := h; simp
  case fn => obtain ⟨_, _, rfl, _⟩ := h; simp
  case agg => obtain ⟨_, _, rfl, _⟩ := h; simp
  case iface => obtain ⟨_, rfl, _⟩ := h; simp
  case tup => obtain ⟨_, rfl, _⟩ := h; simp
  case ptr => obtain ⟨_, _, rfl⟩ := h; simp
  case map => obtain ⟨_, _, rfl⟩ := h; simp
  case any => exact ⟨fun e => absurd e (h b), fun e => by cases e⟩
  all_goals (subst h; simp)

theorem RL.get_none {x : Cx} {as : List AV} {vs : List Value} (h : RL x as vs) {i : Nat} (hi : as[i]? = none) : vs[i]? = none := by
  rw [List.getElem?_eq_none_iff] at hi ⊢
  rw [h.length]
  exact hi

theorem yielded_sound {x : Cx} {ops : Array Oper} {fr : List AV} {a : Act} (hl : RL x fr a.tmps.toList) : yielded ops a.tmps = ayielded ops fr := by
  funext j
  unfold yielded ayielded
  cases hd : (ops[j]?).bind (·.dst) with
  | none => rfl
  | some d =>
    simp only [Option.bind_some]
    rw [← Array.getElem?_toList]
    cases hf : fr[d]? with
    | none => rw [hl.get_none hf]
    | some v =>
      obtain ⟨u, hu, hr⟩ := hl.get hf
      rw [hu]
      cases hb : u with
      | bool b =>
        have := (hr.bool b).1 hb
        subst this
        rfl
      | _ =>
        cases v <;> first
          | rfl
          | (rename_i b; have := (hr.bool b).2 rfl; rw [hb] at this; cases this)

theorem put_sound {x : Cx} {fr : List AV} {a : Act} (hl : RL x fr a.tmps.toList) (d : Option Tmp) {v : AV} {u : Value} (hv : R x v u) : RL x (aput fr d v) (a.put d u).tmps.toList := by
  cases d with
  | none => exact hl
  | some d =>
    show RL x (fr.set d v) (a.tmps.setIfInBounds d u).toList
    rw [Array.toList_setIfInBounds]
    exact hl.set d hv
theorem put_defers (a : Act) (d : Option Tmp) (u : Value) : (a.put d u).defers = a.defers := by cases d <;> rfl

section
variable {P : Program} {T : TT} (hT : TyOk P T)
include hT

theorem evOps_sound {G : Nat → Option (List AV)} {C : ACall} (hC : ∀ f args H k, C f args H k → CallSound P G f args H k) {n : Nat} {ops : Array Oper} {K : List AV → AH → Prop} :
    ∀ (l : List Nat) (fr : List AV) (H : AH), evOps T G C ops K l fr H → ∀ (x : Cx) (a : Act), Rel x H → n ≤ x.N → RL x fr a.tmps.toList → a.defers = [] → GOk G x →
    ∀ Qc : Exit → Act → World → Prop, (∀ fr' H' y a', K fr' H' → Mv n x H y H' → Rel y H' → RL y fr' a'.tmps.toList → a'.defers = [] → GOk G y → Qc .normal a' y.w) → wpOps P ops Qc l a x.w
  | [], fr, H, h, x, a, hr, hn, hl, hd, hG, Qc, hQ => hQ fr H x a h (Mv.refl H hn) hr hl hd hG
  | i :: rest, fr, H, h, x, a, hr, hn, hl, hd, hG, Qc, hQ => by
    unfold evOps at h
    unfold wpOps
    split at h
    · rename_i ho
      simp only [ho]
      exact evOps_sound hC rest fr H h x a hr hn hl hd hG Qc hQ
    · rename_i o ho
      simp only [ho]
      rw [yielded_sound hl]
      split at h
      · rename_i hw
        rw [if_pos hw]
        refine .inl ?_
        -- one operation, then the rest
        have hnext : ∀ (v : AV) (H' : AH) (u : Value) (y : Cx), evOps T G C ops K rest (aput fr o.dst v) H' → Mv x.N x H y H' → Rel y H' → R y v u → wpOps P ops Qc rest (a.put o.dst u) y.w := by
          intro v H' u y he hm hr' hv
          have hk := hm.keeps hr
          refine evOps_sound hC rest _ _ he y _ hr' (Nat.le_trans hn hm.N) (put_sound (RL.keeps hk _ _ hl) _ hv) (by rw [put_defers]; exact hd) (hG.mv hr hm) Qc ?_
          intro fr' H'' z a' hK hm' hr'' hl' hd' hG'
          exact hQ fr' H'' z a' hK ((hm.mono hn).trans hm') hr'' hl' hd' hG'
        have hres : ∀ r : Option (AV × AH), (∀ v H', r = some (v, H') → Out x H H' v ((execOp a.eval o).run P x.w)) → evRes r (fun v H' => evOps T G C ops K rest (aput fr o.dst v) H') → Oper.wp P o a x.w (wpOps P ops Qc rest) Qc := by
          intro r hs h
          unfold evRes at h
          split at h
          · rename_i v H' 
            obtain ⟨u, y, hrun, hm, hr', hk, hv⟩ := hs v H' rfl
            unfold Oper.wp
            rcases hrun with hrun | ⟨hrun, rfl⟩
            · rw [hrun, Oper.upon_value]
              exact hnext v H' u y h hm hr' hv
            · rw [hrun, Oper.upon_skip]
              exact hnext v H' _ y h hm hr' hv
          · exact h.elim
        unfold evOp at h
        split at h
        · rename_i f args ts hop
          split at h
          · rename_i g first caps as hf has
            have hfv := aval_sound hG hl hf
            have hav := args_sound hG hl has
            simp only [R] at hfv
            obtain ⟨fs, cs, hfe, hfs, hcs⟩ := hfv
            obtain ⟨⟨fn, c, h1, h2, h3⟩, hcall⟩ := hC _ _ _ _ h
            have hrun : (execOp a.eval o).run P x.w = .ok (.enter g (fs ++ args.toList.map a.eval ++ cs).toArray) x.w := by
              unfold execOp
              rw [hop]
              have hname : ¬ (fn.name = "runtime.NumGoroutine") := by simpa using h3
              simp [resolve, hfe, Deferred.ofValue, invoke, callFunc, h1, h2, hname]
            unfold Oper.wp
            rw [hrun, Oper.upon_enter]
            refine (hcall x _ hr ((hfs.append hav).append hcs) hG).mono ?_
            rintro e w' ⟨v, r, H', y, rfl, hk, rfl, hm, hr', hv⟩
            exact hnext r H' v y hk hm hr' hv
          · exact h.elim
        · rename_i t len parts hop0
          rw [← hop0] at h
          rcases h with h | ⟨j, h⟩
          · exact hres _ (fun v H' hv => aop_sound hT hr hG hl o hv) h
          · exact hres _ (fun v H' hv => aalt_sound hT hr hG hl o hv) h
        · rename_i args ts hop0
          rw [← hop0] at h
          rcases h with h | ⟨j, h⟩
          · exact hres _ (fun v H' hv => aop_sound hT hr hG hl o hv) h
          · exact hres _ (fun v H' hv => aalt_sound hT hr hG hl o hv) h
        · rename_i s1 d1 x1 hop0
          rw [← hop0] at h
          rcases h with h | ⟨j, h⟩
          · exact hres _ (fun v H' hv => aop_sound hT hr hG hl o hv) h
          · exact hres _ (fun v H' hv => aalt_sound hT hr hG hl o hv) h
        · rename_i t1 n1 c1 hop0
          rw [← hop0] at h
          rcases h with h | ⟨j, h⟩
          · exact hres _ (fun v H' hv => aop_sound hT hr hG hl o hv) h
          · exact hres _ (fun v H' hv => aalt_sound hT hr hG hl o hv) h
        · rename_i it hop0
          unfold Oper.wp
          cases hn : (aval G fr it).bind (anext H) with
          | none => rw [hn] at h; exact h.elim
          | some r =>
            obtain ⟨L, p, info⟩ := r
            rw [hn] at h
            simp only [Option.bind_eq_some_iff] at hn
            obtain ⟨av, hav, hn⟩ := hn
            unfold anext at hn
            split at hn
            · rename_i p'
              simp only [Option.map_eq_some_iff, Prod.mk.injEq] at hn
              obtain ⟨⟨L', info'⟩, hleft, rfl, rfl, rfl⟩ := hn
              have hexec : ∀ (v : Value) (w' : World), (Instr.next (a.eval it) false o.type).run P x.w = .ok v w' → (execOp a.eval o).run P x.w = .ok (.value v) w' := fun v w' hv => by
                unfold execOp
                rw [hop0]
                simp [hv]
              rcases next_sound hr (aval_sound hG hl hav) hleft o.type with ⟨rfl, v, hrun, hv⟩ | ⟨e, l, since, seen, clock, he, rfl, u, y, hrun, hm, hr', hk, hv⟩
              · rw [hexec _ _ hrun, Oper.upon_value]
                exact hnext _ H v x h (Mv.refl H (Nat.le_refl _)) hr hv
              · rw [hexec _ _ hrun, Oper.upon_value]
                cases L' with
                | nil => simp at he
                | cons e0 L' => exact hnext _ _ u y (h e he) hm hr' hv
            · cases hn
        · exact hres _ (fun v H' hv => aop_sound hT hr hG hl o hv) h
      · rename_i hw
        rw [if_neg hw]
        refine evOps_sound hC rest _ _ h x _ hr hn (put_sound hl _ (v := .tup []) (u := undef) (by simp only [R]; exact ⟨[], rfl, rfl⟩)) (by rw [put_defers]; exact hd) hG Qc hQ

/-- What a loop comes to, from the head of a round. -/
def LoopWp (P : Program) (c : Code) (Q : Exit → Act → World → Prop) (a : Act) (w : World) : Prop :=
  ∀ (b : Frame) (k : List Item) (cs : List Frame), ∃ e a' w', Q e a' w' ∧ Arrives P (lone (b.at a (.code c :: .inLoop c :: k)) cs w) b k cs e a' w'
omit hT in
theorem LoopWp.wp {c : Code} {Q : Exit → Act → World → Prop} {a : Act} {w : World} (h : LoopWp P c Q a w) : (Code.loop c).wp P Q a w := by
  intro b k cs
  obtain ⟨e, a', w', hq, harr⟩ := h b k cs
  exact ⟨e, a', w', hq, .of_steps (.one step_loop) harr⟩
omit hT in
theorem LoopWp.round {c : Code} {Q : Exit → Act → World → Prop} {a : Act} {w : World} (h : c.wp P (Exit.then (LoopWp P c Q) Q) a w) : LoopWp P c Q a w := by
  intro b k cs
  obtain ⟨e, a₁, w₁, hq, harr⟩ := h b (.inLoop c :: k) cs
  cases e with
  | normal =>
    obtain ⟨e₂, a₂, w₂, hq₂, harr₂⟩ := hq b k cs
    exact ⟨e₂, a₂, w₂, hq₂, .of_steps (Steps.trans harr (.one step_inLoop)) harr₂⟩
  | exit id => exact ⟨_, a₁, w₁, hq, .pass (x := .inLoop c) rfl (fun _ _ => .inl (by simp)) harr⟩
  | goto l => exact ⟨_, a₁, w₁, hq, .pass (x := .inLoop c) rfl (fun _ _ => .inl (by simp)) harr⟩
  | ret => exact ⟨_, a₁, w₁, hq, .pass (x := .inLoop c) rfl (fun _ _ => .inl (by simp)) harr⟩
  | panic ch => exact ⟨_, a₁, w₁, hq, .pass (x := .inLoop c) rfl (fun _ _ => .inl (by simp)) harr⟩
  | outgrown => exact ⟨_, a₁, w₁, hq, .pass (x := .inLoop c) rfl (fun _ _ => .inl (by simp)) harr⟩

theorem ev_sound {G : Nat → Option (List AV)} {C : ACall} (hC : ∀ f args H k, C f args H k → CallSound P G f args H k) {n : Nat} :
    ∀ (c : Code) (fr : List AV) (H : AH) (Q : APost), ev T G (P.follows .mixedOrders) C n c fr H Q → ∀ (x : Cx) (a : Act), Rel x H → n ≤ x.N → RL x fr a.tmps.toList → a.defers = [] → GOk G x →
    ∀ Qc : Exit → Act → World → Prop, (∀ e fr' H' y a', Q e fr' H' → Mv n x H y H' → Rel y H' → RL y fr' a'.tmps.toList → a'.defers = [] → GOk G y → Qc e.conc a' y.w) → c.wp P Qc a x.w := by
  intro c
  induction c with
  | skip => intro fr H Q h x a hr hn hl hd hG Qc hQ; exact wp_skip (hQ .normal _ _ x a h (Mv.refl H hn) hr hl hd hG)
  | region id ops d =>
    intro fr H Q h x a hr hn hl hd hG Qc hQ
    unfold ev at h
    cases d with
    | false =>
      simp only [Bool.false_eq_true, if_false] at h
      exact wp_region (evOps_sound hT hC _ _ _ h x a hr hn hl hd hG Qc (fun fr' H' y a' hk => hQ .normal fr' H' y a' hk))
    | true =>
      simp only [if_true] at h
      refine wp_region_draw (fun t => ?_)
      show wpOps P ops Qc _ a x.w.drew
      have hr' : Rel { x with w := x.w.drew } H := hr.drawn rfl
      have hm : Mv n x H { x with w := x.w.drew } H := (Mv.drawn (x := x) (w := x.w.drew) rfl rfl rfl rfl).mono hn
      exact evOps_sound hT hC _ _ _ (h t) { x with w := x.w.drew } a hr' hn (RL.keeps (Keeps.drawn x (w := x.w.drew) rfl) _ _ hl) hd (hG.mv hr hm) Qc (fun fr' H' y a' ⟨fr2, H2, hvs, hk⟩ hm' hr'' hl'' hd'' hG'' => by
        obtain ⟨z, ez, hm3, hr3, hl3⟩ := hvs y _ hr'' hm'.N hl''
        rw [← ez]
        exact hQ .normal fr2 H2 z a' hk (hm.trans (hm'.trans hm3)) hr3 hl3 hd'' (hG''.mv hr'' hm3))
  | seq c d ihc ihd =>
    intro fr H Q h x a hr hn hl hd hG Qc hQ
    unfold ev at h
    refine wp_seq (ihc _ _ _ h x a hr hn hl hd hG _ ?_)
    intro e fr' H' y a' he hm hr' hl' hd' hG'
    cases e with
    | normal =>
      obtain ⟨fr2, H2, hvs, he⟩ := he
      obtain ⟨z, ez, hm2, hr2, hl2⟩ := hvs y _ hr' hm.N hl'
      rw [← ez]
      exact ihd _ _ _ he z a' hr2 hm2.N hl2 hd' (hG'.mv hr' hm2) Qc (fun e fr'' H'' z' a'' hq hm' => hQ e fr'' H'' z' a'' hq (hm.trans (hm2.trans hm')))
    | exit id => exact hQ _ _ _ y a' he hm hr' hl' hd' hG'
    | ret => exact hQ _ _ _ y a' he hm hr' hl' hd' hG'
  | cond o c d ihc ihd =>
    intro fr H Q h x a hr hn hl hd hG Qc hQ
    unfold ev at h
    split at h
    · rename_i ho
      have := aval_sound hG hl ho
      simp only [R] at this
      exact wp_cond_true this (ihc _ _ _ h x a hr hn hl hd hG Qc hQ)
    · rename_i ho
      have := aval_sound hG hl ho
      simp only [R] at this
      exact wp_cond_false this (ihd _ _ _ h x a hr hn hl hd hG Qc hQ)
    · exact h.elim
  | block id c ih =>
    intro fr H Q h x a hr hn hl hd hG Qc hQ
    unfold ev at h
    refine wp_block (ih _ _ _ h x a hr hn hl hd hG _ ?_)
    intro e fr' H' y a' he hm hr' hl' hd' hG'
    cases e with
    | normal => exact hQ .normal _ _ y a' he hm hr' hl' hd' hG'
    | ret => exact hQ .ret _ _ y a' he hm hr' hl' hd' hG'
    | exit i =>
      simp only at he
      show (if i = id then Qc .normal a' y.w else Qc (.exit i) a' y.w)
      split at he
      · rename_i e1
        rw [if_pos e1]
        exact hQ .normal _ _ y a' he hm hr' hl' hd' hG'
      · rename_i e1
        rw [if_neg e1]
        exact hQ (.exit i) _ _ y a' he hm hr' hl' hd' hG'
  | loop c ih =>
    intro fr H Q h x a hr hn hl hd hG Qc hQ
    unfold ev at h
    refine LoopWp.wp ?_
    refine h (fun fr H => ∀ (x : Cx) (a : Act), Rel x H → n ≤ x.N → RL x fr a.tmps.toList → a.defers = [] → GOk G x →
      ∀ Qc : Exit → Act → World → Prop, (∀ e fr' H' y a', Q e fr' H' → Mv n x H y H' → Rel y H' → RL y fr' a'.tmps.toList → a'.defers = [] → GOk G y → Qc e.conc a' y.w) → LoopWp P c Qc a x.w) ?_ ?_ x a hr hn hl hd hG Qc hQ
    · intro fr H hB x a hr hn hl hd hG Qc hQ
      refine LoopWp.round (ih _ _ _ hB x a hr hn hl hd hG _ ?_)
      intro e fr' H' y a' he hm hr' hl' hd' hG'
      cases e with
      | normal => exact he y a' hr' hm.N hl' hd' hG' Qc (fun e fr'' H'' z a'' hq hm' => hQ e fr'' H'' z a'' hq (hm.trans hm'))
      | exit id => exact hQ _ _ _ y a' he hm hr' hl' hd' hG'
      | ret => exact hQ _ _ _ y a' he hm hr' hl' hd' hG'
    · intro fr H fr' H' hvs hI x a hr hn hl hd hG Qc hQ
      obtain ⟨y, ey, hm, hr', hl'⟩ := hvs x _ hr hn hl
      have := hI y a hr' hm.N hl' hd (hG.mv hr hm) Qc (fun e fr'' H'' z a'' hq hm' => hQ e fr'' H'' z a'' hq (hm.trans hm'))
      rw [ey] at this
      exact this
  | rangeFunc f ps c d _ _ => intro fr H Q h; exact h.elim
  | exit id => intro fr H Q h x a hr hn hl hd hG Qc hQ; exact wp_exit (hQ (.exit id) _ _ x a h (Mv.refl H hn) hr hl hd hG)
  | scope c ih =>
    intro fr H Q h x a hr hn hl hd hG Qc hQ
    unfold ev at h
    refine wp_scope_straight (ih _ _ _ h x a hr hn hl hd hG _ ?_)
    intro e fr' H' y a' he hm hr' hl' hd' hG'
    have := hQ e fr' H' y a' he hm hr' hl' hd' hG'
    cases e <;> exact this
  | label l => intro fr H Q h x a hr hn hl hd hG Qc hQ; exact wp_label (hQ .normal _ _ x a h (Mv.refl H hn) hr hl hd hG)
  | goto l => intro fr H Q h; exact h.elim
  | ret => intro fr H Q h x a hr hn hl hd hG Qc hQ; exact wp_ret (hQ .ret _ _ x a h (Mv.refl H hn) hr hl hd hG)
  | refuse w => intro fr H Q h; exact h.elim

/-- What is handed back. -/
def cres (tmps : Array Value) : ResultVar → Sem Value
  | .tmp t => pure (tmps.getD t undef)
  | .cell q t => do loadVar t (← asAddr (tmps.getD q undef))
omit hT in
theorem results_eq (fn : Func) (tmps : Array Value) : results fn tmps = (fn.results.mapM (cres tmps) >>= fun vs => pure (if h : vs.size = 1 then vs[0] else .tuple vs)) := by
  rfl

theorem results_sound {x : Cx} {H : AH} {fr : List AV} {a : Act} (hr : Rel x H) (hl : RL x fr a.tmps.toList) {fn : Func} {r : AV} (h : aresults T fn fr H = some r) : ∃ v, (results fn a.tmps).run P x.w = .ok v x.w ∧ R x r v := by
  have hget : ∀ t, R x (fr.getD t (.tup [])) (a.tmps.getD t undef) := fun t => by
    have := aval_sound (G := fun _ => none) (x := x) (a := a) (fun g cs hg => by cases hg) hl (o := .tmp t) (v := fr.getD t (.tup [])) rfl
    exact this
  have key1 : ∀ c v, ares T fr H c = some v → ∃ u, (cres a.tmps c).run P x.w = .ok u x.w ∧ R x v u := by
    intro c v hv
    cases c with
    | tmp t =>
      simp only [ares, Option.some.injEq] at hv
      subst hv
      exact ⟨_, rfl, hget t⟩
    | cell q t =>
      simp only [ares] at hv
      have hg := hget q
      obtain ⟨u, hu, hru⟩ := aload_sound hT hr hg hv
      refine ⟨u, ?_, hru⟩
      generalize fr.getD q (.tup []) = p at hv hg
      unfold cres
      dsimp only
      cases p <;> simp only [aload] at hv <;> first | (cases hv; done) | skip
      · simp only [R] at hg
        rw [hg.2.2] at hu ⊢
        simpa [Instr.loadAt, Instr.sureAddr, asAddr] using hu
      · simp only [R] at hg
        obtain ⟨b, o, vs, hg, _⟩ := hg
        rw [hg] at hu ⊢
        simpa [Instr.loadAt, Instr.sureAddr, asAddr] using hu
  have key : ∀ (l : List ResultVar) (rs : List AV), l.mapM (ares T fr H) = some rs → ∃ vs, (l.mapM (cres a.tmps)).run P x.w = .ok vs x.w ∧ RL x rs vs := by
    intro l
    induction l with
    | nil => intro rs h; simp at h; subst h; exact ⟨[], by simp, by simp [RL]⟩
    | cons c l ih =>
      intro rs h
      simp only [List.mapM_cons, Option.bind_eq_bind, Option.bind_eq_some_iff, Option.pure_def, Option.some.injEq] at h
      obtain ⟨v, hv, r', hr', rfl⟩ := h
      obtain ⟨vs, h1, h2⟩ := ih _ hr'
      obtain ⟨u, h3, h4⟩ := key1 c v hv
      exact ⟨u :: vs, by simp [List.mapM_cons, h1, h3], ⟨_, _, rfl, h4, h2⟩⟩
  unfold aresults at h
  simp only [Option.map_eq_some_iff] at h
  obtain ⟨rs, hrs, rfl⟩ := h
  obtain ⟨vs, h1, h2⟩ := key _ _ hrs
  rw [results_eq]
  have h1' : (fn.results.mapM (cres a.tmps)).run P x.w = .ok vs.toArray x.w := by
    rw [Array.mapM_eq_mapM_toList]
    simp [h1]
  simp only [Sem.run_bind, h1', Result.andThen_ok, Sem.run_pure]
  refine ⟨_, rfl, ?_⟩
  have hlen := h2.length
  match rs, vs, h2, hlen with
  | [], [], _, _ => simp only [one, R]; exact ⟨[], by simp, rfl⟩
  | [r], [v], h2, _ =>
    simp only [RL] at h2
    obtain ⟨_, _, e, h3, rfl⟩ := h2
    cases e
    simpa [one] using h3
  | r :: r' :: rs, v :: v' :: vs, h2, _ =>
    simp only [one, R]
    exact ⟨v :: v' :: vs, by simp, h2⟩

/-- SOUNDNESS: whatever the interpreter says of a call, the machine's call does. -/
theorem body_sound {G : Nat → Option (List AV)} {C : ACall} (hC : ∀ f args H k, C f args H k → CallSound P G f args H k) {f : FuncId} {args : List AV} {H : AH} {k : AV → AH → Prop} (hb : body P T G C f args H k) : CallSound P G f args H k := by
  obtain ⟨fn, c, h1, h2, h3, h4⟩ := hb
  refine ⟨⟨fn, c, h1, h2, h3⟩, fun x vs hr hl hG => ?_⟩
  refine calls_of_wp h1 h2 ?_
  have hlen := hl.length
  have hl' : RL x (args ++ List.replicate (fn.ntmps - args.length) (.tup [])) (vs.toArray ++ Array.replicate (fn.ntmps - vs.toArray.size) undef).toList := by
    rw [Array.toList_append, Array.toList_replicate]
    simp only [List.size_toArray, hlen]
    exact hl.append (RL.replicate (by simp only [R]; exact ⟨[], rfl, rfl⟩) _)
  refine ev_sound hT hC c _ H _ h4 x ⟨_, []⟩ hr (by rw [hr.N]; exact Nat.le_refl _) hl' rfl hG _ ?_
  intro e fr H' y a' he hm hr' hl'' hd' hG'
  obtain ⟨hex, r, hres, r', H'', hvs, hk⟩ := he
  obtain ⟨v, hv1, hv2⟩ := results_sound hT hr' hl'' hres
  obtain ⟨z, ez, hm', hr'', hl3⟩ := hvs y [v] hr' (by rw [← hr.N] at hm ⊢; exact hm.N) ⟨v, [], rfl, hv2, rfl⟩
  have hv3 : R z r' v := by
    simp only [RL] at hl3
    obtain ⟨_, _, e, h3, rfl⟩ := hl3
    cases e
    exact h3
  have hfin : ∃ v, (results fn a'.tmps).run P y.w = .ok v y.w ∧ ∃ v' r H' z, Ending.returned v = .returned v' ∧ k r H' ∧ z.w = y.w ∧ Mv x.N x H z H' ∧ Rel z H' ∧ R z r v' :=
    ⟨v, hv1, v, r', H'', z, rfl, hk, ez, by rw [hr.N]; exact hm.trans hm', hr'', hv3⟩
  cases e with
  | normal => exact ⟨hd', hfin⟩
  | ret => exact ⟨hd', hfin⟩
  | exit id => exact hex.elim
end
theorem CallSound.mono {P : Program} {G : Nat → Option (List AV)} {f : FuncId} {args : List AV} {H : AH} {k k' : AV → AH → Prop} (hk : ∀ r H, k r H → k' r H) (h : CallSound P G f args H k) : CallSound P G f args H k' :=
  ⟨h.1, fun x vs hr hl hG => (h.2 x vs hr hl hG).mono fun e w' ⟨v, r, H', y, h1, h2, h3⟩ => ⟨v, r, H', y, h1, hk _ _ h2, h3⟩⟩
/-- What is said of a call: it comes to some end, and to no other than these. -/
def EvCall (P : Program) (T : TT) (G : Nat → Option (List AV)) : ACall := fun f args H k => (∃ v H', k v H') ∧ (TyOk P T → CallSound P G f args H k)
theorem EvCall.mono {P : Program} {T : TT} {G : Nat → Option (List AV)} {f : FuncId} {args : List AV} {H : AH} {k k' : AV → AH → Prop} (hk : ∀ r H, k r H → k' r H) (h : EvCall P T G f args H k) : EvCall P T G f args H k' :=
  ⟨h.1.elim fun v h1 => h1.elim fun H' h2 => ⟨v, H', hk _ _ h2⟩, fun hT => (h.2 hT).mono hk⟩
theorem call_ends {P : Program} {T : TT} {G : Nat → Option (List AV)} : Ends (EvCall P T G) := fun _ _ _ _ h => h.1
theorem EvCall.intro {P : Program} {T : TT} {G : Nat → Option (List AV)} {f : FuncId} {args : List AV} {H : AH} {k : AV → AH → Prop} (h : body P T G (EvCall P T G) f args H k) : EvCall P T G f args H k := by
  refine ⟨?_, fun hT => body_sound hT (fun f args H k h => h.2 hT) h⟩
  obtain ⟨fn, c, h1, h2, h3, h4⟩ := h
  obtain ⟨e, fr, H', h5⟩ := ev_ends call_ends _ _ _ _ h4
  obtain ⟨_, r, _, r', H'', _, h6⟩ := h5
  exact ⟨_, _, h6⟩
theorem call_sound {P : Program} {T : TT} (hT : TyOk P T) {G : Nat → Option (List AV)} {f : FuncId} {args : List AV} {H : AH} {k : AV → AH → Prop} (h : EvCall P T G f args H k) : CallSound P G f args H k := h.2 hT
end Go.Abs
