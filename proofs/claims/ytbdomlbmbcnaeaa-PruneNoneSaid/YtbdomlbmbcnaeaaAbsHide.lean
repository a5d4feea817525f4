/- A call that was told at the empty heap, told at any. -/
import Derived.Test.YtbdomlbmbcnaeaaAbsEval
namespace Go.Abs
mutual
theorem R.low0 {x y : Cx} (hF : ∀ k, x.F k → y.F k) (hw : y.w = x.w) : ∀ (a : AV) (v : Value), a.low 0 = true → R x a v → R y a v
  | .bool _, _, _, hr => by simpa [R] using hr
  | .int _ _, _, _, hr => by simpa [R] using hr
  | .str _, _, _, hr => by simpa [R] using hr
  | .nilptr, _, _, hr => by simpa [R] using hr
  | .ptr l off, v, h, hr => by simp [AV.low] at h
  | .lptr cs off, v, h, hr => by
    simp only [R, AV.low] at *
    obtain ⟨b, o, vs, e, hf, hl, hk, hc⟩ := hr
    exact ⟨b, o, vs, e, hF b hf, RL.low0 hF hw cs vs h hl, hk, by rw [hw]; exact hc⟩
  | .lit nl ex cs len, v, h, hr => by
    simp only [R, AV.low] at *
    rcases hr with hr | ⟨hn, b, o, cap, vs, e, h1, h2, h3, hl, hk, hf, hc⟩
    · exact .inl hr
    · exact .inr ⟨hn, b, o, cap, vs, e, h1, h2, h3, RL.low0 hF hw cs vs h hl, hk, hf.imp id (hF b), by rw [hw]; exact hc⟩
  | .ref ex l off len sz, v, h, hr => by simp [AV.low] at h
  | .fn f first caps, v, h, hr => by
    simp only [R, AV.low, Bool.and_eq_true] at *
    obtain ⟨fs, cs, e, h1, h2⟩ := hr
    exact ⟨fs, cs, e, RL.low0 hF hw _ _ h.1 h1, RL.low0 hF hw _ _ h.2 h2⟩
  | .nilfn, _, _, hr => by simpa [R] using hr
  | .map l, v, h, hr => by simp [AV.low] at h
  | .nilmap, _, _, hr => by simpa [R] using hr
  | .iface t a, v, h, hr => by
    simp only [R, AV.low] at *
    obtain ⟨u, e, hu⟩ := hr
    exact ⟨u, e, R.low0 hF hw a u h hu⟩
  | .nilif, _, _, hr => by simpa [R] using hr
  | .agg cs, v, h, hr => by
    simp only [R, AV.low] at *
    obtain ⟨hk, vs, e, hl⟩ := hr
    exact ⟨hk, vs, e, RL.low0 hF hw cs vs h hl⟩
  | .tup cs, v, h, hr => by
    simp only [R, AV.low] at *
    obtain ⟨vs, e, hl⟩ := hr
    exact ⟨vs, e, RL.low0 hF hw cs vs h hl⟩
theorem RL.low0 {x y : Cx} (hF : ∀ k, x.F k → y.F k) (hw : y.w = x.w) : ∀ (as : List AV) (vs : List Value), lows 0 as = true → RL x as vs → RL y as vs
  | [], _, _, hr => by simpa [RL] using hr
  | a :: as, vs, h, hr => by
    simp only [RL, lows, Bool.and_eq_true] at *
    obtain ⟨v, r, e, h1, h2⟩ := hr
    exact ⟨v, r, e, R.low0 hF hw a v h.1 h1, RL.low0 hF hw as r h.2 h2⟩
end

/-- What was there is hidden from a call that names none of it. -/
theorem EvCall.hide {P : Program} {T : TT} {G : Nat → Option (List AV)} {f : FuncId} {args : List AV} {k0 : AV → AH → Prop} (ha : lows 0 args = true) (h : EvCall P T G f args [] k0) (hr0 : ∀ r H', k0 r H' → r.low 0 = true) (H : AH) {k : AV → AH → Prop} (hk : ∀ r H', k0 r H' → k r H) : EvCall P T G f args H k := by
  refine ⟨h.1.elim fun v h1 => h1.elim fun H' h2 => ⟨v, H, hk _ _ h2⟩, fun hT => ?_⟩
  obtain ⟨h1, h2⟩ := h.2 hT
  refine ⟨h1, fun x vs hr hl hG => ?_⟩
  have hx0 : Rel { x with N := 0 } [] := ⟨rfl, fun l b hb => by simp at hb, fun l m ⟨b, hb, _⟩ => by simp at hb, fun l ⟨b, hb, _⟩ => by simp at hb, hr.Flt⟩
  refine (h2 { x with N := 0 } vs hx0 (RL.cut args vs ha hl) hG).mono ?_
  rintro e w' ⟨v, r, H', y, rfl, hk0, rfl, hm, hr', hv⟩
  have hno : ∀ b, ¬ Own { x with N := 0 } [] b := fun b ⟨l, ⟨c, hc, _⟩, _⟩ => by simp at hc
  have hold : ∀ b, b < x.w.heap.size → y.w.heap[b]? = x.w.heap[b]? := fun b hb => hm.frame b hb (hno b)
  let z : Cx := { at_ := x.at_, F := y.F, N := x.N, w := y.w }
  have hkeep : Keeps x z := ⟨fun _ _ => rfl, Nat.le_refl _, fun b hb => hm.F b hb, fun b hb => hold b (hr.Flt b hb), hm.sz⟩
  have hown : ∀ b, Own z H b → Own x H b := fun b ⟨l, h1, h2⟩ => ⟨l, h1, h2⟩
  have hnewF : ∀ b, y.F b → x.F b ∨ x.w.heap.size ≤ b := fun b hb => (hm.newF b hb).elim .inl fun h => h.elim (fun ho => absurd ho (hno b)) .inr
  refine ⟨v, r, H, z, rfl, hk r H' hk0, rfl, ?_, ?_, ?_⟩
  · exact ⟨fun _ _ => rfl, Nat.le_refl _, Nat.le_refl _, fun b hb => hm.F b hb, hm.sz, hm.size, hm.os, hm.tape, hm.output, fun b hb _ => hold b hb, fun b hb => .inl (hown b hb), fun b hb => (hnewF b hb).imp id .inr⟩
  · refine ⟨hr.N, fun l b hb => ?_, fun l m h1 h2 he => hr.inj l m h1 h2 he, fun l hl hf => ?_, hr'.Flt⟩
    · cases b with
      | dead => trivial
      | cells cs => exact HoldsB.keeps hkeep (hold _ (Own.lt hr ⟨l, ⟨_, hb, rfl⟩, rfl⟩)) (hr.block l _ hb)
      | map es => exact HoldsB.keeps hkeep (hold _ (Own.lt hr ⟨l, ⟨_, hb, rfl⟩, rfl⟩)) (hr.block l _ hb)
    · rcases hnewF _ hf with h | h
      · exact hr.notF l hl h
      · have hlt : (x.at_ l).1 < x.w.heap.size := Own.lt hr ⟨l, hl, rfl⟩
        exact absurd h (Nat.not_le.2 hlt)
  · exact R.low0 (x := y) (y := z) (fun _ h => h) rfl r v (hr0 r H' hk0) hv
/-- A closed run that answers yes. -/
def answers (r : Option (AV × AH)) (b : Bool) : Bool := match r with
  | some (.bool c, _) => c == b
  | _ => false
theorem run_answers {P : Program} {T : TT} {G : Nat → Option (List AV)} {C : RCall} (hC : Says P T G C) {f : FuncId} {args : List AV} {H : AH} {b : Bool} (h : answers (C f args H) b = true) : EvCall P T G f args H (fun r _ => r = .bool b) := by
  unfold answers at h
  split at h
  · rename_i c H' hc
    simp only [beq_iff_eq] at h
    subst h
    exact hC _ _ _ _ _ hc _ rfl
  · cases h
def bodyOk (T : TT) (tbl : Nat → Option Plan) (fn : Func) : Bool := match fn.body with
  | some c => codeOk T tbl c
  | none => true
def AreFuncs (P : Program) : List (Nat × Func × (Nat → Option Plan)) → Prop
  | [] => True
  | p :: r => P.funcs[p.1]? = some p.2.1 ∧ AreFuncs P r
theorem tabOk_of {P : Program} {T : TT} {l : List (Nat × Func × (Nat → Option Plan))} (h1 : AreFuncs P l) (h2 : (l.all fun p => !(p.2.1.name == "runtime.NumGoroutine") && bodyOk T p.2.2 p.2.1) = true) :
    TabOk P T (fun f => (l.find? fun p => p.1 == f).map (·.2)) := by
  intro f fn tbl h
  simp only [Option.map_eq_some_iff] at h
  obtain ⟨p, hp, e⟩ := h
  have hm := List.mem_of_find?_eq_some hp
  have hf := List.find?_some hp
  simp only [beq_iff_eq] at hf
  obtain ⟨n, fn', tbl'⟩ := p
  simp only [Prod.mk.injEq] at e hf
  obtain ⟨rfl, rfl⟩ := e
  subst hf
  have h3 := List.all_eq_true.1 h2 _ hm
  simp only [Bool.and_eq_true, Bool.not_eq_true'] at h3
  refine ⟨?_, h3.1, fun c hc => ?_⟩
  · clear h2 hp h3
    induction l with
    | nil => simp at hm
    | cons q l ih =>
      rcases List.mem_cons.1 hm with e | hm'
      · have := h1.1
        rw [← e] at this
        exact this
      · exact ih h1.2 hm'
  · have := h3.2
    unfold bodyOk at this
    rw [hc] at this
    exact this
theorem says_none {P : Program} {T : TT} {G : Nat → Option (List AV)} : Says P T G (fun _ _ _ => none) := fun _ _ _ _ _ h => by cases h
end Go.Abs
