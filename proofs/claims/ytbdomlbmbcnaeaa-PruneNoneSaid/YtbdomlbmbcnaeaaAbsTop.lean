/- A table of types out of a list; the first state of a run; what a call that was given no block leaves. -/
import Derived.Test.YtbdomlbmbcnaeaaAbsCode
namespace Go.Abs

theorem tyOk_of_list {P : Program} {T : TT} {l : List (Nat × AT)} {z : AT} (hz : z.d = .other) (hT : T = fun t => ((l.find? fun p => p.1 == t).map (·.2)).getD z) (h : ∀ p ∈ l, TyInfo P p.1 p.2)
    (hs : (l.all fun p => p.2.d.subs.all fun e => (T e).d.known) = true) : TyOk P T := by
  have key : ∀ t, (T t).d.known = true → ∃ p ∈ l, p.1 = t ∧ T t = p.2 := by
    intro t ht
    rw [hT] at ht ⊢
    simp only at ht ⊢
    cases hf : l.find? fun p => p.1 == t with
    | none => rw [hf] at ht; simp only [Option.map_none, Option.getD_none, hz] at ht; cases ht
    | some p =>
      have h1 := List.find?_some hf
      exact ⟨p, List.mem_of_find?_eq_some hf, by simpa using h1, by simp⟩
  refine ⟨fun t ht => ?_, fun t ht e he => ?_⟩
  · obtain ⟨p, hp, rfl, e⟩ := key t ht
    rw [e]
    exact h p hp
  · obtain ⟨p, hp, rfl, e2⟩ := key t ht
    rw [e2] at he
    rw [List.all_eq_true] at hs
    have := hs p hp
    rw [List.all_eq_true] at this
    exact this e he

/-- The state in which a law is called: nothing is owned, all that is there is frozen. -/
def Cx.start (w : World) : Cx := { at_ := fun _ => (0, 0), F := fun k => k < w.heap.size, N := 0, w := w }
theorem Rel.start (w : World) : Rel (Cx.start w) [] :=
  ⟨rfl, fun l b h => by simp at h, fun l m ⟨b, hb, _⟩ => by simp at hb, fun l ⟨b, hb, _⟩ => by simp at hb, fun k h => h⟩

/-- A law's call: what was there is as it was. -/
theorem law_calls {P : Program} {T : TT} (hT : TyOk P T) {G : Nat → Option (List AV)} {f : FuncId} {args : List AV} {b : Bool} (h : EvCall P T G f args [] (fun r _ => r = .bool b)) {w : World} {vs : List Value} (hl : RL (Cx.start w) args vs) (hG : GOk G (Cx.start w)) :
    Calls P f vs.toArray w (fun e w' => e = .returned (.bool b) ∧ RowKit.Below w.heap.size w w') := by
  refine ((call_sound hT h).2 (Cx.start w) vs (Rel.start w) hl hG).mono ?_
  rintro e w' ⟨v, r, H', y, rfl, rfl, rfl, hm, hr, hv⟩
  simp only [R] at hv
  refine ⟨by rw [hv], hm.os, hm.tape, hm.output, hm.size, fun k hk => hm.frame k hk ?_⟩
  rintro ⟨l, ⟨b, hb, _⟩, _⟩
  simp at hb

/-! ### view shifts -/
mutual
/-- All places that a value names lie below n. -/
def AV.low (n : Nat) : AV → Bool
  | .ptr l _ | .ref _ l _ _ _ | .map l => decide (l < n)
  | .lptr cs _ | .lit _ _ cs _ | .agg cs | .tup cs => lows n cs
  | .fn _ first caps => lows n first && lows n caps
  | .iface _ v => v.low n
  | _ => true
def lows (n : Nat) : List AV → Bool
  | [] => true
  | a :: as => a.low n && lows n as
end
/-- All places that a block names lie below n. -/
def AB.low (n : Nat) : AB → Bool
  | .cells cs => lows n cs
  | .map es => lows n (es.map (·.1)) && lows n (es.map (·.2))
  | .dead => true
/-- The heap names no place beyond itself. -/
def WF (H : AH) : Prop := ∀ b ∈ H, b.low H.length = true

mutual
theorem R.cut {x : Cx} {n : Nat} : ∀ (a : AV) (v : Value), a.low n = true → R x a v → R { x with N := n } a v
  | .bool _, _, _, hr => by simpa [R] using hr
  | .int _ _, _, _, hr => by simpa [R] using hr
  | .str _, _, _, hr => by simpa [R] using hr
  | .nilptr, _, _, hr => by simpa [R] using hr
  | .ptr l off, v, h, hr => by
    simp only [R, AV.low, decide_eq_true_eq] at *
    exact ⟨h, hr.2⟩
  | .lptr cs off, v, h, hr => by
    simp only [R, AV.low] at *
    obtain ⟨b, o, vs, e, hf, hl, hk, hc⟩ := hr
    exact ⟨b, o, vs, e, hf, RL.cut cs vs h hl, hk, hc⟩
  | .lit nl ex cs len, v, h, hr => by
    simp only [R, AV.low] at *
    rcases hr with hr | ⟨hn, b, o, cap, vs, e, h1, h2, h3, hl, hk, hf, hc⟩
    · exact .inl hr
    · exact .inr ⟨hn, b, o, cap, vs, e, h1, h2, h3, RL.cut cs vs h hl, hk, hf, hc⟩
  | .ref ex l off len sz, v, h, hr => by
    simp only [R, AV.low, decide_eq_true_eq] at *
    exact ⟨h, hr.2⟩
  | .fn f first caps, v, h, hr => by
    simp only [R, AV.low, Bool.and_eq_true] at *
    obtain ⟨fs, cs, e, h1, h2⟩ := hr
    exact ⟨fs, cs, e, RL.cut _ _ h.1 h1, RL.cut _ _ h.2 h2⟩
  | .nilfn, _, _, hr => by simpa [R] using hr
  | .map l, v, h, hr => by
    simp only [R, AV.low, decide_eq_true_eq] at *
    exact ⟨h, hr.2⟩
  | .nilmap, _, _, hr => by simpa [R] using hr
  | .iface t a, v, h, hr => by
    simp only [R, AV.low] at *
    obtain ⟨u, e, hu⟩ := hr
    exact ⟨u, e, R.cut a u h hu⟩
  | .nilif, _, _, hr => by simpa [R] using hr
  | .agg cs, v, h, hr => by
    simp only [R, AV.low] at *
    obtain ⟨hk, vs, e, hl⟩ := hr
    exact ⟨hk, vs, e, RL.cut cs vs h hl⟩
  | .tup cs, v, h, hr => by
    simp only [R, AV.low] at *
    obtain ⟨vs, e, hl⟩ := hr
    exact ⟨vs, e, RL.cut cs vs h hl⟩
theorem RL.cut {x : Cx} {n : Nat} : ∀ (as : List AV) (vs : List Value), lows n as = true → RL x as vs → RL { x with N := n } as vs
  | [], _, _, hr => by simpa [RL] using hr
  | a :: as, vs, h, hr => by
    simp only [RL, lows, Bool.and_eq_true] at *
    obtain ⟨v, r, e, h1, h2⟩ := hr
    exact ⟨v, r, e, R.cut a v h.1 h1, RL.cut as r h.2 h2⟩
end

theorem HoldsB.cut {x : Cx} {n : Nat} {p : Nat × Nat} : ∀ {b : AB}, b.low n = true → HoldsB x p b → HoldsB { x with N := n } p b
  | .cells cs, h, hb => by
    obtain ⟨c, t, fz, vs, h1, h2, h3, h4, h5, h6⟩ := hb
    exact ⟨c, t, fz, vs, h1, h2, RL.cut _ _ h h3, h4, h5, h6⟩
  | .map es, h, hb => by
    simp only [AB.low, Bool.and_eq_true] at h
    obtain ⟨c, clock, h1, h2, h3⟩ := hb
    exact ⟨c, clock, h1, RL.cut _ _ h.1 h2, RL.cut _ _ h.2 h3⟩
  | .dead, _, _ => trivial

/-- What nobody names is dropped. -/
theorem VS.drop {n : Nat} {fr : List AV} {H G : AH} (hn : n ≤ H.length) (hw : WF H) (hf : lows H.length fr = true) : VS n fr (H ++ G) fr H := by
  intro x vs hr hx hl
  have hlive : ∀ l, Live H l → Live (H ++ G) l := fun l ⟨b, hb, h⟩ => ⟨b, by rw [List.getElem?_append_left (List.getElem?_eq_some_iff.1 hb).1]; exact hb, h⟩
  refine ⟨{ x with N := H.length }, rfl, ⟨fun _ _ => rfl, hx, hn, fun _ h => h, fun _ _ h => h, Nat.le_refl _, rfl, rfl, rfl, fun _ _ _ => rfl, fun k ⟨l, h1, h2⟩ => .inl ⟨l, hlive l h1, h2⟩, fun _ h => .inl h⟩, ⟨rfl, fun l b hb => ?_, fun l m h1 h2 => hr.inj l m (hlive l h1) (hlive m h2), fun l h => hr.notF l (hlive l h), hr.Flt⟩, RL.cut _ _ hf hl⟩
  have hlt := (List.getElem?_eq_some_iff.1 hb).1
  exact HoldsB.cut (hw b (List.mem_of_getElem? hb)) (hr.block l b (by rw [List.getElem?_append_left hlt]; exact hb))

/-- A live row becomes frozen: whoever holds it whole holds a list of what it has. -/
theorem VS.freeze1 {n : Nat} {H : AH} {ex : Bool} {l off len sz : Nat} {cs : List AV} (hl : H[l]? = some (.cells cs)) (hle : off + len * sz ≤ cs.length) :
    VS n [.ref ex l off len sz] H [.lit false ex ((cs.drop off).take (len * sz)) len] (H.set l .dead) := by
  intro x vs hr hx hv
  simp only [RL] at hv
  obtain ⟨v, r, rfl, hv, rfl⟩ := hv
  simp only [R] at hv
  obtain ⟨hN, cap, S, o, rfl, ho, hlc, hcm, hex, hS, hSc⟩ := hv
  have hlive : Live H l := ⟨_, hl, rfl⟩
  obtain ⟨hr1, hm1⟩ := hr.dead l
  have hlt := Own.lt hr ⟨l, hlive, rfl⟩
  obtain ⟨c, t, fz, us, g1, g2, g3, g4, g5, g6⟩ := hr.block l _ hl
  let y : Cx := { x with F := fun k => x.F k ∨ k = (x.at_ l).1 }
  have hk : Keeps x y := ⟨fun _ _ => rfl, Nat.le_refl _, fun _ h => .inl h, fun _ _ => rfl, fun _ _ h => h⟩
  refine ⟨y, rfl, ⟨fun _ _ => rfl, hx, hx, fun _ h => .inl h, fun _ _ h => h, Nat.le_refl _, rfl, rfl, rfl, fun _ _ _ => rfl, fun k ⟨m, h1, h2⟩ => .inl ⟨m, h1.dead.1, h2⟩, ?_⟩, ⟨by simp [y, hr.N], ?_, fun a b ha hb => hr.inj a b ha.dead.1 hb.dead.1, ?_, ?_⟩, ?_⟩
  · rintro k (h | h)
    · exact .inl h
    · exact .inr (.inl ⟨l, hlive, h.symm⟩)
  · intro m b hb
    exact HoldsB.keeps hk rfl (hr1.block m b hb)
  · rintro m hm (h | h)
    · exact hr.notF m hm.dead.1 h
    · exact hm.dead.2 (hr.inj m l hm.dead.1 hlive h)
  · rintro k (h | h)
    · exact hr.Flt k h
    · rw [h]; exact hlt
  · refine ⟨_, [], rfl, ?_, rfl⟩
    simp only [R]
    refine .inr ⟨trivial, (x.at_ l).1, o, cap, (us.drop off).take (len * sz), rfl, hlc, hcm, hex, RL.keeps hk _ _ ((g3.drop off).take _), fun a ha => g6 a (List.mem_of_mem_drop (List.mem_of_mem_take ha)), .inr (.inr rfl), fun i u hu => ?_⟩
    rw [List.getElem?_take] at hu
    split at hu
    · rename_i hi
      rw [List.getElem?_drop] at hu
      have hc0 : 0 < cap := by
        rcases Nat.eq_zero_or_pos len with h0 | h0
        · subst h0; simp at hi
        · omega
      rw [ho hc0, Nat.add_assoc]
      show x.w.cell? _ = _
      rw [cell_of_row _ _ _ _ _ _ g1]
      exact g5 _ u hu
    · cases hu
end Go.Abs
