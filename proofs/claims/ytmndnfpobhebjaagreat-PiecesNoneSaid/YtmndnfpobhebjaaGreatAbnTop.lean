/- A table of types out of a list; the first state of a run; what a call that was given no block leaves. -/
import Derived.Test.YtmndnfpobhebjaaGreatAbnCode
namespace Go.Abs

theorem tyOk_of_list {P : Program} {T : TT} {l : List (Nat × AT)} {z : AT} (hz : z.d = .other) (hT : T = fun t => ((l.find? fun p => p.1 == t).map (·.2)).getD z) (h : ∀ p ∈ l, TyInfo P p.1 p.2)
    (hs : (l.all fun p => p.2.d.subs.all fun e => (T e).d.known) = true) : TyOk P T := by
  have key : ∀ t, (T t).d.known = true → ∃ p ∈ l, p.1 = t ∧ T t = p.2 := by
    intro t ht
    rw [hT] at ht ⊢
    simp only at ht ⊢
    cases hf : l.find? fun p => p.1 == t with
    | none => rw [hf] at ht; simp only [Option.map_none, Option.getD_none, hz] at ht; cases ht
    | some p =>
      have h1 := List.find?_some hf
      exact ⟨p, List.mem_of_find?_eq_some hf, by simpa using h1, by simp⟩
  refine ⟨fun t ht => ?_, fun t ht e he => ?_⟩
  · obtain ⟨p, hp, rfl, e⟩ := key t ht
    rw [e]
    exact h p hp
  · obtain ⟨p, hp, rfl, e2⟩ := key t ht
    rw [e2] at he
    rw [List.all_eq_true] at hs
    have := hs p hp
    rw [List.all_eq_true] at this
    exact this e he

/-- The state in which a law is called: nothing is owned, all that is there is frozen. -/
def Cx.start (w : World) : Cx := { at_ := fun _ => (0, 0), ver := fun _ => 0, rl := fun _ => false, F := fun k _ => k < w.heap.size, N := 0, w := w }
theorem Rel.start (w : World) : Rel (Cx.start w) [] :=
  ⟨rfl, fun l b h => by simp at h, fun l m ⟨b, hb, _⟩ => by simp at hb, fun l b hb => by simp at hb, fun k _ h => h⟩

/-- A law's call: what was there is as it was. -/
theorem law_calls {P : Program} {T : TT} (hT : TyOk P T) {G : Nat → Option (List AV)} {f : FuncId} {args : List AV} {b : Bool} (h : EvCall P T G f args [] (fun r _ => r = .bool b)) {w : World} {vs : List Value} (hl : RL (Cx.start w) args vs) (hG : GOk G (Cx.start w)) :
    Calls P f vs.toArray w (fun e w' => e = .returned (.bool b) ∧ RowKit.Below w.heap.size w w') := by
  refine ((call_sound hT h).2 (Cx.start w) vs (Rel.start w) hl hG).mono ?_
  rintro e w' ⟨v, r, H', y, rfl, rfl, rfl, hm, hr, hv⟩
  simp only [R] at hv
  refine ⟨by rw [hv], hm.os, hm.tape, hm.output, hm.size, fun k hk => hm.frame k hk ?_⟩
  rintro ⟨l, ⟨b, hb, _⟩, _⟩
  simp at hb

/-! ### view shifts -/
mutual
/-- All places that a value names lie below n. -/
def AV.low (n : Nat) : AV → Bool
  | .ptr l _ | .ref _ l _ _ _ | .map l => decide (l < n)
  | .own l _ _ cs _ _ => decide (l < n) && lows n cs
  | .lptr cs _ | .lit _ _ cs _ | .agg cs | .tup cs => lows n cs
  | .fn _ first caps => lows n first && lows n caps
  | .iface _ v => v.low n
  | _ => true
def lows (n : Nat) : List AV → Bool
  | [] => true
  | a :: as => a.low n && lows n as
end
/-- All places that a block names lie below n. -/
def AB.low (n : Nat) : AB → Bool
  | .cells cs => lows n cs
  | .map es _ _ => lows n (es.map (·.1)) && lows n (es.map (·.2))
  | .iter src _ _ _ => match src with
    | some l => decide (l < n)
    | none => true
  | .room _ _ => true
  | .dead => true
/-- The heap names no place beyond itself. -/
def WF (H : AH) : Prop := ∀ b ∈ H, b.low H.length = true

mutual
theorem R.cut {x : Cx} {n : Nat} : ∀ (a : AV) (v : Value), a.low n = true → R x a v → R { x with N := n } a v
  | .bool _, _, _, hr => by simpa [R] using hr
  | .int _ _, _, _, hr => by simpa [R] using hr
  | .str _, _, _, hr => by simpa [R] using hr
  | .nilptr, _, _, hr => by simpa [R] using hr
  | .ptr l off, v, h, hr => by
    simp only [R, AV.low, decide_eq_true_eq] at *
    exact ⟨h, hr.2⟩
  | .lptr cs off, v, h, hr => by
    simp only [R, AV.low] at *
    obtain ⟨b, o, vs, e, hf, hl, hk, hc⟩ := hr
    exact ⟨b, o, vs, e, hf, RL.cut cs vs h hl, hk, hc⟩
  | .lit nl ex cs len, v, h, hr => by
    simp only [R, AV.low] at *
    rcases hr with hr | ⟨hn, b, o, cap, vs, e, h1, h2, h3, hl, hk, hf, hc⟩
    · exact .inl hr
    · exact .inr ⟨hn, b, o, cap, vs, e, h1, h2, h3, RL.cut cs vs h hl, hk, hf, hc⟩
  | .ref ex l off len sz, v, h, hr => by
    simp only [R, AV.low, decide_eq_true_eq] at *
    exact ⟨h, hr.2⟩
  | .fn f first caps, v, h, hr => by
    simp only [R, AV.low, Bool.and_eq_true] at *
    obtain ⟨fs, cs, e, h1, h2⟩ := hr
    exact ⟨fs, cs, e, RL.cut _ _ h.1 h1, RL.cut _ _ h.2 h2⟩
  | .nilfn, _, _, hr => by simpa [R] using hr
  | .map l, v, h, hr => by
    simp only [R, AV.low, decide_eq_true_eq] at *
    exact ⟨h, hr.2⟩
  | .nilmap, _, _, hr => by simpa [R] using hr
  | .iface t a, v, h, hr => by
    simp only [R, AV.low] at *
    obtain ⟨u, e, hu⟩ := hr
    exact ⟨u, e, R.cut a u h hu⟩
  | .nilif, _, _, hr => by simpa [R] using hr
  | .agg cs, v, h, hr => by
    simp only [R, AV.low] at *
    obtain ⟨hk, vs, e, hl⟩ := hr
    exact ⟨hk, vs, e, RL.cut cs vs h hl⟩
  | .tup cs, v, h, hr => by
    simp only [R, AV.low] at *
    obtain ⟨vs, e, hl⟩ := hr
    exact ⟨vs, e, RL.cut cs vs h hl⟩
  | .own l ver nl cs len sz, v, h, hr => by
    simp only [R, AV.low, Bool.and_eq_true, decide_eq_true_eq] at *
    obtain ⟨⟨_, h0, hv, hs⟩, hr⟩ := hr
    refine ⟨⟨h.1, h0, hv, hs⟩, ?_⟩
    rcases hr with hr | ⟨hn, b, o, cap, vs, e, h1, h2, h3, h4⟩
    · exact .inl hr
    · exact .inr ⟨hn, b, o, cap, vs, e, h1, h2, RL.cut cs vs h.2 h3, h4⟩
  | .any, _, _, hr => by simpa [R] using hr
theorem RL.cut {x : Cx} {n : Nat} : ∀ (as : List AV) (vs : List Value), lows n as = true → RL x as vs → RL { x with N := n } as vs
  | [], _, _, hr => by simpa [RL] using hr
  | a :: as, vs, h, hr => by
    simp only [RL, lows, Bool.and_eq_true] at *
    obtain ⟨v, r, e, h1, h2⟩ := hr
    exact ⟨v, r, e, R.cut a v h.1 h1, RL.cut as r h.2 h2⟩
end

theorem HoldsB.cut {x : Cx} {n l : Nat} : ∀ {b : AB}, b.low n = true → HoldsB x l b → HoldsB { x with N := n } l b
  | .cells cs, h, hb => by
    obtain ⟨h0, c, t, fz, vs, h1, h2, h3, h4, h5, h6⟩ := hb
    exact ⟨h0, c, t, fz, vs, h1, h2, RL.cut _ _ h h3, h4, h5, h6⟩
  | .map es bs clock, h, hb => by
    simp only [AB.low, Bool.and_eq_true] at h
    obtain ⟨h0, c, h1, h2, h3, h4⟩ := hb
    exact ⟨h0, c, h1, RL.cut _ _ h.1 h2, RL.cut _ _ h.2 h3, h4⟩
  | .iter src since seen last, h, hb => by
    obtain ⟨h0, h00, h1, h2⟩ := hb
    refine ⟨h0, h00, fun l hl => ⟨?_, (h1 l hl).2⟩, h2⟩
    subst hl
    simpa [AB.low] using h
  | .room _ _, _, hb => hb
  | .dead, _, _ => trivial

/-- What nobody names is dropped. -/
theorem VS.drop {n : Nat} {fr : List AV} {H G : AH} (hn : n ≤ H.length) (hw : WF H) (hf : lows H.length fr = true) : VS n fr (H ++ G) fr H := by
  intro x vs hr hx hl
  have hlive : ∀ l, Live H l → Live (H ++ G) l := fun l ⟨b, hb, h⟩ => ⟨b, by rw [List.getElem?_append_left (List.getElem?_eq_some_iff.1 hb).1]; exact hb, h⟩
  have hget : ∀ l b, H[l]? = some b → (H ++ G)[l]? = some b := fun l b hb => by rw [List.getElem?_append_left (List.getElem?_eq_some_iff.1 hb).1]; exact hb
  refine ⟨{ x with N := H.length }, rfl, { Mv.refl (x := x) (n := n) (H ++ G) hx with N := hn, own := fun k ⟨l, h1, h2⟩ => .inl ⟨l, hlive l h1, h2⟩ }, ⟨rfl, fun l b hb => HoldsB.cut (hw b (List.mem_of_getElem? hb)) (hr.block l b (hget l b hb)), fun l m h1 h2 => hr.inj l m (hlive l h1) (hlive m h2), fun l b hb => hr.notF l b (hget l b hb), hr.Flt⟩, RL.cut _ _ hf hl⟩

/-- A live row becomes frozen: whoever holds it whole holds a list of what it has. -/
theorem VS.freeze1 {n : Nat} {H : AH} {ex : Bool} {l off len sz : Nat} {cs : List AV} (hl : H[l]? = some (.cells cs)) (hle : off + len * sz ≤ cs.length) :
    VS n [.ref ex l off len sz] H [.lit false ex ((cs.drop off).take (len * sz)) len] (H.set l .dead) := by
  intro x vs hr hx hv
  simp only [RL] at hv
  obtain ⟨v, r, rfl, hv, rfl⟩ := hv
  simp only [R] at hv
  obtain ⟨hN, hv0, cap, S, o, rfl, ho, hlc, hcm, hex, hS, hSc⟩ := hv
  have hlive : Live H l := ⟨_, hl, rfl⟩
  obtain ⟨hr1, hm1⟩ := hr.dead l
  have hlt := Own.lt hr ⟨l, hlive, rfl⟩
  obtain ⟨_, c, t, fz, us, g1, g2, g3, g4, g5, g6⟩ := hr.block l _ hl
  have hrel := hr1.more (Q := fun k _ => k = (x.at_ l).1) (fun k m hq => by rw [hq]; exact hlt) (fun k m hq j b hb hbl he => by
    rcases set_get hb with ⟨_, rfl⟩ | ⟨ne, hb⟩
    · cases hbl
    · exact absurd (hr.inj l j hlive ⟨b, hb, hbl⟩ (by rw [he, hq])) ne)
  have hk := x.more_keeps fun k _ => k = (x.at_ l).1
  refine ⟨x.more fun k _ => k = (x.at_ l).1, rfl, (hm1.mono hx).more (Q := fun k _ => k = (x.at_ l).1) (fun k m hq => .inl ⟨l, hlive, hq.symm⟩), hrel, ?_⟩
  refine ⟨_, [], rfl, R.frozen hlc hcm hex (RL.keeps hk _ _ ((g3.drop off).take (len * sz))) (fun a ha => g6 a (List.mem_of_mem_drop (List.mem_of_mem_take ha))) (.inr (.of (.inr rfl))) (fun i u hu => ?_), rfl⟩
  rw [List.getElem?_take] at hu
  split at hu
  · rename_i hi
    rw [List.getElem?_drop] at hu
    have hc0 : 0 < cap := by
      rcases Nat.eq_zero_or_pos len with h0 | h0
      · subst h0; simp at hi
      · omega
    rw [ho hc0, Nat.add_assoc]
    show x.w.cell? _ = _
    rw [cell_of_row _ _ _ _ _ _ g1]
    exact g5 _ u hu
  · cases hu
/-- Less is told of a value. -/
def Imp (a b : AV) : Prop := ∀ (x : Cx) (v : Value), R x a v → R x b v
theorem Imp.rfl {a : AV} : Imp a a := fun _ _ h => h
theorem Imp.any {a : AV} (h : ∀ b, a ≠ .bool b) : Imp a .any := fun x v hr b e => h b ((hr.bool b).1 e)
theorem Imp.weak {l ver : Nat} {nl : Bool} {cs : List AV} {len sz : Nat} : Imp (.own l ver nl cs len sz) (.lit nl false cs len) := fun _ _ h => h.weak
theorem Imp.inexact {nl ex : Bool} {cs : List AV} {len : Nat} : Imp (.lit nl ex cs len) (.lit nl false cs len) := fun x v h => by
  simp only [R] at h ⊢
  rcases h with h | ⟨h0, b, o, cap, vs, h1, h2, h3, _, h5⟩
  · exact .inl h
  · exact .inr ⟨h0, b, o, cap, vs, h1, h2, h3, (fun e => by cases e), h5⟩
def ImpL : List AV → List AV → Prop
  | [], [] => True
  | a :: as, b :: bs => Imp a b ∧ ImpL as bs
  | _, _ => False
theorem ImpL.rl : ∀ {as bs : List AV}, ImpL as bs → ∀ {x : Cx} {vs : List Value}, RL x as vs → RL x bs vs
  | [], [], _, _, _, h => h
  | [], _ :: _, h, _, _, _ => h.elim
  | _ :: _, [], h, _, _, _ => h.elim
  | a :: as, b :: bs, h, x, vs, hr => by
    simp only [RL] at *
    obtain ⟨v, r, e, h1, h2⟩ := hr
    exact ⟨v, r, e, h.1 x v h1, ImpL.rl h.2 h2⟩
theorem ImpL.refl : ∀ (as : List AV), ImpL as as
  | [] => trivial
  | _ :: as => ⟨.rfl, ImpL.refl as⟩
theorem ImpL.len : ∀ {as bs : List AV}, ImpL as bs → as.length = bs.length
  | [], [], _ => by simp
  | [], _ :: _, h => h.elim
  | _ :: _, [], h => h.elim
  | _ :: _, _ :: _, h => by simp [ImpL.len h.2]
/-- Less is told of a block. -/
def ImpB : AB → AB → Prop
  | .cells as, .cells bs => ImpL as bs ∧ ∀ b ∈ bs, b.isCell = true
  | .room _ _, .dead => True
  | .cells _, .dead => True
  | a, b => a = b
theorem ImpB.refl (a : AB) (h : ∀ as, a = .cells as → ∀ b ∈ as, b.isCell = true) : ImpB a a := by
  cases a <;> first | exact ⟨ImpL.refl _, h _ rfl⟩ | exact Eq.refl _
def ImpH : AH → AH → Prop
  | [], [] => True
  | a :: as, b :: bs => (a = b ∨ ImpB a b) ∧ ImpH as bs
  | _, _ => False
theorem ImpH.get : ∀ {H G : AH}, ImpH H G → H.length = G.length ∧ ∀ (l : Nat) (b : AB), G[l]? = some b → ∃ a, H[l]? = some a ∧ (a = b ∨ ImpB a b)
  | [], [], _ => ⟨Eq.refl _, fun l b h => by simp at h⟩
  | [], _ :: _, h => h.elim
  | _ :: _, [], h => h.elim
  | a :: as, c :: cs, h => by
    obtain ⟨h1, h2⟩ := ImpH.get h.2
    refine ⟨by simp [h1], fun l b hb => ?_⟩
    cases l with
    | zero => simp at hb; subst hb; exact ⟨a, Eq.refl _, h.1⟩
    | succ l => simpa using h2 l b (by simpa using hb)
theorem ImpB.holds {x : Cx} {l : Nat} {a b : AB} (h : a = b ∨ ImpB a b) (ha : HoldsB x l a) : HoldsB x l b := by
  rcases h with rfl | h
  · exact ha
  · cases a <;> cases b <;> simp only [ImpB] at h <;> first
      | (cases h; done)
      | trivial
      | (cases h; exact ha)
      | (obtain ⟨g0, c, t, fz, vs, g1, g2, g3, g4, g5, g6⟩ := ha
         exact ⟨g0, c, t, fz, vs, g1, g2, h.1.rl g3, by rw [← h.1.len]; exact g4, g5, h.2⟩)
theorem ImpB.live {a b : AB} (h : a = b ∨ ImpB a b) (hb : b.live = true) : a.live = true ∧ a.isRoom = b.isRoom := by
  rcases h with rfl | h
  · exact ⟨hb, Eq.refl _⟩
  · cases a <;> cases b <;> simp only [ImpB] at h <;> first
      | (cases h; done)
      | (cases hb; done)
      | (cases h; exact ⟨hb, Eq.refl _⟩)
      | exact ⟨Eq.refl _, Eq.refl _⟩
/-- Less is told. -/
theorem VS.imp {n : Nat} {fr fr' : List AV} {H H' : AH} (h1 : ImpL fr fr') (h2 : ImpH H H') : VS n fr H fr' H' := by
  intro x vs hr hx hl
  obtain ⟨g1, g2⟩ := h2.get
  have hlive : ∀ l, Live H' l → Live H l := fun l ⟨b, hb, hbl⟩ => by
    obtain ⟨a, ha, h⟩ := g2 l b hb
    exact ⟨a, ha, (ImpB.live h hbl).1⟩
  refine ⟨x, Eq.refl _, { Mv.refl (x := x) (n := n) H hx with own := fun k ⟨l, h, e⟩ => .inl ⟨l, hlive l h, e⟩ }, ⟨by rw [hr.N, g1], fun l b hb => ?_, fun l m a b => hr.inj l m (hlive l a) (hlive m b), fun l b hb hbl m hf => ?_, hr.Flt⟩, h1.rl hl⟩
  · obtain ⟨a, ha, h⟩ := g2 l b hb
    exact ImpB.holds h (hr.block l a ha)
  · obtain ⟨a, ha, h⟩ := g2 l b hb
    have := ImpB.live h hbl
    rw [← this.2]
    exact hr.notF l a ha this.1 m hf
end Go.Abs
