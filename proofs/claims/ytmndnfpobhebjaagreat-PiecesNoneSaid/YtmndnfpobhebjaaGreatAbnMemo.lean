/- Closed runs in parts: calls that are known already are looked up. -/
import Derived.Test.YtmndnfpobhebjaaGreatAbnEval
namespace Go.Abs
structure Known where
  f : FuncId
  args : List AV
  H : AH
  v : AV
  H' : AH
def knownAt (l : List Known) : RCall := fun f args H => match l.find? fun e => Nat.beq e.f f && sames e.args args && heapSame e.H H with
  | some e => some (e.v, e.H')
  | none => none
def AllSay (P : Program) (T : TT) (G : Nat → Option (List AV)) (l : List Known) : Prop := ∀ e ∈ l, ∀ k : AV → AH → Prop, k e.v e.H' → EvCall P T G e.f e.args e.H k
theorem allSay_nil {P : Program} {T : TT} {G : Nat → Option (List AV)} : AllSay P T G [] := fun e h => by cases h
theorem knownAt_says {P : Program} {T : TT} {G : Nat → Option (List AV)} {l : List Known} (h : AllSay P T G l) : Says P T G (knownAt l) := by
  intro f args H v H' he k hk
  unfold knownAt at he
  split at he
  · rename_i e hf
    cases he
    have hp := List.find?_some hf
    have hm := List.mem_of_find?_eq_some hf
    simp only [Bool.and_eq_true, Nat.beq_eq] at hp
    obtain ⟨⟨h1, h2⟩, h3⟩ := hp
    have h2 := sames_eq h2
    have h3 := heapSame_eq h3
    subst h1 h2 h3
    exact h e hm k hk
  · cases he
def runsTo (r : Option (AV × AH)) (v : AV) (H : AH) : Bool := match r with
  | some (v1, H1) => v1.same v && heapSame H1 H
  | none => false
theorem allSay_cons {P : Program} {T : TT} {G : Nat → Option (List AV)} {fns : FuncId → Option (Func × (Nat → Option Plan))} (hT : TabOk P T fns) {l : List Known} (h : AllSay P T G l) {d : Nat} {e : Known} (hr : runsTo (rCall T G fns (knownAt l) d e.f e.args e.H) e.v e.H' = true) : AllSay P T G (e :: l) := by
  intro e' he k hk
  rcases List.mem_cons.1 he with rfl | he
  · unfold runsTo at hr
    split at hr
    · rename_i v1 H1 h1
      rw [Bool.and_eq_true] at hr
      have e1 := same_eq hr.1
      have e2 := heapSame_eq hr.2
      subst e1 e2
      exact rCall_says hT (knownAt_says h) d _ _ _ _ _ h1 k hk
    · cases hr
  · exact h e' he k hk
end Go.Abs
