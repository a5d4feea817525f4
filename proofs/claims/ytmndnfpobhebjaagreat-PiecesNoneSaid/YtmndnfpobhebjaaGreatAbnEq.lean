/- '==' on abstract values is the model's; constants and operands. -/
import Derived.Test.YtmndnfpobhebjaaGreatAbnTy
namespace Go.Abs

theorem toList_bytes (s : List UInt8) : (⟨s.toArray⟩ : ByteArray).toList = s := by
  rw [ByteArray.toList_eq]
  
theorem R.cvCell {x : Cx} {a : AV} {v : Value} (h : cvCell v = some a) : R x a v ∧ a.isCell = true := by
  unfold Abs.cvCell at h
  split at h <;> first
    | (cases h; done)
    | (cases h; simp [R, AV.isCell]; done)
theorem RL.cvCell {x : Cx} : ∀ {vs : List Value} {as : List AV}, vs.mapM cvCell = some as → RL x as vs ∧ ∀ a ∈ as, a.isCell = true
  | [], as, h => by simp at h; subst h; simp [RL]
  | v :: vs, as, h => by
    simp only [List.mapM_cons, Option.bind_eq_bind, Option.bind_eq_some_iff, Option.pure_def, Option.some.injEq] at h
    obtain ⟨a, ha, r, hr, rfl⟩ := h
    have h1 := R.cvCell (x := x) ha
    have h2 := RL.cvCell (x := x) hr
    refine ⟨⟨v, vs, rfl, h1.1, h2.1⟩, fun b hb => ?_⟩
    rcases List.mem_cons.1 hb with rfl | hb
    · exact h1.2
    · exact h2.2 b hb
theorem R.cv {x : Cx} {a : AV} {v : Value} (h : cv v = some a) : R x a v := by
  unfold Abs.cv at h
  split at h
  · rename_i vs
    split at h
    · rename_i h0
      cases h
      simp only [R]
      exact ⟨[], by simp [Array.eq_empty_of_size_eq_zero h0], rfl⟩
    · cases h
  · rename_i cs
    simp only [Option.map_eq_some_iff] at h
    obtain ⟨as, h1, rfl⟩ := h
    have := RL.cvCell (x := x) h1
    simp only [R]
    exact ⟨this.2, cs.toList, by simp, this.1⟩
  · exact (R.cvCell h).1

/-- The package-level variables that are read hold what is said of them, for good. -/
def GOk (G : Nat → Option (List AV)) (x : Cx) : Prop := ∀ g cs, G g = some cs → ∃ vs, cs.mapM closed = some vs ∧ x.F g cs.length ∧ ∀ i u, vs[i]? = some u → x.w.cell? ⟨g, i, none⟩ = some u
theorem GOk.lptr {G : Nat → Option (List AV)} {x : Cx} (h : GOk G x) {g : Nat} {cs : List AV} (hg : G g = some cs) : R x (.lptr cs 0) (.pointer (some ⟨g, 0, none⟩)) := by
  obtain ⟨vs, h1, h2, h3⟩ := h g cs hg
  have hc := RL.closed (x := x) h1
  simp only [R]
  exact ⟨g, 0, vs, rfl, by rw [Nat.zero_add]; exact .of h2, hc.1, hc.2, fun i u hu => by rw [Nat.zero_add]; exact h3 i u hu⟩
theorem GOk.mv {G : Nat → Option (List AV)} {n : Nat} {x y : Cx} {H H' : AH} (h : GOk G x) (_hr : Rel x H) (hm : Mv n x H y H') : GOk G y := fun g cs hg => by
  obtain ⟨vs, h1, h2, h3⟩ := h g cs hg
  refine ⟨vs, h1, hm.F g _ h2, fun i u hu => ?_⟩
  have hc := RL.length (RL.closed (x := x) h1).1
  rw [hm.same g _ h2 i (by have := (List.getElem?_eq_some_iff.1 hu).1; omega)]
  exact h3 i u hu

theorem aval_sound {G : Nat → Option (List AV)} {x : Cx} {fr : List AV} {a : Act} (hG : GOk G x) (hl : RL x fr a.tmps.toList) {o : Operand} {v : AV} (h : aval G fr o = some v) : R x v (a.eval o) := by
  cases o with
  | tmp t =>
    simp only [aval, Option.some.injEq] at h
    subst h
    simp only [Act.eval]
    rcases Nat.lt_or_ge t fr.length with ht | ht
    · obtain ⟨u, hu, hr⟩ := hl.get (List.getElem?_eq_getElem ht)
      rw [Array.getElem?_toList] at hu
      rw [List.getD_eq_getElem?_getD, List.getElem?_eq_getElem ht, Array.getD_eq_getD_getElem?, hu]
      exact hr
    · rw [List.getD_eq_getElem?_getD, List.getElem?_eq_none ht, Array.getD_eq_getD_getElem?, Array.getElem?_eq_none (by rw [← Array.length_toList, hl.length]; exact ht)]
      simp only [Option.getD_none, R]
      exact ⟨[], rfl, rfl⟩
  | const v => exact R.cv h
  | global g =>
    simp only [aval, Option.map_eq_some_iff] at h
    obtain ⟨cs, h1, rfl⟩ := h
    exact hG.lptr h1
  | func f =>
    simp only [aval, Option.some.injEq] at h
    subst h
    simp only [R, Act.eval]
    exact ⟨[], [], rfl, rfl, rfl⟩

section
variable {P : Program} {T : TT} (hT : TyOk P T)
include hT

theorem eqFields_sound (d : Nat) {x : Cx} (ih : ∀ (t : TypeId) (a b : AV) (u v : Value) (r : Bool) (w : World), R x a u → R x b v → aeq T d t a b = some r → (Op.equalIn d t u v).run P w = .ok r w)
    {as bs : List AV} {us vs : List Value} (ha : RL x as us) (hac : ∀ a ∈ as, a.isCell = true) (hb : RL x bs vs) (hbc : ∀ a ∈ bs, a.isCell = true) :
    ∀ (fs : List Field) (r : Bool) (w : World), allM (fun f : Bool × Nat × TypeId => if f.1 then some true else
        match apart T f.2.2 as f.2.1, apart T f.2.2 bs f.2.1 with
        | some a, some b => aeq T d f.2.2 a b
        | _, _ => none) (fs.map fun f => (f.name == "_", f.offset, f.type)) = some r → (Op.eqFields d us.toArray vs.toArray fs).run P w = .ok r w
  | [], r, w, h => by
    simp only [List.map_nil, allM, Option.some.injEq] at h
    subst h
    simp [Op.eqFields]
  | f :: fs, r, w, h => by
    simp only [List.map_cons, allM] at h
    by_cases hn : f.name = "_"
    · simp only [hn, beq_self_eq_true, if_true] at h
      have := eqFields_sound d ih ha hac hb hbc fs r w h
      simpa [Op.eqFields, hn] using this
    · have hn' : (f.name == "_") = false := by simpa using hn
      simp only [hn', Bool.false_eq_true, if_false] at h
      cases h1 : apart T f.type as f.offset with
      | none => simp [h1] at h
      | some a =>
        cases h2 : apart T f.type bs f.offset with
        | none => simp [h1, h2] at h
        | some b =>
          simp only [h1, h2] at h
          obtain ⟨u, hu, hur⟩ := part_sound hT ha hac h1 w
          obtain ⟨v, hv, hvr⟩ := part_sound hT hb hbc h2 w
          cases h3 : aeq T d f.type a b with
          | none => simp [h3] at h
          | some q =>
            have h4 := ih f.type a b u v q w hur hvr h3
            simp only [h3] at h
            simp only [Op.eqFields, hn, ne_eq, not_false_eq_true, if_true, Sem.run_bind, hu, hv, h4, Result.andThen_ok]
            cases q with
            | true =>
              simp only [Bool.not_true, Bool.false_eq_true, if_false]
              exact eqFields_sound d ih ha hac hb hbc fs r w h
            | false =>
              simp only [Option.some.injEq] at h
              subst h
              simp

theorem eqItems_sound (d : Nat) {x : Cx} (ih : ∀ (t : TypeId) (a b : AV) (u v : Value) (r : Bool) (w : World), R x a u → R x b v → aeq T d t a b = some r → (Op.equalIn d t u v).run P w = .ok r w)
    {e : TypeId} {as bs : List AV} {us vs : List Value} (ha : RL x as us) (hac : ∀ a ∈ as, a.isCell = true) (hb : RL x bs vs) (hbc : ∀ a ∈ bs, a.isCell = true) :
    ∀ (is : List Nat) (r : Bool) (w : World), allM (fun i => match apart T e as (i * (T e).size), apart T e bs (i * (T e).size) with
        | some a, some b => aeq T d e a b
        | _, _ => none) is = some r → (Op.eqItems d e (T e).size us.toArray vs.toArray is).run P w = .ok r w
  | [], r, w, h => by
    simp only [allM, Option.some.injEq] at h
    subst h
    simp [Op.eqItems]
  | i :: is, r, w, h => by
    simp only [allM] at h
    cases h1 : apart T e as (i * (T e).size) with
    | none => simp [h1] at h
    | some a =>
      cases h2 : apart T e bs (i * (T e).size) with
      | none => simp [h1, h2] at h
      | some b =>
        simp only [h1, h2] at h
        obtain ⟨u, hu, hur⟩ := part_sound hT ha hac h1 w
        obtain ⟨v, hv, hvr⟩ := part_sound hT hb hbc h2 w
        cases h3 : aeq T d e a b with
        | none => simp [h3] at h
        | some q =>
          have h4 := ih e a b u v q w hur hvr h3
          simp only [h3] at h
          simp only [Op.eqItems, Sem.run_bind, hu, hv, h4, Result.andThen_ok]
          cases q with
          | true =>
            simp only [Bool.not_true, Bool.false_eq_true, if_false]
            exact eqItems_sound d ih ha hac hb hbc is r w h
          | false =>
            simp only [Option.some.injEq] at h
            subst h
            simp
end
end Go.Abs
