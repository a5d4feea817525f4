/- A law's arguments, opened no further than what they say themselves. -/
import Derived.Test.YtmndnfpobhebjaaGreatAbnEval
import Derived.WideShapes
namespace Go.Abs
inductive Kd where
  | int (k : IntKind)
  | str
  | bool
  | slice
abbrev Dt := Int × List UInt8 × Bool × Bool × Nat
def Kd.av (d : Dt) : Kd → AV
  | .int k => .int k d.1
  | .str => .str d.2.1
  | .bool => .bool d.2.2.1
  | .slice => .lit d.2.2.1 d.2.2.2.1 [] d.2.2.2.2
def mkCells (f : Nat → Dt) : List Kd → Nat → List AV
  | [], _ => []
  | k :: r, i => k.av (f i) :: mkCells f r (i + 1)
def kindOf (P : Program) (t : TypeId) : Option Kd := match P.underlying t with
  | some (.int k) => some (.int k)
  | some .string => some .str
  | some .bool => some .bool
  | some (.slice _) => some .slice
  | _ => none
def kindsOf (P : Program) (t : TypeId) : Option (Bool × List Kd) := match P.underlying t with
  | some (.struct _) | some (.array _ _) => match P.cellTypes P.depth t with
    | some ts => if P.cellsOf t = ts.length then (ts.mapM (kindOf P)).map (true, ·) else none
    | none => none
  | _ => (kindOf P t).map fun k => (false, [k])
def argOf (P : Program) (t : TypeId) (f : Nat → Dt) : AV := match kindsOf P t with
  | some (true, ks) => .agg (mkCells f ks 0)
  | some (false, [k]) => k.av (f 0)
  | _ => .tup []
theorem cell_open {P : Program} {W : World} {base : Nat} {u : TypeId} {v : Value} {k : Kd} (hk : kindOf P u = some k) (h : Cell.okWide P W .any base u v) : ∃ d, R (Cx.start W) (k.av d) v ∧ (k.av d).isCell = true := by
  unfold kindOf at hk
  unfold Cell.okWide at h
  split at hk
  · rename_i k' hu
    cases hk
    rw [hu] at h
    cases v <;> simp [Cell.ok, hu] at h
    obtain ⟨rfl, _⟩ := h
    rename_i n _
    exact ⟨(n, [], false, false, 0), by simp [Kd.av, R, AV.isCell]⟩
  · rename_i hu
    cases hk
    rw [hu] at h
    cases v <;> simp [Cell.ok, hu] at h
    rename_i s
    exact ⟨(0, s.data.toList, false, false, 0), by simp [Kd.av, R, AV.isCell]⟩
  · rename_i hu
    cases hk
    rw [hu] at h
    cases v <;> simp [Cell.ok, hu] at h
    rename_i b
    exact ⟨(0, [], b, false, 0), by simp [Kd.av, R, AV.isCell]⟩
  · rename_i e hu
    cases hk
    rw [hu] at h
    cases v <;> simp [Cell.ok, hu] at h
    rename_i a len cap
    cases a with
    | none =>
      have h0 : len = 0 ∧ cap = 0 := by
        cases len <;> cases cap <;> simp_all
      obtain ⟨rfl, rfl⟩ := h0
      exact ⟨(0, [], true, true, 0), by simp [Kd.av, R, AV.isCell]⟩
    | some a =>
      obtain ⟨b, o, sp⟩ := a
      simp only [World.has] at h
      have hsp : sp = none := h.2.2.2.1
      subst hsp
      refine ⟨(0, [], false, false, len), ?_, rfl⟩
      simp only [Kd.av, R]
      refine .inr ⟨trivial, b, o, cap, [], rfl, h.1, ?_, by simp, by simp [RL], by simp, .inl trivial, by simp⟩
      have h9 := h.2.1
      unfold maxLen
      omega
  · cases hk
theorem row_open {P : Program} {W : World} {base : Nat} : ∀ {ts : List TypeId} {ks : List Kd} {cs : List Value} (off : Nat), ts.mapM (kindOf P) = some ks → cs.length = ts.length → (∀ (i : Nat) v, cs[i]? = some v → ∃ u, ts[i]? = some u ∧ Cell.okWide P W .any base u v) →
    ∃ f : Nat → Dt, RL (Cx.start W) (mkCells f ks off) cs ∧ ∀ a ∈ mkCells f ks off, a.isCell = true
  | [], ks, cs, off, hk, hl, _ => by
    simp at hk hl
    subst hk hl
    exact ⟨fun _ => (0, [], false, false, 0), by simp [mkCells, RL], by simp [mkCells]⟩
  | t :: ts, ks, cs, off, hk, hl, h => by
    simp only [List.mapM_cons, Option.bind_eq_bind, Option.bind_eq_some_iff, Option.pure_def, Option.some.injEq] at hk
    obtain ⟨k, hk1, ks', hk2, rfl⟩ := hk
    cases cs with
    | nil => simp at hl
    | cons v cs =>
      obtain ⟨u, hu, hv⟩ := h 0 v rfl
      simp at hu
      subst hu
      obtain ⟨d, hd, hdc⟩ := cell_open hk1 hv
      obtain ⟨f, hf, hfc⟩ := row_open (cs := cs) (off + 1) hk2 (by simpa using hl) (fun i v hi => by
        obtain ⟨u, hu, hv⟩ := h (i + 1) v (by simpa using hi)
        exact ⟨u, by simpa using hu, hv⟩)
      have hsame : ∀ (ks : List Kd) (m : Nat), off < m → mkCells (fun i => if i = off then d else f i) ks m = mkCells f ks m := by
        intro ks
        induction ks with
        | nil => intro m _; rfl
        | cons k ks ih => intro m hm; simp only [mkCells, ih (m + 1) (by omega)]; rw [if_neg (by omega)]
      refine ⟨fun i => if i = off then d else f i, ?_, ?_⟩
      · simp only [mkCells, if_true]
        rw [hsame _ _ (by omega)]
        exact ⟨v, cs, rfl, hd, hf⟩
      · intro a ha
        simp only [mkCells, if_true] at ha
        rw [hsame _ _ (by omega)] at ha
        rcases List.mem_cons.1 ha with rfl | ha
        · exact hdc
        · exact hfc a ha
theorem param_open {P : Program} {W : World} {base : Nat} {t : TypeId} {v : Value} (hk : (kindsOf P t).isSome = true) (h : Value.okWide P W .any base t v) : ∃ f : Nat → Dt, R (Cx.start W) (argOf P t f) v := by
  have hrow : ∀ cs : Array Value, v = .agg cs → cs.size = P.cellsOf t → Row.okWide P W .any base t cs → (∃ ts ks, P.cellTypes P.depth t = some ts ∧ P.cellsOf t = ts.length ∧ ts.mapM (kindOf P) = some ks ∧ kindsOf P t = some (true, ks)) → ∃ f : Nat → Dt, R (Cx.start W) (argOf P t f) v := by
    rintro cs rfl hsz ⟨ts', h1, h2, h3⟩ ⟨ts, ks, g1, g2, g3, g4⟩
    obtain rfl : ts = ts' := by rw [g1] at h1; cases h1; rfl
    have hlen : cs.toList.length = ts.length := by simp [hsz, g2]
    obtain ⟨f, hf, hfc⟩ := row_open (base := base) (cs := cs.toList) 0 g3 hlen (fun i v hi => by
      obtain ⟨u, hu, hv⟩ := h3 i v (by simpa using hi)
      have hlt := (List.getElem?_eq_some_iff.1 hi).1
      rw [Nat.mod_eq_of_lt (by omega)] at hu
      exact ⟨u, hu, hv⟩)
    refine ⟨f, ?_⟩
    unfold argOf
    rw [g4]
    simp only [R]
    exact ⟨hfc, cs.toList, by simp, hf⟩
  have hcell : ∀ k, kindOf P t = some k → kindsOf P t = some (false, [k]) → Cell.okWide P W .any base t v → ∃ f : Nat → Dt, R (Cx.start W) (argOf P t f) v := by
    intro k h1 h2 h3
    obtain ⟨d, hd, _⟩ := cell_open h1 h3
    exact ⟨fun _ => d, by unfold argOf; rw [h2]; exact hd⟩
  unfold Value.okWide at h
  have hk' := hk
  unfold kindsOf at hk'
  split at hk'
  · rename_i fs hu
    rw [hu] at h
    obtain ⟨cs, e, h1, h2⟩ := h
    refine hrow cs e h1 h2 ?_
    split at hk'
    · rename_i ts ht
      split at hk'
      · rename_i hc
        simp only [Option.isSome_map] at hk'
        obtain ⟨ks, hks⟩ := Option.isSome_iff_exists.1 hk'
        exact ⟨ts, ks, ht, hc, hks, by unfold kindsOf; simp only [hu, ht, hc, if_true, hks, Option.map_some]⟩
      · cases hk'
    · cases hk'
  · rename_i n e hu
    rw [hu] at h
    obtain ⟨cs, e, h1, h2⟩ := h
    refine hrow cs e h1 h2 ?_
    split at hk'
    · rename_i ts ht
      split at hk'
      · rename_i hc
        simp only [Option.isSome_map] at hk'
        obtain ⟨ks, hks⟩ := Option.isSome_iff_exists.1 hk'
        exact ⟨ts, ks, ht, hc, hks, by unfold kindsOf; simp only [hu, ht, hc, if_true, hks, Option.map_some]⟩
      · cases hk'
    · cases hk'
  · rename_i h1 h2
    simp only [Option.isSome_map] at hk'
    obtain ⟨k, hkk⟩ := Option.isSome_iff_exists.1 hk'
    refine hcell k hkk ?_ ?_
    · unfold kindsOf
      split
      · rename_i hu; exact absurd hu (h1 _)
      · rename_i hu; exact absurd hu (h2 _ _)
      · rw [hkk]; rfl
    · split at h
      · rename_i hu; exact absurd hu (h1 _)
      · rename_i hu; exact absurd hu (h2 _ _)
      · exact h
theorem RL.nil' {x : Cx} : RL x [] [] := by simp [RL]
theorem RL.cons' {x : Cx} {a : AV} {v : Value} {as : List AV} {vs : List Value} (h : R x a v) (h2 : RL x as vs) : RL x (a :: as) (v :: vs) := ⟨v, vs, rfl, h, h2⟩
theorem no_globals {x : Cx} {G : Nat → Option (List AV)} (h : ∀ g, G g = none) : GOk G x := fun g cs hg => by rw [h g] at hg; cases hg
end Go.Abs
