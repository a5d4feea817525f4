/- What the small table of types must be to the program's, and what follows for the operations that read no memory. -/
import Derived.Test.YtmndnfpobhebjaaGreatAbnStep
import Derived.Laws.StructEq
import Derived.ChangeKeysEq
namespace Go.Abs

/-- A value that means the same in every world. -/
def closed : AV → Option Value
  | .bool b => some (.bool b)
  | .int k n => some (.int k n)
  | .str s => some (.string ⟨s.toArray⟩)
  | .nilptr => some (.pointer none)
  | .lit true _ [] 0 => some (.slice none 0 0)
  | .nilfn => some .nilFunc
  | .nilmap => some (.map none)
  | .nilif => some .nilIface
  | _ => none
def DescOk (P : Program) (t : TypeId) : AD → Prop
  | .bool => P.underlying t = some .bool
  | .int k => P.underlying t = some (.int k)
  | .str => P.underlying t = some .string
  | .ptr e => P.underlying t = some (.pointer e)
  | .slice e => P.underlying t = some (.slice e)
  | .arr n e => P.underlying t = some (.array n e)
  | .struct fs => ∃ fields, P.underlying t = some (.struct fields) ∧ fs = fields.toList.map fun f => (f.name == "_", f.offset, f.type)
  | .map k e => P.underlying t = some (.map k e)
  | .func => ∃ ps rs v, P.underlying t = some (.func ps rs v)
  | .iface => ∃ ms, P.underlying t = some (.interface ms)
  | .other => False
def isAggV : Value → Bool
  | .agg _ => true
  | _ => false
structure TyInfo (P : Program) (t : TypeId) (a : AT) : Prop where
  info : ∃ i z, P.info? t = some i ∧ i.size = a.size ∧ i.bytes = a.bytes ∧ i.zero = some z ∧ z.cells.size = i.size ∧ a.zero.mapM closed = some z.cells.toList
  desc : DescOk P t a.d
  eq : a.eqOk = true → P.eqGuardType P.depth t = false ∧ P.stoodInHeld t = false
  zagg : ∀ i z, P.info? t = some i → i.zero = some z → isAggV z = a.d.isAgg
structure TyOk (P : Program) (T : TT) : Prop where
  ty : ∀ t, (T t).d.known = true → TyInfo P t (T t)
  sub : ∀ t, (T t).d.known = true → ∀ e ∈ (T t).d.subs, (T e).d.known = true

theorem R.closed {x : Cx} {a : AV} {v : Value} (h : closed a = some v) : R x a v ∧ a.isCell = true := by
  unfold Abs.closed at h
  split at h <;> first
    | (cases h; done)
    | (cases h; simp [R, AV.isCell]; done)
theorem RL.closed {x : Cx} : ∀ {as : List AV} {vs : List Value}, as.mapM closed = some vs → RL x as vs ∧ ∀ a ∈ as, a.isCell = true
  | [], vs, h => by simp at h; subst h; simp [RL]
  | a :: as, vs, h => by
    simp only [List.mapM_cons, Option.bind_eq_bind, Option.bind_eq_some_iff, Option.pure_def, Option.some.injEq] at h
    obtain ⟨v, hv, r, hr, rfl⟩ := h
    have h1 := R.closed (x := x) hv
    have h2 := RL.closed (x := x) hr
    refine ⟨⟨v, r, rfl, h1.1, h2.1⟩, fun b hb => ?_⟩
    rcases List.mem_cons.1 hb with rfl | hb
    · exact h1.2
    · exact h2.2 b hb

section
variable {P : Program} {T : TT} (hT : TyOk P T)
include hT
theorem TyOk.size {t : TypeId} (h : (T t).d.known = true) (w : World) : (sizeOf t).run P w = .ok (T t).size w := by
  obtain ⟨i, z, hi, hs, _⟩ := (hT.ty t h).info
  simp [sizeOf, typeInfo, hi, hs]
theorem TyOk.zero {t : TypeId} (h : (T t).d.known = true) (w : World) : ∃ z, (zeroValue t).run P w = .ok z w ∧ ∀ x, RL x (T t).zero z.cells.toList ∧ ∀ a ∈ (T t).zero, a.isCell = true := by
  obtain ⟨i, z, hi, hs, hb, hz, hzs, hm⟩ := (hT.ty t h).info
  exact ⟨z, by simp [zeroValue, typeInfo, hi, hz], fun x => RL.closed hm⟩
theorem TyOk.isAgg {t : TypeId} (h : (T t).d.known = true) (w : World) : (isAgg t).run P w = .ok (T t).d.isAgg w := by
  have hd := (hT.ty t h).desc
  unfold Go.isAgg
  cases hk : (T t).d <;> rw [hk] at hd <;> simp only [DescOk] at hd
  case struct fs => obtain ⟨fields, hu, _⟩ := hd; simp [run_underlying hu, AD.isAgg]
  case func => obtain ⟨_, _, _, hu⟩ := hd; simp [run_underlying hu, AD.isAgg]
  case iface => obtain ⟨_, hu⟩ := hd; simp [run_underlying hu, AD.isAgg]
  all_goals simp [run_underlying hd, AD.isAgg]

theorem part_sound {x : Cx} {t : TypeId} {as : List AV} {vs : List Value} {off : Nat} {v : AV} (hl : RL x as vs) (hc : ∀ a ∈ as, a.isCell = true) (h : apart T t as off = some v) (w : World) :
    ∃ u, (part t vs.toArray off).run P w = .ok u w ∧ R x v u := by
  unfold apart at h
  split at h
  · rename_i hk
    have h1 := TyOk.isAgg hT hk w
    have h2 := TyOk.size hT hk w
    split at h
    · rename_i ha
      split at h
      · rename_i hb
        cases h
        refine ⟨.agg ((vs.drop off).take (T t).size).toArray, ?_, ?_⟩
        · unfold part
          simp only [Sem.run_bind, h1, Result.andThen_ok, ha, if_true, h2, Sem.run_pure]
          congr 2
          apply Array.ext'
          simp [List.take_drop]
        · simp only [R]
          exact ⟨fun a ha => hc a (List.mem_of_mem_drop (List.mem_of_mem_take ha)), _, rfl, (hl.drop off).take _⟩
      · cases h
    · rename_i ha
      obtain ⟨u, hu, hr⟩ := hl.get h
      refine ⟨u, ?_, hr⟩
      unfold part
      simp only [Sem.run_bind, h1, Result.andThen_ok, ha, if_false, Bool.false_eq_true]
      simp [hu]
  · cases h
end

end Go.Abs
