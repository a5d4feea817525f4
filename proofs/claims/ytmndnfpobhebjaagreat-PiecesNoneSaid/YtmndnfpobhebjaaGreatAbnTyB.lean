/- The table of types, asked by the kernel. -/
import Derived.Test.YtmndnfpobhebjaaGreatAbnTop
namespace Go.Abs

def closedB : AV → Value → Bool
  | .bool a, .bool b => a == b
  | .int k n, .int k' m => k == k' && n == m
  | .str s, .string b => s == b.data.toList
  | .nilptr, .pointer none => true
  | .lit true _ [] 0, .slice none 0 0 => true
  | .nilfn, .nilFunc => true
  | .nilmap, .map none => true
  | .nilif, .nilIface => true
  | _, _ => false
def closedsB : List AV → List Value → Bool
  | [], [] => true
  | a :: as, v :: vs => closedB a v && closedsB as vs
  | _, _ => false
theorem closed_of_B {a : AV} {v : Value} (h : closedB a v = true) : closed a = some v := by
  unfold closedB at h
  split at h <;> first
    | (cases h; done)
    | (simp only [Bool.and_eq_true, beq_iff_eq] at h; first | (obtain ⟨rfl, rfl⟩ := h; rfl) | (subst h; rfl))
    | rfl
theorem closeds_of_B : ∀ {as : List AV} {vs : List Value}, closedsB as vs = true → as.mapM closed = some vs
  | [], [], _ => rfl
  | [], _ :: _, h => by simp [closedsB] at h
  | _ :: _, [], h => by simp [closedsB] at h
  | a :: as, v :: vs, h => by
    simp only [closedsB, Bool.and_eq_true] at h
    simp [List.mapM_cons, closed_of_B h.1, closeds_of_B h.2]

def descB (P : Program) (t : TypeId) (a : AD) : Bool :=
  match a, P.underlying t with
  | .bool, some .bool => true
  | .int k, some (.int k') => k == k'
  | .str, some .string => true
  | .ptr e, some (.pointer e') => e == e'
  | .slice e, some (.slice e') => e == e'
  | .arr n e, some (.array n' e') => n == n' && e == e'
  | .struct fs, some (.struct fields) => fs == fields.toList.map fun f => (f.name == "_", f.offset, f.type)
  | .map k e, some (.map k' e') => k == k' && e == e'
  | .func, some (.func _ _ _) => true
  | .iface, some (.interface _) => true
  | _, _ => false
theorem desc_of_B {P : Program} {t : TypeId} {a : AD} (h : descB P t a = true) : DescOk P t a := by
  unfold descB at h
  split at h <;> (try simp only [Bool.and_eq_true, beq_iff_eq] at h) <;> first
    | (cases h; done)
    | (rename_i hu; exact hu)
    | (rename_i hu; subst h; exact hu)
    | (rename_i hu; obtain ⟨rfl, rfl⟩ := h; exact hu)
    | (rename_i hu; exact ⟨_, hu, h⟩)
    | (rename_i hu; exact ⟨_, _, _, hu⟩)
    | (rename_i hu; exact ⟨_, hu⟩)

def tyB (P : Program) (t : TypeId) (a : AT) : Bool :=
  (match P.info? t with
  | some i => i.size == a.size && i.bytes == a.bytes && (match i.zero with
    | some z => z.cells.size == i.size && closedsB a.zero z.cells.toList && isAggV z == a.d.isAgg
    | none => false)
  | none => false) && descB P t a.d && (!a.eqOk || (!P.eqGuardType P.depth t && !P.stoodInHeld t))
theorem ty_of_B {P : Program} {t : TypeId} {a : AT} (h : tyB P t a = true) : TyInfo P t a := by
  unfold tyB at h
  simp only [Bool.and_eq_true] at h
  obtain ⟨⟨h1, h2⟩, h3⟩ := h
  refine ⟨?_, desc_of_B h2, fun he => ?_, fun i z hi hz => ?_⟩
  · split at h1
    · rename_i i hi
      simp only [Bool.and_eq_true, beq_iff_eq] at h1
      obtain ⟨⟨a1, a2⟩, a3⟩ := h1
      split at a3
      · rename_i z hz
        simp only [Bool.and_eq_true, beq_iff_eq] at a3
        exact ⟨i, z, hi, a1, a2, hz, a3.1.1, closeds_of_B a3.1.2⟩
      · cases a3
    · cases h1
  · simpa [he] using h3
  · rw [hi] at h1
    simp only [hz, Bool.and_eq_true, beq_iff_eq] at h1
    exact h1.2.2

theorem tyOk_of_B {P : Program} {T : TT} {l : List (Nat × AT)} {z : AT} (hz : z.d = .other) (hT : T = fun t => ((l.find? fun p => p.1 == t).map (·.2)).getD z) (h : (l.all fun p => tyB P p.1 p.2) = true)
    (hs : (l.all fun p => p.2.d.subs.all fun e => (T e).d.known) = true) : TyOk P T :=
  tyOk_of_list hz hT (fun p hp => ty_of_B (List.all_eq_true.1 h p hp)) hs
end Go.Abs
