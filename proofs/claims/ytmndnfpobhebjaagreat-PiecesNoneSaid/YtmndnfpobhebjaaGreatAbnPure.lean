/- Operators, unary operators, conversions between numbers. -/
import Derived.Test.YtmndnfpobhebjaaGreatAbnBin
namespace Go.Abs

theorem aarith_sound {op : BinOp} {k : IntKind} {a b : Int} {r : AV} {x : Cx} (h : aarith op k a b = some r) (P : Program) (t : TypeId) (w : World) : ∃ q, (Go.binOp op t (.int k a) (.int k b)).run P w = .ok q w ∧ R x r q := by
  cases op <;> simp only [aarith, ile_eq, dle_not] at h
  case quo =>
    split at h
    · cases h
    · rename_i hb
      cases h
      exact ⟨_, by simp [Go.binOp, Op.intDiv, hb], rfl⟩
  case rem =>
    split at h
    · cases h
    · rename_i hb
      cases h
      exact ⟨_, by simp [Go.binOp, Op.intDiv, hb], rfl⟩
  all_goals first
    | (cases h; done)
    | (cases h; exact ⟨_, by simp [Go.binOp, Op.intArith, Op.intBits, Op.intCmp], rfl⟩)

theorem ashift_sound {op : BinOp} {k k' : IntKind} {a b : Int} {r : AV} {x : Cx} (h : ashift op k a b = some r) (P : Program) (t : TypeId) (w : World) : ∃ q, (Go.binOp op t (.int k a) (.int k' b)).run P w = .ok q w ∧ R x r q := by
  unfold ashift at h
  split at h
  · cases h
  · rename_i hb
    cases op <;> simp only at h <;> first
      | (cases h; done)
      | (cases h; exact ⟨_, by simp [Go.binOp, Op.shift, hb], rfl⟩)

theorem astr_sound {op : BinOp} {a b : List UInt8} {r : AV} {x : Cx} (h : astr op a b = some r) (P : Program) (t : TypeId) (w : World) : ∃ q, (Go.binOp op t (.string ⟨a.toArray⟩) (.string ⟨b.toArray⟩)).run P w = .ok q w ∧ R x r q := by
  cases op <;> simp only [astr] at h
  case add =>
    split at h
    · rename_i hl
      cases h
      have h2 : ¬ (9223372036854775807 : Int) < ((a.length + b.length : Nat) : Int) := by omega
      refine ⟨.string (⟨a.toArray⟩ ++ ⟨b.toArray⟩), ?_, ?_⟩
      · have hs : (ByteArray.size ⟨a.toArray⟩ + ByteArray.size ⟨b.toArray⟩ : Nat) = a.length + b.length := by simp [ByteArray.size]
        simp only [Go.binOp, Op.stringOp, hs]
        rw [if_neg (by simpa [IntKind.max, IntKind.signed, IntKind.bits] using h2)]
        rfl
      · simp only [R]
        congr 1
    · cases h
  all_goals first
    | (cases h; done)
    | (cases h; exact ⟨_, by simp only [Go.binOp, Op.stringOp, toList_bytes]; rfl, by simp [R]⟩)

theorem aun_sound {op : UnOp} {a r : AV} {u : Value} {x : Cx} (ha : R x a u) (h : aun op a = some r) (P : Program) (w : World) : ∃ q, (Op.unary op u).run P w = .ok q w ∧ R x r q := by
  unfold aun at h
  split at h
  · cases h; simp only [R] at ha; subst ha
    exact ⟨_, rfl, rfl⟩
  · cases h; simp only [R] at ha; subst ha
    exact ⟨_, rfl, rfl⟩
  · cases h; simp only [R] at ha; subst ha
    exact ⟨_, rfl, rfl⟩
  · cases h

section
variable {P : Program} {T : TT} (hT : TyOk P T)
include hT
theorem abin_sound {op : BinOp} {t : TypeId} {a b r : AV} {u v : Value} {x : Cx} (ha : R x a u) (hb : R x b v) (h : abin T op t a b = some r) (o p : Operand) (w : World) :
    ∃ q, (do eqGuard op t o p u v; Go.binOp op t u v : Sem Value).run P w = .ok q w ∧ R x r q := by
  unfold abin at h
  split at h
  · rename_i k a k' b
    simp only [R] at ha hb; subst ha hb
    have hg : (eqGuard op t o p (.int k a) (.int k' b)).run P w = .ok () w := by unfold eqGuard; cases op <;> simp
    simp only [Sem.run_bind, hg, Result.andThen_ok]
    split at h
    · exact ashift_sound h P t w
    · exact ashift_sound h P t w
    · split at h
      · rename_i hk
        subst hk
        exact aarith_sound h P t w
      · cases h
  · rename_i a b
    simp only [R] at ha hb; subst ha hb
    have hg : (eqGuard op t o p (.string ⟨a.toArray⟩) (.string ⟨b.toArray⟩)).run P w = .ok () w := by unfold eqGuard; cases op <;> simp
    simp only [Sem.run_bind, hg, Result.andThen_ok]
    exact astr_sound h P t w
  · rename_i h1 h2
    have key : ∀ r', aeq T 10000 t a b = some r' → (Op.equal t u v).run P w = .ok r' w := fun r' hr => aeq_sound hT 10000 t a b u v r' w ha hb hr
    have hne : ∀ r', aeq T 10000 t a b = some r' → Go.binOp .eql t u v = (do pure (.bool (← Op.equal t u v))) ∧ Go.binOp .neq t u v = (do pure (.bool (!(← Op.equal t u v)))) := by
      intro r' hr
      unfold aeq at hr
      split at hr
      all_goals first
        | (cases hr; done)
        | exact (h1 _ _ _ _ rfl rfl).elim
        | exact (h2 _ _ rfl rfl).elim
        | (simp only [R] at ha hb
           first
             | (subst ha hb; exact ⟨rfl, rfl⟩)
             | (subst ha; obtain ⟨_, _, rfl⟩ := hb; exact ⟨rfl, rfl⟩)
             | (subst hb; obtain ⟨_, _, rfl⟩ := ha; exact ⟨rfl, rfl⟩)
             | (subst hb; obtain ⟨_, _, rfl, _⟩ := ha; exact ⟨rfl, rfl⟩)
             | (rcases hb with ⟨_, rfl, _⟩ | ⟨_, _, _, _, _, rfl, _⟩ <;> rcases ha with ⟨_, rfl, _⟩ | ⟨_, _, _, _, _, rfl, _⟩ <;> exact ⟨rfl, rfl⟩)
             | (rcases hb with ⟨_, rfl, _⟩ | ⟨_, _, _, _, _, rfl, _⟩ <;> rcases ha with ⟨_, ⟨_, rfl, _⟩ | ⟨_, _, _, _, _, rfl, _⟩⟩ <;> exact ⟨rfl, rfl⟩)
             | (rcases hb with ⟨_, rfl, _⟩ | ⟨_, _, _, _, _, rfl, _⟩ <;> obtain ⟨_, _, _, _, _, rfl, _⟩ := ha <;> exact ⟨rfl, rfl⟩)
             | (obtain ⟨_, _, rfl, _⟩ := ha; obtain ⟨_, _, rfl, _⟩ := hb; exact ⟨rfl, rfl⟩))
    split at h
    · simp only [Option.map_eq_some_iff] at h
      obtain ⟨r', h3, rfl⟩ := h
      refine ⟨.bool r', ?_, rfl⟩
      rw [(hne r' h3).1]
      simp [aeq_guard hT ha hb h3, key r' h3]
    · simp only [Option.map_eq_some_iff] at h
      obtain ⟨r', h3, rfl⟩ := h
      refine ⟨.bool (!r'), ?_, rfl⟩
      rw [(hne r' h3).2]
      simp [aeq_guard hT ha hb h3, key r' h3]
    · cases h
end
end Go.Abs
