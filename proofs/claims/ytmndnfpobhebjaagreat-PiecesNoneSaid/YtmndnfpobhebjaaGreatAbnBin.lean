/- Operators on abstract values are the model's. -/
import Derived.Test.YtmndnfpobhebjaaGreatAbnEq
namespace Go.Abs
section
variable {P : Program} {T : TT} (hT : TyOk P T)
include hT

theorem TyOk.desc {t : TypeId} {d : AD} (h : (T t).d = d) (hk : d.known = true) : DescOk P t d := by
  subst h
  exact (hT.ty t hk).desc

theorem aeq_sound {x : Cx} : ∀ (d : Nat) (t : TypeId) (a b : AV) (u v : Value) (r : Bool) (w : World), R x a u → R x b v → aeq T d t a b = some r → (Op.equalIn d t u v).run P w = .ok r w
  | 0, t, a, b, u, v, r, w, ha, hb, h => by simp [aeq] at h
  | d + 1, t, a, b, u, v, r, w, ha, hb, h => by
    have ih := fun t a b u v r w => aeq_sound (x := x) d t a b u v r w
    unfold aeq at h
    split at h
    · rename_i hd
      have hu := TyOk.desc hT hd rfl
      simp only [DescOk] at hu
      simp only [R] at ha hb; subst ha hb
      cases h
      simp [Op.equalIn, run_underlying hu]
    · rename_i hd
      have hu := TyOk.desc hT hd rfl
      simp only [DescOk] at hu
      simp only [R] at ha hb; subst ha hb
      split at h
      · rename_i hk
        subst hk
        cases h
        simp [Op.equalIn, run_underlying hu]
      · cases h
    · rename_i hd
      have hu := TyOk.desc hT hd rfl
      simp only [DescOk] at hu
      simp only [R] at ha hb; subst ha hb
      cases h
      rw [run_equalIn_string w d t _ _ hu, toList_bytes, toList_bytes]
    · rename_i hd
      have hu := TyOk.desc hT hd rfl
      simp only [DescOk] at hu
      simp only [R] at ha hb; subst ha hb
      cases h
      simp [Op.equalIn, run_underlying hu]
    · rename_i hd
      have hu := TyOk.desc hT hd rfl
      simp only [DescOk] at hu
      simp only [R] at ha hb; subst ha; obtain ⟨_, _, rfl⟩ := hb
      cases h
      simp [Op.equalIn, run_underlying hu]
    · rename_i hd
      have hu := TyOk.desc hT hd rfl
      simp only [DescOk] at hu
      simp only [R] at ha hb; subst hb; obtain ⟨_, _, rfl⟩ := ha
      cases h
      simp [Op.equalIn, run_underlying hu]
    · rename_i hd
      have hu := TyOk.desc hT hd rfl
      simp only [DescOk] at hu
      simp only [R] at ha hb
      cases h
      rcases hb with ⟨_, rfl, _⟩ | ⟨hb, _⟩
      · rcases ha with ⟨hn, rfl, _⟩ | ⟨hn, b0, o, cap, vs, rfl, _⟩
        · subst hn; simp [Op.equalIn, run_underlying hu]
        · subst hn; simp [Op.equalIn, run_underlying hu]
      · cases hb
    · rename_i hd
      have hu := TyOk.desc hT hd rfl
      simp only [DescOk] at hu
      simp only [R] at ha hb
      cases h
      rcases hb with ⟨_, rfl, _⟩ | ⟨hb, _⟩
      · rcases ha with ⟨_, ⟨hn, rfl, _⟩ | ⟨hn, b0, o, cap, vs, rfl, _⟩⟩
        · subst hn; simp [Op.equalIn, run_underlying hu]
        · subst hn; simp [Op.equalIn, run_underlying hu]
      · cases hb
    · rename_i hd
      have hu := TyOk.desc hT hd rfl
      simp only [DescOk] at hu
      simp only [R] at ha hb
      cases h
      rcases hb with ⟨_, rfl, _⟩ | ⟨hb, _⟩
      · obtain ⟨_, _, cap, S, o, rfl, _⟩ := ha
        simp [Op.equalIn, run_underlying hu]
      · cases hb
    · rename_i hd
      have hu := TyOk.desc hT hd rfl
      simp only [DescOk] at hu
      simp only [R] at ha hb; subst ha hb
      cases h
      simp [Op.equalIn, run_underlying hu]
    · rename_i hd
      have hu := TyOk.desc hT hd rfl
      simp only [DescOk] at hu
      simp only [R] at ha hb; subst hb; obtain ⟨_, _, rfl⟩ := ha
      cases h
      simp [Op.equalIn, run_underlying hu]
    · rename_i hd
      have hu := TyOk.desc hT hd rfl
      simp only [DescOk] at hu
      obtain ⟨_, _, _, hu⟩ := hu
      simp only [R] at ha hb; subst ha hb
      cases h
      simp [Op.equalIn, run_underlying hu]
    · rename_i hd
      have hu := TyOk.desc hT hd rfl
      simp only [DescOk] at hu
      obtain ⟨_, _, _, hu⟩ := hu
      simp only [R] at ha hb; subst hb; obtain ⟨_, _, rfl, _⟩ := ha
      cases h
      simp [Op.equalIn, run_underlying hu]
    · rename_i fs xs ys hd
      have hu := TyOk.desc hT hd rfl
      simp only [DescOk] at hu
      obtain ⟨fields, hu, rfl⟩ := hu
      simp only [R] at ha hb
      obtain ⟨hac, us, rfl, ha⟩ := ha
      obtain ⟨hbc, vs, rfl, hb⟩ := hb
      split at h
      · rename_i he
        have hf : P.fieldsOf t = fields := by simp [Program.fieldsOf, hu]
        have hs := (hT.ty t (by rw [hd]; rfl)).eq he
        rw [run_equalIn_struct w d t _ _ (by rw [hf]; exact hu) hs.2, hf]
        exact eqFields_sound hT d ih ha hac hb hbc _ r w h
      · cases h
    · rename_i n e xs ys hd
      have hu := TyOk.desc hT hd rfl
      simp only [DescOk] at hu
      simp only [R] at ha hb
      obtain ⟨hac, us, rfl, ha⟩ := ha
      obtain ⟨hbc, vs, rfl, hb⟩ := hb
      have hk := hT.sub t (by rw [hd]; rfl) e (by rw [hd]; simp [AD.subs])
      obtain ⟨i, z, hi, hs, _⟩ := (hT.ty e hk).info
      split at h
      · rw [run_equalIn_array w d _ _ hu hi, show P.cellsOf e = (T e).size by simp [Program.cellsOf, hi, hs]]
        exact eqItems_sound hT d ih ha hac hb hbc _ r w h
      · cases h
    · cases h

theorem aeq_guard {x : Cx} {d : Nat} {t : TypeId} {a b : AV} {u v : Value} {r : Bool} (ha : R x a u) (hb : R x b v) (h : aeq T d t a b = some r) (op : BinOp) (o p : Operand) (w : World) : (eqGuard op t o p u v).run P w = .ok () w := by
  cases d with
  | zero => simp [aeq] at h
  | succ d =>
    unfold aeq at h
    split at h
    all_goals first
      | (cases h; done)
      | (simp only [R] at ha hb
         first
           | (subst ha hb; unfold eqGuard; simp; done)
           | (subst ha; obtain ⟨_, _, rfl⟩ := hb; unfold eqGuard; simp; done)
           | (subst hb; obtain ⟨_, _, rfl⟩ := ha; unfold eqGuard; simp; done)
           | (subst hb; obtain ⟨_, _, rfl, _⟩ := ha; unfold eqGuard; simp; done)
           | (rcases hb with ⟨_, rfl, _⟩ | ⟨_, _, _, _, _, rfl, _⟩ <;> rcases ha with ⟨_, rfl, _⟩ | ⟨_, _, _, _, _, rfl, _⟩ <;> unfold eqGuard <;> simp; done)
           | (rcases hb with ⟨_, rfl, _⟩ | ⟨_, _, _, _, _, rfl, _⟩ <;> rcases ha with ⟨_, ⟨_, rfl, _⟩ | ⟨_, _, _, _, _, rfl, _⟩⟩ <;> unfold eqGuard <;> simp; done)
           | (rcases hb with ⟨_, rfl, _⟩ | ⟨_, _, _, _, _, rfl, _⟩ <;> obtain ⟨_, _, _, _, _, rfl, _⟩ := ha <;> unfold eqGuard <;> simp; done)
           | skip)
    · rename_i hd
      obtain ⟨_, us, rfl, _⟩ := ha
      obtain ⟨_, vs, rfl, _⟩ := hb
      split at h
      · rename_i he
        exact run_eqGuard_agg w op t o p _ _ ((hT.ty t (by rw [hd]; rfl)).eq he).1
      · cases h
    · rename_i hd
      obtain ⟨_, us, rfl, _⟩ := ha
      obtain ⟨_, vs, rfl, _⟩ := hb
      split at h
      · rename_i he
        exact run_eqGuard_agg w op t o p _ _ ((hT.ty t (by rw [hd]; rfl)).eq he).1
      · cases h
end
end Go.Abs
