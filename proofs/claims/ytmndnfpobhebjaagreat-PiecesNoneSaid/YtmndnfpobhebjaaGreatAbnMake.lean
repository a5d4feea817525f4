/- copy, make, literals, conversions between bytes and strings: sound. -/
import Derived.Test.YtmndnfpobhebjaaGreatAbnApp2
namespace Go.Abs

theorem set_self {α : Type} {H : List α} {l : Nat} {v : α} (h : H[l]? = some v) : H.set l v = H := by
  apply List.ext_getElem?
  intro i
  by_cases e : l = i
  · subst e
    obtain ⟨h1, h2⟩ := List.getElem?_eq_some_iff.1 h
    rw [List.getElem?_set_self h1, h]
  · rw [List.getElem?_set_ne e]

section
variable {P : Program} {T : TT} (hT : TyOk P T)
include hT

theorem copy_sound {x : Cx} {H H' : AH} (hr : Rel x H) {dT xT ty : TypeId} {d a v : AV} {du au : Value} (hd : R x d du) (ha : R x a au) (h : acopy T H dT d a = some (v, H')) :
    OutV x H H' v ((Builtin.copy_ #[dT, xT] ty #[du, au]).run P x.w) := by
  unfold acopy at h
  split at h
  case h_2 => cases h
  rename_i e hdt
  split at h
  case isFalse => cases h
  rename_i hc
  obtain ⟨hfeed, hns⟩ := hc
  have hu := TyOk.desc hT hdt rfl
  simp only [DescOk] at hu
  have hk := hT.sub dT (by rw [hdt]; rfl) e (by rw [hdt]; simp [AD.subs])
  split at h
  case h_2 => cases h
  rename_i n m hn hm
  split at h
  case h_2 => cases h
  rename_i new hnw
  obtain ⟨nvs, n1, n2, n3, n4⟩ := acells_sound (P := P) hr ha hnw (feeds_str hfeed) (fun len hl => by rw [hm] at hl; cases hl; exact Nat.min_le_left _ _)
  have hml := alen_sound (P := P) ha hm x.w
  have n4' := n4 x.w rfl
  have hmin : Nat.min m n = min m n := rfl
  split at h
  · rename_i ex l off len sz
    split at h
    case isFalse => cases h
    rename_i hsz
    subst hsz
    simp only [Option.map_eq_some_iff] at h
    obtain ⟨H1, hw, h⟩ := h
    cases h
    simp only [alen, Option.some.injEq] at hn
    subst hn
    have hd0 := hd
    simp only [R] at hd
    obtain ⟨hN, _, cap, S, o, rfl, ho, hle, hcm, hex, hS, hSc⟩ := hd
    by_cases h0 : min m len = 0
    · -- nothing is copied
      have hnil : nvs = [] := List.length_eq_zero_iff.1 (by rw [n3, h0]; simp)
      subst hnil
      have hnn : new = [] := by simpa using n1.length.symm
      subst hnn
      have hH : H' = H := by
        unfold awrite at hw
        split at hw
        · rename_i cs hlc
          split at hw
          · cases hw
            have : splice cs off [] = cs := by simp [splice]
            rw [this, set_self hlc]
          · cases hw
        · cases hw
      subst hH
      refine OutV.pure hr rfl ?_
      simp [Builtin.copy_, run_underlying hu, hml, hmin, TyOk.size hT hk, h0, goInt]
      rw [h0] at n4'
      simp [n4', storeCells]
    · have ho' := ho (by omega)
      subst ho'
      obtain ⟨w', g1, g2, g3, g4⟩ := write_sound hr n1 n2 hw P
      refine ⟨_, _, ?_, g2, g3, g4, rfl⟩
      simp [Builtin.copy_, run_underlying hu, hml, hmin, TyOk.size hT hk, n4', g1, goInt]
  · rename_i hnr
    split at h
    case isFalse => cases h
    rename_i h0
    cases h
    have hnil : nvs = [] := List.length_eq_zero_iff.1 (by rw [n3, h0]; simp)
    subst hnil
    refine OutV.pure hr rfl ?_
    have hshape : ∃ base cap, du = .slice base n cap := by
      cases d <;> simp only [alen] at hn <;> first | (cases hn; done) | skip
      · cases hns
      · cases hn
        simp only [R] at hd
        rcases hd with ⟨_, rfl, _, rfl⟩ | ⟨_, b, o, cap, vs, rfl, hle, _⟩
        · exact ⟨_, _, rfl⟩
        · exact ⟨_, _, rfl⟩
      · exact (hnr _ _ _ _ _ rfl).elim
      · cases hn
        have hd := hd.weak
        simp only [AV.weak, R] at hd
        rcases hd with ⟨_, rfl, _, rfl⟩ | ⟨_, b, o, cap, vs, rfl, hle, _⟩
        · exact ⟨_, _, rfl⟩
        · exact ⟨_, _, rfl⟩
    obtain ⟨base, cap, rfl⟩ := hshape
    rw [h0] at n4'
    cases base <;> simp [Builtin.copy_, run_underlying hu, hml, hmin, TyOk.size hT hk, h0, storeCells, goInt, n4']
end
end Go.Abs
