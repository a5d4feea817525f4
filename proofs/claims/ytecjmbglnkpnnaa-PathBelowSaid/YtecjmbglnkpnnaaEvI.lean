import Derived.Test.YtecjmbglnkpnnaaEvH
namespace Go.Proofs.Ytecjmbglnkpnnaa
open Go.Abs
/-! the plain laws of splitting and joining -/
theorem joined_cons {x : List UInt8} {t : List (List UInt8)} : joined (x :: t) = 47 :: (x ++ joined t) := by simp [joined]
theorem joined_parts : ∀ (r cur : List UInt8), joined (partsGo r [] cur) = 47 :: (cur ++ r)
  | [], cur => by simp [partsGo, joined]
  | b :: r, cur => by
    rw [partsGo]
    by_cases h : b = 47
    · rw [if_pos h, partsGo_out, List.nil_append, List.singleton_append, joined_cons, joined_parts r [], h]
      simp
    · rw [if_neg h, joined_parts r (cur ++ [b])]
      simp
theorem parts_ne (r cur : List UInt8) : partsGo r [] cur ≠ [] := fun e => by
  have := joined_parts r cur
  rw [e] at this
  simp [joined] at this
theorem join_split (s : List UInt8) (h : (splitOf s).2 = 0) : joinOf (splitOf s).1 = s := by
  rw [refSplit_eq] at h ⊢
  unfold refSplit at h ⊢
  cases s with
  | nil => simp at h
  | cons b r =>
    simp only [] at h ⊢
    by_cases hb : b = 47
    · have hb' : ¬ b ≠ 47 := by simp [hb]
      rw [if_neg hb'] at h ⊢
      by_cases hr : r = []
      · rw [if_pos hr, hr, hb]; rfl
      · rw [if_neg hr] at h ⊢
        by_cases hn : (partsGo r [] []).all nameOf = true
        · rw [if_pos hn] at h ⊢
          by_cases h6 : (partsGo r [] []).length > 6
          · rw [if_pos h6] at h; simp at h
          · rw [if_neg h6, joinOf, if_neg (by simp [parts_ne]), joined_parts, hb]
            rfl
        · rw [if_neg hn] at h; simp at h
    · rw [if_pos hb] at h; simp at h
theorem partsGo_word : ∀ (y rest : List UInt8) (out : List (List UInt8)) (cur : List UInt8), 47 ∉ y → partsGo (y ++ rest) out cur = partsGo rest out (cur ++ y)
  | [], rest, out, cur, _ => by simp
  | b :: y, rest, out, cur, h => by
    simp only [List.mem_cons, not_or] at h
    rw [List.cons_append, partsGo, if_neg (fun e => h.1 e.symm), partsGo_word y rest out _ h.2]
    simp
theorem name_no47 {y : List UInt8} (h : nameOf y = true) : 47 ∉ y ∧ y ≠ [] := by
  unfold nameOf at h
  simp only [Bool.and_eq_true, Bool.not_eq_true', beq_eq_false_iff_ne, List.all_eq_true] at h
  refine ⟨fun hm => ?_, h.1.1.1.1⟩
  have := h.2 47 hm
  exact absurd this (by decide)
theorem partsGo_joined : ∀ (t : List (List UInt8)) (out : List (List UInt8)) (cur : List UInt8), (∀ y ∈ t, nameOf y = true) → partsGo (joined t) out cur = out ++ [cur] ++ t
  | [], out, cur, _ => by simp [joined, partsGo]
  | x :: t, out, cur, h => by
    rw [joined_cons, partsGo, if_pos rfl, partsGo_word x _ _ _ (name_no47 (h x (by simp))).1, partsGo_joined t _ _ (fun y hy => h y (by simp [hy]))]
    simp
theorem split_join (l : List (List UInt8)) (h : ∀ y ∈ l, nameOf y = true) (h6 : l.length ≤ 6) : splitOf (joinOf l) = (l, 0) := by
  rw [refSplit_eq]
  cases l with
  | nil => rfl
  | cons x t =>
    have hx := name_no47 (h x (by simp))
    rw [joinOf, if_neg (by simp), joined_cons]
    unfold refSplit
    simp only []
    rw [if_neg (by simp), if_neg (by simp [hx.2]), partsGo_word x _ _ _ hx.1, partsGo_joined t _ _ (fun y hy => h y (by simp [hy]))]
    simp only [List.nil_append, List.singleton_append]
    rw [if_pos (by simpa using h), if_neg (by omega)]
end Go.Proofs.Ytecjmbglnkpnnaa
