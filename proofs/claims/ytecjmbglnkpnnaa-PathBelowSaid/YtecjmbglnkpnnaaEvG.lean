import Derived.Test.YtecjmbglnkpnnaaEvF
namespace Go.Proofs.Ytecjmbglnkpnnaa
open Go.Abs

/-! the reference's split, and that it is the package's -/
def partsGo : List UInt8 → List (List UInt8) → List UInt8 → List (List UInt8)
  | [], out, cur => out ++ [cur]
  | b :: r, out, cur => if b = 47 then partsGo r (out ++ [cur]) [] else partsGo r out (cur ++ [b])
theorem partsGo_out : ∀ (r : List UInt8) (out : List (List UInt8)) (cur : List UInt8), partsGo r out cur = out ++ partsGo r [] cur
  | [], out, cur => by simp [partsGo]
  | b :: r, out, cur => by
    unfold partsGo
    by_cases h : b = 47
    · rw [if_pos h, if_pos h, partsGo_out r (out ++ [cur]), partsGo_out r ([] ++ [cur])]
      simp
    · rw [if_neg h, if_neg h]
      exact partsGo_out r out _
theorem splitGo_parts (s : List UInt8) : ∀ (d i frm : Nat) (out : List (List UInt8)), i + d = s.length + 1 → frm ≤ i → 0 < d →
    splitGo s d i frm out = if (partsGo (s.drop i) [] ((s.take i).drop frm)).all nameOf = true then some (out ++ partsGo (s.drop i) [] ((s.take i).drop frm)) else none
  | 0, _, _, _, _, _, h => absurd h (Nat.lt_irrefl 0)
  | d + 1, i, frm, out, hid, hf, _ => by
    rcases Nat.lt_or_ge i s.length with hil | hil
    · obtain ⟨b, hb⟩ : ∃ b, s[i]? = some b := ⟨s[i], List.getElem?_eq_getElem hil⟩
      have hdrop : s.drop i = b :: s.drop (i + 1) := by
        rw [List.drop_eq_getElem_cons hil]
        rw [List.getElem?_eq_getElem hil] at hb
        cases hb
        rfl
      have htake : (s.take (i + 1)).drop frm = (s.take i).drop frm ++ [b] := by
        rw [List.take_add_one, hb, List.drop_append_of_le_length (by simp; omega)]
        rfl
      rw [hdrop]
      by_cases h47 : b = 47
      · rw [splitGo, if_neg (by rw [hb, h47]; simp)]
        rw [partsGo, if_pos h47, partsGo_out]
        by_cases hn : nameOf ((s.take i).drop frm) = true
        · have ih := splitGo_parts s d (i + 1) (i + 1) (out ++ [(s.take i).drop frm]) (by omega) (Nat.le_refl _) (by omega)
          have h0 : (s.take (i + 1)).drop (i + 1) = [] := by simp
          rw [h0] at ih
          rw [if_pos hn, ih]
          simp [hn]
        · rw [if_neg hn, if_neg]
          simp [hn]
      · rw [splitGo, if_pos ⟨hil, by rw [hb]; simp [h47]⟩, partsGo, if_neg h47]
        rw [splitGo_parts s d (i + 1) frm out (by omega) (by omega) (by omega), htake]
    · have hd : d = 0 := by omega
      subst hd
      have hdrop : s.drop i = [] := List.drop_eq_nil_of_le hil
      rw [hdrop, splitGo, if_neg (by omega), partsGo]
      by_cases hn : nameOf ((s.take i).drop frm) = true
      · rw [if_pos hn, splitGo]
        simp [hn]
      · rw [if_neg hn, if_neg]
        simp [hn]
def refSplit (s : List UInt8) : List (List UInt8) × Int :=
  match s with
  | [] => ([], 2)
  | b :: r => if b ≠ 47 then ([], 2) else if r = [] then ([], 0) else if (partsGo r [] []).all nameOf = true then (if (partsGo r [] []).length > 6 then ([], 16) else (partsGo r [] [], 0)) else ([], 15)
theorem refSplit_eq (s : List UInt8) : splitOf s = refSplit s := by
  unfold splitOf refSplit
  cases s with
  | nil => rfl
  | cons b r =>
    simp only []
    by_cases hb : b = 47
    · by_cases hr : r = []
      · simp [hb, hr]
      · have hb' : ¬ b ≠ 47 := by simp [hb]
        rw [if_neg hb', if_neg hb', if_neg hr, if_neg hr]
        rw [splitGo_parts (b :: r) (b :: r).length 1 1 [] (by simp; omega) (Nat.le_refl _) (by simp)]
        have h1 : (b :: r).drop 1 = r := rfl
        have h2 : ((b :: r).take 1).drop 1 = [] := by simp
        rw [h1, h2]
        by_cases hn : (partsGo r [] []).all nameOf = true
        · rw [if_pos hn, if_pos hn]
          simp
        · rw [if_neg hn, if_neg hn]
    · rw [if_pos hb, if_pos hb]
end Go.Proofs.Ytecjmbglnkpnnaa
