/- A row's slice of strings, as an argument of the abstract law. -/
import Derived.Test.YtecjmbglnkpnnaaAbsBuf
import Derived.SliceStrings
import Derived.WideShapes
namespace Go.Abs
theorem RL.strs {x : Cx} : ∀ (ss : List ByteArray), RL x (ss.map fun s => AV.str s.data.toList) (ss.map Value.string)
  | [] => by simp [RL]
  | s :: ss => by
    simp only [List.map_cons, RL]
    exact ⟨_, _, rfl, by simp [R], RL.strs ss⟩
theorem R.strs {W : World} {a : Addr} {len cap : Nat} {ss : List ByteArray} (hspot : a.spot = none) (hl : len ≤ cap) (hm : cap ≤ maxLen) (hss : len ≤ ss.length) (hcell : ∀ i, i < ss.length → W.cell? (a.add i) = some (.string (ss.getD i ByteArray.empty))) :
    R (Cx.start W) (.lit false false ((ss.take len).map fun s => AV.str s.data.toList) len) (.slice (some a) len cap) := by
  obtain ⟨b, o, sp⟩ := a
  simp only at hspot
  subst hspot
  simp only [R]
  refine .inr ⟨trivial, b, o, cap, (ss.take len).map Value.string, rfl, hl, hm, by simp, RL.strs _, fun c hc => ?_, ?_, fun i u hu => ?_⟩
  · obtain ⟨s, _, rfl⟩ := List.mem_map.1 hc
    rfl
  · cases hs : ss.take len with
    | nil => exact .inl rfl
    | cons s r =>
      right
      have h0 : 0 < ss.length := by
        cases ss with
        | nil => simp at hs
        | cons _ _ => simp
      have := World.block_lt_of_cell? W _ (hcell 0 h0)
      show b < W.heap.size
      simpa [Addr.add] using this
  · show W.cell? ⟨b, o + i, none⟩ = some u
    rw [List.getElem?_map, Option.map_eq_some_iff] at hu
    obtain ⟨s, hs, rfl⟩ := hu
    have hi := (List.getElem?_eq_some_iff.1 hs).1
    rw [List.length_take] at hi
    rw [List.getElem?_take_of_lt (by omega)] at hs
    have := hcell i (by omega)
    rw [List.getD_eq_getElem?_getD, hs] at this
    by_cases h0 : i = 0
    · subst h0
      simpa [Addr.add] using this
    · simpa [Addr.add, h0] using this
theorem R.nilsl {x : Cx} : R x (.lit true true [] 0) (.slice none 0 0) := by simp [R]
end Go.Abs
