/- Places that are named lie in the heap: appending keeps that. -/
import Derived.Test.YtmndnfpobhebjaaGreatAbnTree
namespace Go.Abs
theorem lows_iff {n : Nat} : ∀ {l : List AV}, lows n l = true ↔ ∀ a ∈ l, a.low n = true
  | [] => by simp [lows]
  | a :: l => by simp [lows, lows_iff (l := l)]
theorem WF.set {H : AH} (hW : WF H) {l : Nat} {b : AB} (hb : b.low H.length = true) : WF (H.set l b) := by
  intro c hc
  rw [List.length_set]
  rcases List.mem_or_eq_of_mem_set hc with h | rfl
  · exact hW c h
  · exact hb
end Go.Abs
