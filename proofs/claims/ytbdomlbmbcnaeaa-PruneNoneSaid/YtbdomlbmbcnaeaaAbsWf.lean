/- Places that are named lie in the heap: appending keeps that. -/
import Derived.Test.YtbdomlbmbcnaeaaAbsBuf
namespace Go.Abs
theorem lows_iff {n : Nat} : ∀ {l : List AV}, lows n l = true ↔ ∀ a ∈ l, a.low n = true
  | [] => by simp [lows]
  | a :: l => by simp [lows, lows_iff (l := l)]
theorem acells_low {H : AH} (hW : WF H) {x : AV} {n : Nat} {cs : List AV} (hx : x.low H.length = true) (h : acells H n x = some cs) : lows H.length cs = true := by
  unfold acells at h
  split at h
  · split at h
    · cases h
      simp only [AV.low] at hx
      exact lows_iff.2 fun a ha => lows_iff.1 hx a (List.mem_of_mem_take ha)
    · cases h
  · split at h
    · rename_i hl
      split at h
      · cases h
        have := hW _ (List.mem_of_getElem? hl)
        simp only [AB.low] at this
        exact lows_iff.2 fun a ha => lows_iff.1 this a (List.mem_of_mem_drop (List.mem_of_mem_take ha))
      · cases h
    · cases h
  · split at h
    · cases h
      refine lows_iff.2 fun a ha => ?_
      obtain ⟨b, _, rfl⟩ := List.mem_map.1 ha
      rfl
    · cases h
  · cases h
theorem WF.set {H : AH} (hW : WF H) {l : Nat} {b : AB} (hb : b.low H.length = true) : WF (H.set l b) := by
  intro c hc
  rw [List.length_set]
  rcases List.mem_or_eq_of_mem_set hc with h | rfl
  · exact hW c h
  · exact hb
theorem aappend_wf {T : TT} {H H' : AH} {t u : TypeId} {s x v : AV} (hW : WF H) (hs : s.low H.length = true) (hx : x.low H.length = true) (h : aappend T H t u s x = some (v, H')) : WF H' := by
  unfold aappend at h
  split at h
  · split at h
    · split at h
      · split at h
        · rename_i old new ho hn
          have hlow : lows H.length (old ++ new) = true := lows_iff.2 fun a ha => by
            rcases List.mem_append.1 ha with h | h
            · exact lows_iff.1 (acells_low hW hs ho) a h
            · exact lows_iff.1 (acells_low hW hx hn) a h
          split at h
          · cases h; exact hW
          · split at h
            · split at h
              · cases h
                exact hW.snoc (lows_mono (Nat.le_succ _) _ hlow)
              · split at h
                · cases h
                  exact hW.snoc (lows_mono (Nat.le_succ _) _ hlow)
                · cases h
              · split at h
                · cases h
                  refine (hW.set (b := .dead) rfl).snoc ?_
                  rw [List.length_set]
                  exact lows_mono (Nat.le_succ _) _ hlow
                · cases h
              · cases h
            · cases h
        · cases h
      · cases h
    · cases h
  · cases h
theorem Buf.low {B H : AH} {x : AV} {cs : List AV} (h : Buf B H x cs) : x.low H.length = true := by
  rcases h.shape with ⟨nl, rfl, rfl⟩ | ⟨ex, l, rfl, _, hl⟩
  · rfl
  · simp only [AV.low, decide_eq_true_eq]
    exact (List.getElem?_eq_some_iff.1 hl).1
theorem Buf.ref {H : AH} {ex : Bool} {cs : List AV} : Buf H (H ++ [.cells cs]) (.ref ex H.length 0 cs.length 1) cs := ⟨⟨_, rfl⟩, .inr ⟨ex, H.length, rfl, Nat.le_refl _, by simp⟩⟩
end Go.Abs
