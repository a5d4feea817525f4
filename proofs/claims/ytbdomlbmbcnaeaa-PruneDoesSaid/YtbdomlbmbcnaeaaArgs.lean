/- The arguments of these laws, opened all the way. -/
import Derived.Test.YtbdomlbmbcnaeaaAbnC
import Derived.Test.YtbdomlbmbcnaeaaDecA
namespace Go.Proofs.Ytbdomlbmbcnaeaa
open Go.Abs
theorem opens_held : Opens Try.prog 41 cHeld (fun _ => True) := fun H enc W base held fuel cs x h => by
  obtain ⟨y, h1, _⟩ := opens_s2 (P := Try.prog) (t := 41) (c := cHeld) Held.mk (fun _ _ => rfl) Try.underlying41 rfl (opens_int Try.underlying3) (opens_int Try.underlying3) ⟨rfl, by kernel_rfl, by kernel_rfl⟩ H enc W base held fuel cs x h
  exact ⟨y, h1, trivial⟩
theorem opens_helds : Opens Try.prog 27 (cL cHeld) (fun s => s.l.length ≤ maxLen ∧ ∀ y ∈ s.l, True) :=
  opens_slice Try.underlying27 opens_held len_cHeld (by kernel_rfl) (by decide) (fun y a ha => by
    simp only [cHeld, cI, List.mem_append, List.mem_singleton] at ha
    rcases ha with rfl | rfl <;> rfl)
theorem opens_act : Opens Try.prog 33 cAffidavitlaw24_Act (fun a => a.L.l.length ≤ maxLen) := fun H enc W base held fuel cs x h => by
  obtain ⟨y, h1, a, b, d, rfl, _, _, h2⟩ := opens_s3 (P := Try.prog) (t := 33) (c := cAffidavitlaw24_Act) Affidavitlaw24_Act.mk (fun _ _ _ => rfl) Try.underlying33 rfl (opens_int Try.underlying3) (opens_int Try.underlying3) opens_helds ⟨rfl, by kernel_rfl, by kernel_rfl, by kernel_rfl⟩ H enc W base held fuel cs x h
  exact ⟨_, h1, h2.1⟩
theorem opens_acts : Opens Try.prog 22 (cL cAffidavitlaw24_Act) (fun s => s.l.length ≤ maxLen ∧ ∀ y ∈ s.l, y.L.l.length ≤ maxLen) :=
  opens_slice Try.underlying22 opens_act len_cAffidavitlaw24_Act (by kernel_rfl) (by decide) (fun y a ha => by
    simp only [cAffidavitlaw24_Act, cI, cL, List.mem_append, List.mem_singleton] at ha
    rcases ha with (rfl | rfl) | rfl <;> rfl)
end Go.Proofs.Ytbdomlbmbcnaeaa
