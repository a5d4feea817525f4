/- The law's own first run: it is told by running it. -/
import Derived.Test.YtbdomlbmbcnaeaaTab
namespace Go.Proofs.Ytbdomlbmbcnaeaa
open Go.Abs
theorem awake_run : comesTo (rCall T G0 fns (fun _ _ _ => none) 60 9 [] []) (.bool true) = true := by kernel_rfl
def awakeF : Option Bool := some true
theorem awakeF_ev {r : Bool} (h : awakeF = some r) : EvCall Try.prog T G0 9 [] [] (fun v H' => v = .bool r ∧ H' = []) := by
  cases h
  exact run_at (C := rCall T G0 fns (fun _ _ _ => none) 60) (runs 60) rfl rfl awake_run [] ⟨rfl, rfl⟩
end Go.Proofs.Ytbdomlbmbcnaeaa
