/- The row of the law PruneDoes: what its functions come to, and the plain law; joined by the row's builders. No conditions. -/
import Derived.Test.YtbdomlbmbcnaeaaRows
import Derived.Test.YtbdomlbmbcnaeaaArgs
import Derived.Test.YtbdomlbmbcnaeaaMath
import Derived.WalkKit
import Derived.ProofKit
import Derived.OpenShut
import Derived.Below
import Derived.SizedLaws
namespace Go.Proofs.Ytbdomlbmbcnaeaa.pruneDoes
open Go.ChangeShapes Go.WideShapes Go.ChangeAt Go.RowKit Go.Abs
theorem own : ownKnob Try.prog.godebug = none := by kernel_rfl
theorem laidOut : laidOutB Try.prog = true := by kernel_rfl
theorem walk (v0 : Value) (W : World) (h0 : ∃ s : Sl Affidavitlaw24_Act, R (Cx.start W) (sl cAffidavitlaw24_Act s) v0 ∧ s.l.length ≤ maxLen ∧ ∀ a ∈ s.l, a.L.l.length ≤ maxLen) : Calls Try.prog 6 #[v0] W fun e W' => e = .returned (.bool true) ∧ RowKit.Below W.heap.size W W' := by
  obtain ⟨s, h0, hs, hL⟩ := h0
  exact law_calls (T := T) tyOk (G := G0) (f := 6) (args := [sl cAffidavitlaw24_Act s]) (b := true) (vs := [v0]) ((l24_PruneDoes_ev (does_holds s (by unfold maxLen at hs; omega))).mono fun v H' h => h.1)
    (RL.cons' h0 RL.nil') (no_globals fun _ => rfl)
set_option maxRecDepth 100000 in
theorem lifted (os : Os) (started : os.Started) (H : Type) (enc : TypeId × Value → H) :
    ReturnsInHanded {} Try.checked os 6 .any (Rows.pruneDoesSpec.pre6 enc Try.prog Try.f6 Rows.pruneDoesRow.domain false) (Rows.pruneDoesSpec.post enc Try.prog Try.f6 false true false false) := by
  refine returnsInHanded_of_change_sized (C := Try.checked) own started (by kernel_rfl) Try.func6
    (ChangeSpec.witness6 (enc := enc) (C := Try.checked) false ⟨#[], #[.slice none 0 0], []⟩ 8 (by kernel_rfl) (by kernel_rfl) (by kernel_rfl) (by kernel_rfl)) ?_
  intro W base args ds gs before hval0 hW hcnd hsz0 _
  have hval : ∀ (j : Nat) t v, Try.f6.params[j]? = some t → args[j]? = some v → Value.okWide Try.prog W .any base t v := hval0
  have hW' := hW
  obtain ⟨p, q, hA0, hV, rfl, hfz, hnd⟩ := hW
  have hA : DataW.TrodAll enc Try.prog W 0 (fun _ => true) true Try.f6.params.toList args.toList ds p := hA0
  rw [Try.params6] at hA hval
  obtain ⟨v0, vs0, d0, ds0, p0, q0, hargs, rfl, rfl, h0, r0⟩ := trodAll_cons hA
  obtain ⟨rfl, rfl, rfl⟩ := trodAll_nil r0
  obtain rfl : args = #[v0] := by cases args; simp_all
  obtain ⟨rfl, rfl⟩ := trodVars_none hV
  obtain ⟨a0, len0, cap0, rfl⟩ := okWide_slice Try.underlying22 (hval 0 22 v0 rfl rfl)
  have k0 := h0
  have lt0 : ∀ x ∈ p0, x.block < W.heap.size := by obtain ⟨m, hm⟩ := k0; exact DataW.trod_lt m _ _ _ hm
  have z0 : ∃ s : Sl Affidavitlaw24_Act, R (Cx.start W) (sl cAffidavitlaw24_Act s) (.slice a0 len0 cap0) ∧ s.l.length ≤ maxLen ∧ ∀ a ∈ s.l, a.L.l.length ≤ maxLen := by
    obtain ⟨fuel, hf⟩ := h0
    obtain ⟨s, h2, h3⟩ := opens_acts H enc W 0 true fuel _ _ hf
    obtain ⟨w, ws, he, hr, _⟩ := h2
    rw [show (Value.slice a0 len0 cap0).cells.toList = [.slice a0 len0 cap0] from rfl] at he
    cases he
    exact ⟨s, hr, h3⟩
  clear hA0 hval0 hsz0
  refine (walk _ W z0).mono fun e W' ⟨he, bel⟩ => ?_
  subst he
  exact ⟨_, rfl, _, _, _, [], _, [], hW', trodAll_mk1 (shut_bool Try.underlying4 _), (trodAll_cons_mk (Below.trod laidOut (by kernel_rfl) (of_decide_eq_true (by kernel_rfl)) k0 bel lt0) trodAll_mk0), rfl, bel.frame _, fun h => by cases h⟩
theorem over : Rows.pruneDoesRow.holds Try.pinned (OpenSpec.ofChange Rows.pruneDoesSpec) :=
  OpenClaim.holds_of_wide 6 Try.f6 rfl rfl rfl rfl rfl rfl rfl ⟨rfl, rfl, rfl, rfl, rfl⟩ rfl rfl rfl rfl rfl (by kernel_rfl) Try.func6 (by kernel_rfl)
    (of_decide_eq_true (by kernel_rfl)) (by unfold Func.isWrapper; first | (rw [if_pos (by decide +kernel)]; kernel_rfl) | (rw [if_neg (by decide +kernel)]; exact ⟨rfl, rfl⟩))
    (fun os started H enc _ => lifted os started H enc)
theorem proved : Rows.PruneDoesSaid := over
end Go.Proofs.Ytbdomlbmbcnaeaa.pruneDoes
namespace Go.Proofs.Ytbdomlbmbcnaeaa
/-- The row, under a short name, for the claim. -/
theorem pruneDoes_holds : Rows.PruneDoesSaid := pruneDoes.proved
end Go.Proofs.Ytbdomlbmbcnaeaa
