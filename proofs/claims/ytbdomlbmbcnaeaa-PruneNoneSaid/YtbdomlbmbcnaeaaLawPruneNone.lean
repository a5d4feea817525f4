/- The row of the law PruneNone: a run of the whole law, whatever its arguments hold; joined by the row's builders. -/
import Derived.Test.YtbdomlbmbcnaeaaRows
import Derived.Test.YtbdomlbmbcnaeaaTab
import Derived.Test.YtbdomlbmbcnaeaaAbsOpen
import Derived.WalkKit
import Derived.ProofKit
import Derived.OpenShut
import Derived.Below
import Derived.SizedLaws
namespace Go.Proofs.Ytbdomlbmbcnaeaa.pruneNone
open Go.ChangeShapes Go.WideShapes Go.ChangeAt Go.RowKit Go.Abs
attribute [local irreducible] argOf kindsOf R RL
theorem own : ownKnob Try.prog.godebug = none := by kernel_rfl
theorem laidOut : laidOutB Try.prog = true := by kernel_rfl
theorem run (f0 : Nat → Dt) : answers (rCall T G0 fns (fun _ _ _ => none) 30 5 [argOf Try.prog 33 f0] []) true = true := by kernel_rfl
theorem walk (v0 : Value) (W : World) (h0 : ∃ f : Nat → Dt, R (Cx.start W) (argOf Try.prog 33 f) v0) : Calls Try.prog 5 #[v0] W fun e W' => e = .returned (.bool true) ∧ RowKit.Below W.heap.size W W' := by
  obtain ⟨f0, h0⟩ := h0
  exact law_calls (T := T) tyOk (G := G0) (f := 5) (args := [argOf Try.prog 33 f0]) (b := true) (vs := [v0]) (run_answers (C := rCall T G0 fns (fun _ _ _ => none) 30) (f := 5) (args := [argOf Try.prog 33 f0]) (H := []) (b := true) (runs 30) (run f0))
    (RL.cons' h0 RL.nil') (no_globals fun _ => rfl)
set_option maxRecDepth 100000 in
theorem lifted (os : Os) (started : os.Started) (H : Type) (enc : TypeId × Value → H) :
    ReturnsInHanded {} Try.checked os 5 .any (Rows.pruneNoneSpec.pre6 enc Try.prog Try.f5 Rows.pruneNoneRow.domain false) (Rows.pruneNoneSpec.post enc Try.prog Try.f5 false true false false) := by
  refine returnsInHanded_of_change_sized (C := Try.checked) own started (by kernel_rfl) Try.func5
    (ChangeSpec.witness6 (enc := enc) (C := Try.checked) false ⟨#[], #[.agg #[.int .i64 0, .int .i64 0, .slice none 0 0]], []⟩ 8 (by kernel_rfl) (by kernel_rfl) (by kernel_rfl) (by kernel_rfl)) ?_
  intro W base args ds gs before hval0 hW hcnd hsz0 _
  have hval : ∀ (j : Nat) t v, Try.f5.params[j]? = some t → args[j]? = some v → Value.okWide Try.prog W .any base t v := hval0
  have hW' := hW
  obtain ⟨p, q, hA0, hV, rfl, hfz, hnd⟩ := hW
  have hA : DataW.TrodAll enc Try.prog W 0 (fun _ => true) true Try.f5.params.toList args.toList ds p := hA0
  rw [Try.params5] at hA hval
  obtain ⟨v0, vs0, d0, ds0, p0, q0, hargs, rfl, rfl, h0, r0⟩ := trodAll_cons hA
  obtain ⟨rfl, rfl, rfl⟩ := trodAll_nil r0
  obtain rfl : args = #[v0] := by cases args; simp_all
  obtain ⟨rfl, rfl⟩ := trodVars_none hV
  have z0 := param_open (P := Try.prog) (t := 33) (by kernel_rfl) (hval 0 33 v0 rfl rfl)
  have k0 := h0
  have lt0 : ∀ x ∈ p0, x.block < W.heap.size := by obtain ⟨m, hm⟩ := k0; exact DataW.trod_lt m _ _ _ hm
  clear hA0 hval0 hsz0
  refine (walk _ W z0).mono fun e W' ⟨he, bel⟩ => ?_
  subst he
  exact ⟨_, rfl, _, _, _, [], _, [], hW', trodAll_mk1 (shut_bool Try.underlying4 _), (trodAll_cons_mk (Below.trod laidOut (by kernel_rfl) (of_decide_eq_true (by kernel_rfl)) k0 bel lt0) trodAll_mk0), rfl, bel.frame _, fun h => by cases h⟩
theorem over : Rows.pruneNoneRow.holds Try.pinned (OpenSpec.ofChange Rows.pruneNoneSpec) :=
  OpenClaim.holds_of_wide 5 Try.f5 rfl rfl rfl rfl rfl rfl rfl ⟨rfl, rfl, rfl, rfl, rfl⟩ rfl rfl rfl rfl rfl (by kernel_rfl) Try.func5 (by kernel_rfl)
    (of_decide_eq_true (by kernel_rfl)) (by unfold Func.isWrapper; first | (rw [if_pos (by decide +kernel)]; kernel_rfl) | (rw [if_neg (by decide +kernel)]; exact ⟨rfl, rfl⟩))
    (fun os started H enc _ => lifted os started H enc)
theorem proved : Rows.PruneNoneSaid := over
end Go.Proofs.Ytbdomlbmbcnaeaa.pruneNone
namespace Go.Proofs.Ytbdomlbmbcnaeaa
/-- The row, under a short name, for the claim. -/
theorem pruneNone_holds : Rows.PruneNoneSaid := pruneNone.proved
end Go.Proofs.Ytbdomlbmbcnaeaa
