/- The row of the law PiecesNone: a run of the whole law, whatever its arguments hold; joined by the row's builders. -/
import Derived.Test.YtmndnfpobhebjaaGreatRows
import Derived.Test.YtmndnfpobhebjaaGreatAwake
import Derived.Test.YtmndnfpobhebjaaGreatAbnOpen
import Derived.WalkKit
import Derived.ProofKit
import Derived.OpenShut
import Derived.Below
import Derived.SizedLaws
namespace Go.Proofs.YtmndnfpobhebjaaGreat.piecesNone
open Go.ChangeShapes Go.WideShapes Go.ChangeAt Go.RowKit Go.Abs
attribute [local irreducible] argOf kindsOf R RL
theorem own : ownKnob Tryz.prog.godebug = none := by kernel_rfl
theorem laidOut : laidOutB Tryz.prog = true := by kernel_rfl
noncomputable abbrev R0 : RCall := rCall T G0 fns orcA 60
theorem runs1 : Says Tryz.prog T G0 R0 := rCall_says tabOk saysA 60
theorem run (f0 f1 : Nat → Dt) : answers (R0 4 [argOf Tryz.prog 22 f0, argOf Tryz.prog 23 f1] []) true = true := by kernel_rfl
theorem walk (v0 : Value) (v1 : Value) (W : World) (h0 : ∃ f : Nat → Dt, R (Cx.start W) (argOf Tryz.prog 22 f) v0) (h1 : ∃ f : Nat → Dt, R (Cx.start W) (argOf Tryz.prog 23 f) v1) : Calls Tryz.prog 4 #[v0, v1] W fun e W' => e = .returned (.bool true) ∧ RowKit.Below W.heap.size W W' := by
  obtain ⟨f0, h0⟩ := h0
  obtain ⟨f1, h1⟩ := h1
  exact law_calls (T := T) tyOk (G := G0) (f := 4) (args := [argOf Tryz.prog 22 f0, argOf Tryz.prog 23 f1]) (b := true) (vs := [v0, v1]) (run_answers (C := R0) (f := 4) (args := [argOf Tryz.prog 22 f0, argOf Tryz.prog 23 f1]) (H := []) (b := true) runs1 (run f0 f1))
    (RL.cons' h0 (RL.cons' h1 RL.nil')) (no_globals fun _ => rfl)
set_option maxRecDepth 100000 in
theorem lifted (os : Os) (started : os.Started) (H : Type) (enc : TypeId × Value → H) :
    ReturnsInHanded {} Tryz.checked os 4 .any (Rows.piecesNoneSpec.pre6 enc Tryz.prog Tryz.f4 Rows.piecesNoneRow.domain false) (Rows.piecesNoneSpec.post enc Tryz.prog Tryz.f4 false true false false) := by
  refine returnsInHanded_of_change_sized (C := Tryz.checked) own started (by kernel_rfl) Tryz.func4
    (ChangeSpec.witness6 (enc := enc) (C := Tryz.checked) false ⟨#[], #[.slice none 0 0, .slice none 0 0], []⟩ 8 (by kernel_rfl) (by kernel_rfl) (by kernel_rfl) (by kernel_rfl)) ?_
  intro W base args ds gs before hval0 hW hcnd hsz0 _
  have hval : ∀ (j : Nat) t v, Tryz.f4.params[j]? = some t → args[j]? = some v → Value.okWide Tryz.prog W .any base t v := hval0
  have hW' := hW
  obtain ⟨p, q, hA0, hV, rfl, hfz, hnd⟩ := hW
  have hA : DataW.TrodAll enc Tryz.prog W 0 (fun _ => true) true Tryz.f4.params.toList args.toList ds p := hA0
  rw [Tryz.params4] at hA hval
  obtain ⟨v0, vs0, d0, ds0, p0, q0, hargs, rfl, rfl, h0, r0⟩ := trodAll_cons hA
  obtain ⟨v1, vs1, d1, ds1, p1, q1, rfl, rfl, rfl, h1, r1⟩ := trodAll_cons r0
  obtain ⟨rfl, rfl, rfl⟩ := trodAll_nil r1
  obtain rfl : args = #[v0, v1] := by cases args; simp_all
  obtain ⟨rfl, rfl⟩ := trodVars_none hV
  have z0 := param_open (P := Tryz.prog) (t := 22) (by kernel_rfl) (hval 0 22 v0 rfl rfl)
  have k0 := h0
  have lt0 : ∀ x ∈ p0, x.block < W.heap.size := by obtain ⟨m, hm⟩ := k0; exact DataW.trod_lt m _ _ _ hm
  have z1 := param_open (P := Tryz.prog) (t := 23) (by kernel_rfl) (hval 1 23 v1 rfl rfl)
  have k1 := h1
  have lt1 : ∀ x ∈ p1, x.block < W.heap.size := by obtain ⟨m, hm⟩ := k1; exact DataW.trod_lt m _ _ _ hm
  clear hA0 hval0 hsz0
  refine (walk _ _ W z0 z1).mono fun e W' ⟨he, bel⟩ => ?_
  subst he
  exact ⟨_, rfl, _, _, _, [], _, [], hW', trodAll_mk1 (shut_bool Tryz.underlying4 _), (trodAll_cons_mk (Below.trod laidOut (by kernel_rfl) (of_decide_eq_true (by kernel_rfl)) k0 bel lt0) (trodAll_cons_mk (Below.trod laidOut (by kernel_rfl) (of_decide_eq_true (by kernel_rfl)) k1 bel lt1) trodAll_mk0)), rfl, bel.frame _, fun h => by cases h⟩
theorem over : Rows.piecesNoneRow.holds Tryz.pinned (OpenSpec.ofChange Rows.piecesNoneSpec) :=
  OpenClaim.holds_of_wide 4 Tryz.f4 rfl rfl rfl rfl rfl rfl rfl ⟨rfl, rfl, rfl, rfl, rfl⟩ rfl rfl rfl rfl rfl (by kernel_rfl) Tryz.func4 (by kernel_rfl)
    (of_decide_eq_true (by kernel_rfl)) (by unfold Func.isWrapper; first | (rw [if_pos (by decide +kernel)]; kernel_rfl) | (rw [if_neg (by decide +kernel)]; exact ⟨rfl, rfl⟩))
    (fun os started H enc _ => lifted os started H enc)
theorem proved : Rows.PiecesNoneSaid := over
end Go.Proofs.YtmndnfpobhebjaaGreat.piecesNone
namespace Go.Proofs.YtmndnfpobhebjaaGreat
/-- The row, under a short name, for the claim. -/
theorem piecesNone_holds : Rows.PiecesNoneSaid := piecesNone.proved
end Go.Proofs.YtmndnfpobhebjaaGreat
