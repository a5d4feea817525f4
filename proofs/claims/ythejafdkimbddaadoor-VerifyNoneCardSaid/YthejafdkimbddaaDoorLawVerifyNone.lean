/- The card of the law VerifyNone: a run of the whole law, whatever its arguments hold; joined by the row's builders. No conditions. -/
import Derived.Test.YthejafdkimbddaaDoorCards
import Derived.Test.YthejafdkimbddaaDoorTie
import Derived.Test.YthejafdkimbddaaDoorGlo
import Derived.Test.YthejafdkimbddaaDoorAwk
import Derived.Test.YthejafdkimbddaaDoorAbnB
import Derived.WalkKit
import Derived.ProofKit
import Derived.OpenShut
import Derived.Below
import Derived.SizedLaws
import Derived.SevenTiedAt
namespace Go.Proofs.YthejafdkimbddaaDoor.verifyNone
open Go.ChangeShapes Go.WideShapes Go.ChangeAt Go.RowKit Go.Abs
attribute [local irreducible] argOf kindsOf R RL
theorem own : ownKnob Tryd.prog.godebug = none := by kernel_rfl
theorem laidOut : laidOutB Tryd.prog = true := by kernel_rfl
noncomputable abbrev R0 : RCall := rCall T G0 fns orcA 60
theorem runs1 : Says Tryd.prog T G0 R0 := rCall_says tabOk saysA 60
theorem run (f0 f1 f2 : Nat → Dt) : answers (R0 3 [argOf Tryd.prog 30 f0, argOf Tryd.prog 9 f1, argOf Tryd.prog 32 f2] []) true = true := by kernel_rfl
theorem walk (v0 : Value) (v1 : Value) (v2 : Value) (W : World) (hG : GOk G0 (Cx.start W)) (h0 : ∃ f : Nat → Dt, R (Cx.start W) (argOf Tryd.prog 30 f) v0) (h1 : ∃ f : Nat → Dt, R (Cx.start W) (argOf Tryd.prog 9 f) v1) (h2 : ∃ f : Nat → Dt, R (Cx.start W) (argOf Tryd.prog 32 f) v2) : Calls Tryd.prog 3 #[v0, v1, v2] W fun e W' => e = .returned (.bool true) ∧ RowKit.Below W.heap.size W W' := by
  obtain ⟨f0, h0⟩ := h0
  obtain ⟨f1, h1⟩ := h1
  obtain ⟨f2, h2⟩ := h2
  exact law_calls (T := T) tyOk (G := G0) (f := 3) (args := [argOf Tryd.prog 30 f0, argOf Tryd.prog 9 f1, argOf Tryd.prog 32 f2]) (b := true) (vs := [v0, v1, v2]) (run_answers (C := R0) (f := 3) (args := [argOf Tryd.prog 30 f0, argOf Tryd.prog 9 f1, argOf Tryd.prog 32 f2]) (H := []) (b := true) runs1 (run f0 f1 f2))
    (RL.cons' h0 (RL.cons' h1 (RL.cons' h2 RL.nil'))) hG
set_option maxRecDepth 100000 in
theorem lifted (os : Os) (started : os.Started) (H : Type) (enc : TypeId × Value → H) :
    ReturnsInHanded {} Tryd.checked os 3 .any (fun w args => (Rows.verifyNoneSpec.pre enc Tryd.prog Tryd.f3 [] false w args ∧ laidMetH Tryd.prog laidL w) ∧ sizedMet enc Tryd.prog Tryd.f3 (OpenSpec.ofChange Rows.verifyNoneSpec) false w args)
      (Rows.verifyNoneSpec.post enc Tryd.prog Tryd.f3 false true false false) := by
  refine returnsInHanded_of_change_and (C := Tryd.checked) (X := fun w _ => laidMetH Tryd.prog laidL w) (fun _ _ _ hh h => h.of_heap hh) own started (by kernel_rfl) Tryd.func3
    (ChangeSpec.witness_shaped (enc := enc) (C := Tryd.checked) (os := os) (X := fun w _ => laidMetH Tryd.prog laidL w) false (World.doorLaid Tryd.prog 4000 os) #[.agg (#[.int .i64 0, .string ⟨#[]⟩] ++ #[.int .i64 0, .int .i64 0, .int .i64 0, .string ⟨#[]⟩] ++ Array.replicate 64 (.int .u8 0) ++ #[.int .i64 0, .int .i64 0, .string ⟨#[]⟩] ++ Array.replicate 32 (.int .u8 0) ++ #[.slice none 0 0, .int .i64 0, .string ⟨#[]⟩] ++ Array.replicate 32 (.int .u8 0) ++ #[.string ⟨#[]⟩] ++ Array.replicate 32 (.int .u8 0)), .string ⟨#[]⟩, .agg (#[.int .i64 0, .int .i64 0, .int .i64 0, .int .i64 0] ++ Array.replicate 64 (.int .u8 0))] 8 rfl (World.shaped_of_RefB (by kernel_rfl) (by kernel_rfl)) (by kernel_rfl) (by kernel_rfl) (by kernel_rfl) (door_met os _)) ?_
  intro W base args ds gs before hval0 hW _ _ hL _
  have hval : ∀ (j : Nat) t v, Tryd.f3.params[j]? = some t → args[j]? = some v → Value.okWide Tryd.prog W .any base t v := hval0
  have hW' := hW
  obtain ⟨p, q, hA0, hV, rfl, hfz, hnd⟩ := hW
  have hA : DataW.TrodAll enc Tryd.prog W 0 (fun _ => true) true Tryd.f3.params.toList args.toList ds p := hA0
  rw [Tryd.params3] at hA hval
  obtain ⟨v0, vs0, d0, ds0, p0, q0, hargs, rfl, rfl, h0, r0⟩ := trodAll_cons hA
  obtain ⟨v1, vs1, d1, ds1, p1, q1, rfl, rfl, rfl, h1, r1⟩ := trodAll_cons r0
  obtain ⟨v2, vs2, d2, ds2, p2, q2, rfl, rfl, rfl, h2, r2⟩ := trodAll_cons r1
  obtain ⟨rfl, rfl, rfl⟩ := trodAll_nil r2
  obtain rfl : args = #[v0, v1, v2] := by cases args; simp_all
  obtain ⟨rfl, rfl⟩ := trodVars_none hV
  have z0 := param_open (P := Tryd.prog) (t := 30) (by kernel_rfl) (hval 0 30 v0 rfl rfl)
  have k0 := h0
  have lt0 : ∀ x ∈ p0, x.block < W.heap.size := by obtain ⟨m, hm⟩ := k0; exact DataW.trod_lt m _ _ _ hm
  have z1 := param_open (P := Tryd.prog) (t := 9) (by kernel_rfl) (hval 1 9 v1 rfl rfl)
  have k1 := h1
  have lt1 : ∀ x ∈ p1, x.block < W.heap.size := by obtain ⟨m, hm⟩ := k1; exact DataW.trod_lt m _ _ _ hm
  have z2 := param_open (P := Tryd.prog) (t := 32) (by kernel_rfl) (hval 2 32 v2 rfl rfl)
  have k2 := h2
  have lt2 : ∀ x ∈ p2, x.block < W.heap.size := by obtain ⟨m, hm⟩ := k2; exact DataW.trod_lt m _ _ _ hm
  clear hA0 hval0
  refine (walk _ _ _ W (gok hL) z0 z1 z2).mono fun e W' ⟨he, bel⟩ => ?_
  subst he
  exact ⟨_, rfl, _, _, _, [], _, [], hW', trodAll_mk1 (shut_bool Tryd.underlying4 _), (trodAll_cons_mk (Below.trod laidOut (by kernel_rfl) (of_decide_eq_true (by kernel_rfl)) k0 bel lt0) (trodAll_cons_mk (Below.trod laidOut (by kernel_rfl) (of_decide_eq_true (by kernel_rfl)) k1 bel lt1) (trodAll_cons_mk (Below.trod laidOut (by kernel_rfl) (of_decide_eq_true (by kernel_rfl)) k2 bel lt2) trodAll_mk0))), rfl, bel.frame _, fun h => by cases h⟩
theorem over : Rows.VerifyNoneSaid :=
  OpenClaim.holds_of_wide 3 Tryd.f3 rfl rfl rfl rfl rfl rfl rfl ⟨rfl, rfl, rfl, rfl, rfl⟩ rfl rfl rfl rfl rfl (by kernel_rfl) Tryd.func3 (by kernel_rfl)
    (of_decide_eq_true (by kernel_rfl)) (by unfold Func.isWrapper; first | (rw [if_pos (by decide +kernel)]; kernel_rfl) | (rw [if_neg (by decide +kernel)]; exact ⟨rfl, rfl⟩))
    (fun os started H enc _ => lifted os started H enc)
theorem proved : Rows.VerifyNoneCardSaid :=
  Claim7.holds_tied_plain_at .later [] [.data] true (true, "65d9f3b355d06d89028800917d2114c149de6d18ef0bb3c11d60578fe9bb0251") false
    over (fun _ h => by cases h) (by kernel_rfl) (fun _ h => by cases h) verifyNone_row_tie rfl ⟨rfl, rfl⟩ (by kernel_rfl) rfl
    (fun f fn hf hfn => by
      obtain rfl : f = 3 := Option.some.inj ((show Tryd.prog.funcNamed "affidavit/affidavitlaw14.VerifyNone" = some 3 by kernel_rfl).symm.trans hf) |>.symm
      obtain rfl : fn = Tryd.f3 := (Option.some.inj (Tryd.func3.symm.trans hfn)).symm
      exact ⟨by kernel_rfl, fun j t ht => by
        rw [Tryd.params3] at ht
        match j, ht with
        | 0, ht => cases ht; exact (show Tryd.prog.wantsStandIn 30 = false by kernel_rfl)
        | 1, ht => cases ht; exact (show Tryd.prog.wantsStandIn 9 = false by kernel_rfl)
        | 2, ht => cases ht; exact (show Tryd.prog.wantsStandIn 32 = false by kernel_rfl)
        | j + 3, ht => simp at ht⟩)
    (by kernel_rfl)
end Go.Proofs.YthejafdkimbddaaDoor.verifyNone
namespace Go.Proofs.YthejafdkimbddaaDoor
/-- The card, under a short name, for the claim. -/
theorem verifyNone_holds : Rows.VerifyNoneCardSaid := verifyNone.proved
end Go.Proofs.YthejafdkimbddaaDoor
