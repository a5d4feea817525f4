/- The card of the law UstorNone: a run of the whole law, whatever its arguments hold; joined by the row's builders. No conditions. -/
import Derived.Test.YthejafdkimbddaaDoorCards
import Derived.Test.YthejafdkimbddaaDoorTie
import Derived.Test.YthejafdkimbddaaDoorGlo
import Derived.Test.YthejafdkimbddaaDoorAwkU
import Derived.Test.YthejafdkimbddaaDoorAbnB
import Derived.WalkKit
import Derived.ProofKit
import Derived.OpenShut
import Derived.Below
import Derived.SizedLaws
import Derived.SevenTiedAt
namespace Go.Proofs.YthejafdkimbddaaDoor.ustorNone
open Go.ChangeShapes Go.WideShapes Go.ChangeAt Go.RowKit Go.Abs
attribute [local irreducible] argOf kindsOf R RL
theorem own : ownKnob Tryd.prog.godebug = none := by kernel_rfl
theorem laidOut : laidOutB Tryd.prog = true := by kernel_rfl
noncomputable abbrev R0 : RCall := rCall T G0 fns orcA 60
theorem runs1 : Says Tryd.prog T G0 R0 := rCall_says tabOk saysA 60
theorem run (f0 f1 : Nat → Dt) : answers (R0 4 [argOf Tryd.prog 48 f0, argOf Tryd.prog 9 f1] []) true = true := by kernel_rfl
theorem walk (v0 : Value) (v1 : Value) (W : World) (hG : GOk G0 (Cx.start W)) (h0 : ∃ f : Nat → Dt, R (Cx.start W) (argOf Tryd.prog 48 f) v0) (h1 : ∃ f : Nat → Dt, R (Cx.start W) (argOf Tryd.prog 9 f) v1) : Calls Tryd.prog 4 #[v0, v1] W fun e W' => e = .returned (.bool true) ∧ RowKit.Below W.heap.size W W' := by
  obtain ⟨f0, h0⟩ := h0
  obtain ⟨f1, h1⟩ := h1
  exact law_calls (T := T) tyOk (G := G0) (f := 4) (args := [argOf Tryd.prog 48 f0, argOf Tryd.prog 9 f1]) (b := true) (vs := [v0, v1]) (run_answers (C := R0) (f := 4) (args := [argOf Tryd.prog 48 f0, argOf Tryd.prog 9 f1]) (H := []) (b := true) runs1 (run f0 f1))
    (RL.cons' h0 (RL.cons' h1 RL.nil')) hG
set_option maxRecDepth 100000 in
theorem lifted (os : Os) (started : os.Started) (H : Type) (enc : TypeId × Value → H) :
    ReturnsInHanded {} Tryd.checked os 4 .any (fun w args => (Rows.ustorNoneSpec.pre enc Tryd.prog Tryd.f4 [] false w args ∧ laidMetH Tryd.prog laidL w) ∧ sizedMet enc Tryd.prog Tryd.f4 (OpenSpec.ofChange Rows.ustorNoneSpec) false w args)
      (Rows.ustorNoneSpec.post enc Tryd.prog Tryd.f4 false true false false) := by
  refine returnsInHanded_of_change_and (C := Tryd.checked) (X := fun w _ => laidMetH Tryd.prog laidL w) (fun _ _ _ hh h => h.of_heap hh) own started (by kernel_rfl) Tryd.func4
    (ChangeSpec.witness_shaped (enc := enc) (C := Tryd.checked) (os := os) (X := fun w _ => laidMetH Tryd.prog laidL w) false (World.doorLaid Tryd.prog 4000 os) #[.agg (#[.int .i64 0, .int .i64 0, .int .i64 0, .string ⟨#[]⟩] ++ #[.int .i64 0, .int .i64 0] ++ #[.int .i64 0, .int .i64 0, .int .i64 0, .string ⟨#[]⟩] ++ Array.replicate 64 (.int .u8 0) ++ #[.int .i64 0, .int .i64 0, .string ⟨#[]⟩] ++ Array.replicate 32 (.int .u8 0) ++ #[.slice none 0 0, .int .i64 0, .string ⟨#[]⟩] ++ Array.replicate 32 (.int .u8 0) ++ #[.string ⟨#[]⟩] ++ Array.replicate 32 (.int .u8 0) ++ #[.string ⟨#[]⟩, .int .i64 0] ++ Array.replicate 64 (.int .u8 0) ++ #[.int .i64 0, .int .i64 0, .string ⟨#[]⟩] ++ Array.replicate 32 (.int .u8 0) ++ #[.slice none 0 0]), .string ⟨#[]⟩] 8 rfl (World.shaped_of_RefB (by kernel_rfl) (by kernel_rfl)) (by kernel_rfl) (by kernel_rfl) (by kernel_rfl) (door_met os _)) ?_
  intro W base args ds gs before hval0 hW _ _ hL _
  have hval : ∀ (j : Nat) t v, Tryd.f4.params[j]? = some t → args[j]? = some v → Value.okWide Tryd.prog W .any base t v := hval0
  have hW' := hW
  obtain ⟨p, q, hA0, hV, rfl, hfz, hnd⟩ := hW
  have hA : DataW.TrodAll enc Tryd.prog W 0 (fun _ => true) true Tryd.f4.params.toList args.toList ds p := hA0
  rw [Tryd.params4] at hA hval
  obtain ⟨v0, vs0, d0, ds0, p0, q0, hargs, rfl, rfl, h0, r0⟩ := trodAll_cons hA
  obtain ⟨v1, vs1, d1, ds1, p1, q1, rfl, rfl, rfl, h1, r1⟩ := trodAll_cons r0
  obtain ⟨rfl, rfl, rfl⟩ := trodAll_nil r1
  obtain rfl : args = #[v0, v1] := by cases args; simp_all
  obtain ⟨rfl, rfl⟩ := trodVars_none hV
  have z0 := param_open (P := Tryd.prog) (t := 48) (by kernel_rfl) (hval 0 48 v0 rfl rfl)
  have k0 := h0
  have lt0 : ∀ x ∈ p0, x.block < W.heap.size := by obtain ⟨m, hm⟩ := k0; exact DataW.trod_lt m _ _ _ hm
  have z1 := param_open (P := Tryd.prog) (t := 9) (by kernel_rfl) (hval 1 9 v1 rfl rfl)
  have k1 := h1
  have lt1 : ∀ x ∈ p1, x.block < W.heap.size := by obtain ⟨m, hm⟩ := k1; exact DataW.trod_lt m _ _ _ hm
  clear hA0 hval0
  refine (walk _ _ W (gok hL) z0 z1).mono fun e W' ⟨he, bel⟩ => ?_
  subst he
  exact ⟨_, rfl, _, _, _, [], _, [], hW', trodAll_mk1 (shut_bool Tryd.underlying4 _), (trodAll_cons_mk (Below.trod laidOut (by kernel_rfl) (of_decide_eq_true (by kernel_rfl)) k0 bel lt0) (trodAll_cons_mk (Below.trod laidOut (by kernel_rfl) (of_decide_eq_true (by kernel_rfl)) k1 bel lt1) trodAll_mk0)), rfl, bel.frame _, fun h => by cases h⟩
theorem over : Rows.UstorNoneSaid :=
  OpenClaim.holds_of_wide 4 Tryd.f4 rfl rfl rfl rfl rfl rfl rfl ⟨rfl, rfl, rfl, rfl, rfl⟩ rfl rfl rfl rfl rfl (by kernel_rfl) Tryd.func4 (by kernel_rfl)
    (of_decide_eq_true (by kernel_rfl)) (by unfold Func.isWrapper; first | (rw [if_pos (by decide +kernel)]; kernel_rfl) | (rw [if_neg (by decide +kernel)]; exact ⟨rfl, rfl⟩))
    (fun os started H enc _ => lifted os started H enc)
theorem proved : Rows.UstorNoneCardSaid :=
  Claim7.holds_tied_plain_at .later [] [.data] true (true, "65d9f3b355d06d89028800917d2114c149de6d18ef0bb3c11d60578fe9bb0251") false
    over (fun _ h => by cases h) (by kernel_rfl) (fun _ h => by cases h) ustorNone_row_tie rfl ⟨rfl, rfl⟩ (by kernel_rfl) rfl
    (fun f fn hf hfn => by
      obtain rfl : f = 4 := Option.some.inj ((show Tryd.prog.funcNamed "affidavit/affidavitlaw15.UstorNone" = some 4 by kernel_rfl).symm.trans hf) |>.symm
      obtain rfl : fn = Tryd.f4 := (Option.some.inj (Tryd.func4.symm.trans hfn)).symm
      exact ⟨by kernel_rfl, fun j t ht => by
        rw [Tryd.params4] at ht
        match j, ht with
        | 0, ht => cases ht; exact (show Tryd.prog.wantsStandIn 48 = false by kernel_rfl)
        | 1, ht => cases ht; exact (show Tryd.prog.wantsStandIn 9 = false by kernel_rfl)
        | j + 2, ht => simp at ht⟩)
    (by kernel_rfl)
end Go.Proofs.YthejafdkimbddaaDoor.ustorNone
namespace Go.Proofs.YthejafdkimbddaaDoor
/-- The card, under a short name, for the claim. -/
theorem ustorNone_holds : Rows.UstorNoneCardSaid := ustorNone.proved
end Go.Proofs.YthejafdkimbddaaDoor
