/- The card of the law VerifySteps: what its functions come to, and the plain law; joined by the row's builders. No conditions. -/
import Derived.Test.YthejafdkimbddaaGreatDoorCards
import Derived.Test.YthejafdkimbddaaGreatDoorTie
import Derived.Test.YthejafdkimbddaaGreatDoorArg
import Derived.Test.YthejafdkimbddaaGreatDoorGlo
import Derived.Test.YthejafdkimbddaaGreatDoorMathK
import Derived.WalkKit
import Derived.OpenShut
import Derived.Below
import Derived.SizedLaws
import Derived.SevenTiedAt
namespace Go.Proofs.YthejafdkimbddaaGreatDoor.verifySteps
open Go.ChangeShapes Go.WideShapes Go.ChangeAt Go.RowKit Go.Abs
theorem own : ownKnob Tryz.prog.godebug = none := by kernel_rfl
theorem laidOut : laidOutB Tryz.prog = true := by kernel_rfl
theorem agg_of {W : World} {v : Value} {cs : List AV} (h : RL (Cx.start W) cs v.cells.toList) (hn : cs.length ≠ 1) (hc : ∀ a ∈ cs, a.isCell = true) : R (Cx.start W) (.agg cs) v := by
  have hl := h.length
  cases v with
  | agg a =>
    simp only [R]
    exact ⟨hc, a.toList, by simp, h⟩
  | _ => exact absurd hl (fun e => hn (by simpa [Value.cells] using e.symm))
theorem cell_pending (p : Pending) : ∀ a ∈ cPending p, a.isCell = true := by
  intro a ha
  simp only [cPending, cI, cA, List.mem_append, List.mem_singleton, List.mem_map] at ha
  rcases ha with ((((rfl | rfl) | rfl) | rfl) | ⟨_, _, rfl⟩) | ⟨_, _, rfl⟩ <;> rfl
theorem walk (v0 v1 : Value) (W : World) (hG : GOk G0 (Cx.start W)) (h0 : ∃ s : List UInt8, R (Cx.start W) (.str s) v0 ∧ s.length ≤ maxLen) (h1 : ∃ p : Pending, R (Cx.start W) (.agg (cPending p)) v1) : Calls Tryz.prog 4 #[v0, v1] W fun e W' => e = .returned (.bool true) ∧ RowKit.Below W.heap.size W W' := by
  obtain ⟨s, h0, hs⟩ := h0
  obtain ⟨p, h1⟩ := h1
  exact law_calls (T := T) tyOk (G := G0) (f := 4) (args := [.str s, .agg (cPending p)]) (b := true) (vs := [v0, v1]) ((l14_VerifySteps_ev (steps_true s p rfl)).mono fun v H' h => h.1)
    (RL.cons' h0 (RL.cons' h1 RL.nil')) hG
set_option maxRecDepth 100000 in
theorem lifted (os : Os) (started : os.Started) (H : Type) (enc : TypeId × Value → H) :
    ReturnsInHanded {} Tryz.checked os 4 .any (fun w args => (Rows.verifyStepsSpec.pre enc Tryz.prog Tryz.f4 [] false w args ∧ laidMetH Tryz.prog laidL w) ∧ sizedMet enc Tryz.prog Tryz.f4 (OpenSpec.ofChange Rows.verifyStepsSpec) false w args)
      (Rows.verifyStepsSpec.post enc Tryz.prog Tryz.f4 false true false false) := by
  refine returnsInHanded_of_change_and (C := Tryz.checked) (X := fun w _ => laidMetH Tryz.prog laidL w) (fun _ _ _ hh h => h.of_heap hh) own started (by kernel_rfl) Tryz.func4
    (ChangeSpec.witness_shaped (enc := enc) (C := Tryz.checked) (os := os) (X := fun w _ => laidMetH Tryz.prog laidL w) false (World.doorLaid Tryz.prog 4000 os) #[.string ⟨#[]⟩, .agg (#[.int .i64 0, .int .i64 0, .int .i64 0, .int .i64 0] ++ Array.replicate 64 (.int .u8 0))] 8 rfl (World.shaped_of_RefB (by kernel_rfl) (by kernel_rfl)) (by kernel_rfl) (by kernel_rfl) (by kernel_rfl) (door_met os _)) ?_
  intro W base args ds gs before hval0 hW _ _ hL _
  have hval : ∀ (j : Nat) t v, Tryz.f4.params[j]? = some t → args[j]? = some v → Value.okWide Tryz.prog W .any base t v := hval0
  have hW' := hW
  obtain ⟨p, q, hA0, hV, rfl, hfz, hnd⟩ := hW
  have hA : DataW.TrodAll enc Tryz.prog W 0 (fun _ => true) true Tryz.f4.params.toList args.toList ds p := hA0
  rw [Tryz.params4] at hA hval
  obtain ⟨v0, vs0, d0, ds0, p0, q0, hargs, rfl, rfl, h0, r0⟩ := trodAll_cons hA
  obtain ⟨v1, vs1, d1, ds1, p1, q1, rfl, rfl, rfl, h1, r1⟩ := trodAll_cons r0
  obtain ⟨rfl, rfl, rfl⟩ := trodAll_nil r1
  obtain rfl : args = #[v0, v1] := by cases args; simp_all
  obtain ⟨rfl, rfl⟩ := trodVars_none hV
  have k0 := h0
  have lt0 : ∀ x ∈ p0, x.block < W.heap.size := by obtain ⟨m, hm⟩ := k0; exact DataW.trod_lt m _ _ _ hm
  have k1 := h1
  have lt1 : ∀ x ∈ p1, x.block < W.heap.size := by obtain ⟨m, hm⟩ := k1; exact DataW.trod_lt m _ _ _ hm
  have z0 : ∃ s : List UInt8, R (Cx.start W) (.str s) v0 ∧ s.length ≤ maxLen := by
    obtain ⟨fuel, hf⟩ := h0
    obtain ⟨s, h2, h3⟩ := opens_str Tryz.underlying9 H enc W 0 true fuel _ _ hf
    have : ∃ b, v0 = .string b := okWide_string Tryz.underlying9 (hval 0 9 v0 rfl rfl)
    obtain ⟨b, rfl⟩ := this
    simp only [Value.cells, cS, RL] at h2
    obtain ⟨w, ws, he, hr, rfl⟩ := h2
    obtain ⟨rfl, _⟩ := List.cons.inj he
    exact ⟨s, hr, h3⟩
  have z1 : ∃ p : Pending, R (Cx.start W) (.agg (cPending p)) v1 := by
    obtain ⟨fuel, hf⟩ := h1
    obtain ⟨s, h2, _⟩ := opens_pending H enc W 0 true fuel _ _ hf
    exact ⟨s, agg_of h2 (by rw [len_cPending]; decide) (cell_pending s)⟩
  clear hA0 hval0
  refine (walk _ _ W (gok hL) z0 z1).mono fun e W' ⟨he, bel⟩ => ?_
  subst he
  exact ⟨_, rfl, _, _, _, [], _, [], hW', trodAll_mk1 (shut_bool Tryz.underlying4 _), (trodAll_cons_mk (Below.trod laidOut (by kernel_rfl) (of_decide_eq_true (by kernel_rfl)) k0 bel lt0) (trodAll_cons_mk (Below.trod laidOut (by kernel_rfl) (of_decide_eq_true (by kernel_rfl)) k1 bel lt1) trodAll_mk0)), rfl, bel.frame _, fun h => by cases h⟩
theorem over : Rows.VerifyStepsSaid :=
  OpenClaim.holds_of_wide 4 Tryz.f4 rfl rfl rfl rfl rfl rfl rfl ⟨rfl, rfl, rfl, rfl, rfl⟩ rfl rfl rfl rfl rfl (by kernel_rfl) Tryz.func4 (by kernel_rfl)
    (of_decide_eq_true (by kernel_rfl)) (by unfold Func.isWrapper; first | (rw [if_pos (by decide +kernel)]; kernel_rfl) | (rw [if_neg (by decide +kernel)]; exact ⟨rfl, rfl⟩))
    (fun os started H enc _ => lifted os started H enc)
theorem proved : Rows.VerifyStepsCardSaid :=
  Claim7.holds_tied_plain_at .later [] [.data] true (true, "0479827324b48bb45887d0b7eda9a35b6632b3b3d2c53f6e3646124784ca1752") false
    over (fun _ h => by cases h) (by kernel_rfl) (fun _ h => by cases h) verifySteps_row_tie rfl ⟨rfl, rfl⟩ (by kernel_rfl) rfl
    (fun f fn hf hfn => by
      obtain rfl : f = 4 := Option.some.inj ((show Tryz.prog.funcNamed "affidavit/affidavitlaw14.VerifySteps" = some 4 by kernel_rfl).symm.trans hf) |>.symm
      obtain rfl : fn = Tryz.f4 := (Option.some.inj (Tryz.func4.symm.trans hfn)).symm
      exact ⟨by kernel_rfl, fun j t ht => by
        rw [Tryz.params4] at ht
        match j, ht with
        | 0, ht => cases ht; exact (show Tryz.prog.wantsStandIn 9 = false by kernel_rfl)
        | 1, ht => cases ht; exact (show Tryz.prog.wantsStandIn 46 = false by kernel_rfl)
        | j + 2, ht => simp at ht⟩)
    (by kernel_rfl)
end Go.Proofs.YthejafdkimbddaaGreatDoor.verifySteps
namespace Go.Proofs.YthejafdkimbddaaGreatDoor
/-- The card, under a short name, for the claim. -/
theorem verifySteps_holds : Rows.VerifyStepsCardSaid := verifySteps.proved
end Go.Proofs.YthejafdkimbddaaGreatDoor
