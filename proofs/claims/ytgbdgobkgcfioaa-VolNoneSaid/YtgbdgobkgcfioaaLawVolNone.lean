/- The row of the law VolNone: a run of the whole law, whatever its arguments hold; joined by the row's builders. -/
import Derived.Test.YtgbdgobkgcfioaaRows
import Derived.Test.YtgbdgobkgcfioaaTab
import Derived.Test.YtgbdgobkgcfioaaAbnOpen
import Derived.WalkKit
import Derived.ProofKit
import Derived.OpenShut
import Derived.Below
import Derived.SizedLaws
namespace Go.Proofs.Ytgbdgobkgcfioaa.volNone
open Go.ChangeShapes Go.WideShapes Go.ChangeAt Go.RowKit Go.Abs
attribute [local irreducible] argOf kindsOf R RL
theorem own : ownKnob Try.prog.godebug = none := by kernel_rfl
theorem laidOut : laidOutB Try.prog = true := by kernel_rfl
def opOf (a b : Int) (p q : List UInt8) (c d : Int) (s : List UInt8) : AV := .agg [.int .i64 a, .int .i64 b, .str p, .str q, .int .i64 c, .int .i64 d, .str s]
theorem arg_op (f : Nat → Dt) : argOf Try.prog 42 f = opOf (f 0).1 (f 1).1 (f 2).2.1 (f 3).2.1 (f 4).1 (f 5).1 (f 6).2.1 := by kernel_rfl
theorem awake_run : comesTo (rCall T G0 fns (fun _ _ _ => none) 40 11 [] []) (.bool true) = true := by kernel_rfl
/-- What is known of awake. -/
def orc1 : RCall := fun f args H => match f, args with
  | 11, [] => some (.bool true, H)
  | _, _ => none
theorem says1 : Says Try.prog T G0 orc1 := fun f args H v H' h k hk => by
  unfold orc1 at h
  split at h
  · cases h
    exact run_at (C := rCall T G0 fns (fun _ _ _ => none) 40) (runs 40) rfl rfl awake_run H hk
  · cases h
noncomputable abbrev R0 : RCall := rCall T G0 fns orc1 40
theorem runs1 : Says Try.prog T G0 R0 := rCall_says tabOk says1 40
theorem run_neg (k : Nat) (b : Int) (p q : List UInt8) (c d : Int) (s : List UInt8) : answers (R0 9 [opOf (.negSucc k) b p q c d s] []) true = true := by kernel_rfl
theorem run_big (k : Nat) (b : Int) (p q : List UInt8) (c d : Int) (s : List UInt8) : answers (R0 9 [opOf (.ofNat (k + 9)) b p q c d s] []) true = true := by kernel_rfl
theorem run_0 (b : Int) (p q : List UInt8) (c d : Int) (s : List UInt8) : answers (R0 9 [opOf (.ofNat 0) b p q c d s] []) true = true := by kernel_rfl
theorem run_1 (b : Int) (p q : List UInt8) (c d : Int) (s : List UInt8) : answers (R0 9 [opOf (.ofNat 1) b p q c d s] []) true = true := by kernel_rfl
theorem run_2 (b : Int) (p q : List UInt8) (c d : Int) (s : List UInt8) : answers (R0 9 [opOf (.ofNat 2) b p q c d s] []) true = true := by kernel_rfl
theorem run_3 (b : Int) (p q : List UInt8) (c d : Int) (s : List UInt8) : answers (R0 9 [opOf (.ofNat 3) b p q c d s] []) true = true := by kernel_rfl
theorem run_4 (b : Int) (p q : List UInt8) (c d : Int) (s : List UInt8) : answers (R0 9 [opOf (.ofNat 4) b p q c d s] []) true = true := by kernel_rfl
theorem run_5 (b : Int) (p q : List UInt8) (c d : Int) (s : List UInt8) : answers (R0 9 [opOf (.ofNat 5) b p q c d s] []) true = true := by kernel_rfl
theorem run_6 (b : Int) (p q : List UInt8) (c d : Int) (s : List UInt8) : answers (R0 9 [opOf (.ofNat 6) b p q c d s] []) true = true := by kernel_rfl
theorem run_7 (b : Int) (p q : List UInt8) (c d : Int) (s : List UInt8) : answers (R0 9 [opOf (.ofNat 7) b p q c d s] []) true = true := by kernel_rfl
theorem run_8 (b : Int) (p q : List UInt8) (c d : Int) (s : List UInt8) : answers (R0 9 [opOf (.ofNat 8) b p q c d s] []) true = true := by kernel_rfl
theorem run_op : ∀ (a b : Int) (p q : List UInt8) (c d : Int) (s : List UInt8), answers (R0 9 [opOf a b p q c d s] []) true = true
  | .negSucc k, b, p, q, c, d, s => run_neg k b p q c d s
  | .ofNat 0, b, p, q, c, d, s => run_0 b p q c d s
  | .ofNat 1, b, p, q, c, d, s => run_1 b p q c d s
  | .ofNat 2, b, p, q, c, d, s => run_2 b p q c d s
  | .ofNat 3, b, p, q, c, d, s => run_3 b p q c d s
  | .ofNat 4, b, p, q, c, d, s => run_4 b p q c d s
  | .ofNat 5, b, p, q, c, d, s => run_5 b p q c d s
  | .ofNat 6, b, p, q, c, d, s => run_6 b p q c d s
  | .ofNat 7, b, p, q, c, d, s => run_7 b p q c d s
  | .ofNat 8, b, p, q, c, d, s => run_8 b p q c d s
  | .ofNat (k + 9), b, p, q, c, d, s => run_big k b p q c d s
theorem run (f0 : Nat → Dt) : answers (R0 9 [argOf Try.prog 42 f0] []) true = true := by
  rw [arg_op]
  exact run_op _ _ _ _ _ _ _
theorem walk (v0 : Value) (W : World) (h0 : ∃ f : Nat → Dt, R (Cx.start W) (argOf Try.prog 42 f) v0) : Calls Try.prog 9 #[v0] W fun e W' => e = .returned (.bool true) ∧ RowKit.Below W.heap.size W W' := by
  obtain ⟨f0, h0⟩ := h0
  exact law_calls (T := T) tyOk (G := G0) (f := 9) (args := [argOf Try.prog 42 f0]) (b := true) (vs := [v0]) (run_answers (C := R0) (f := 9) (args := [argOf Try.prog 42 f0]) (H := []) (b := true) runs1 (run f0))
    (RL.cons' h0 RL.nil') (no_globals fun _ => rfl)
set_option maxRecDepth 100000 in
theorem lifted (os : Os) (started : os.Started) (H : Type) (enc : TypeId × Value → H) :
    ReturnsInHanded {} Try.checked os 9 .any (Rows.volNoneSpec.pre6 enc Try.prog Try.f9 Rows.volNoneRow.domain false) (Rows.volNoneSpec.post enc Try.prog Try.f9 false true false false) := by
  refine returnsInHanded_of_change_sized (C := Try.checked) own started (by kernel_rfl) Try.func9
    (ChangeSpec.witness6 (enc := enc) (C := Try.checked) false ⟨#[], #[.agg #[.int .i64 0, .int .i64 0, .string ⟨#[]⟩, .string ⟨#[]⟩, .int .i64 0, .int .i64 0, .string ⟨#[]⟩]], []⟩ 8 (by kernel_rfl) (by kernel_rfl) (by kernel_rfl) (by kernel_rfl)) ?_
  intro W base args ds gs before hval0 hW hcnd hsz0 _
  have hval : ∀ (j : Nat) t v, Try.f9.params[j]? = some t → args[j]? = some v → Value.okWide Try.prog W .any base t v := hval0
  have hW' := hW
  obtain ⟨p, q, hA0, hV, rfl, hfz, hnd⟩ := hW
  have hA : DataW.TrodAll enc Try.prog W 0 (fun _ => true) true Try.f9.params.toList args.toList ds p := hA0
  rw [Try.params9] at hA hval
  obtain ⟨v0, vs0, d0, ds0, p0, q0, hargs, rfl, rfl, h0, r0⟩ := trodAll_cons hA
  obtain ⟨rfl, rfl, rfl⟩ := trodAll_nil r0
  obtain rfl : args = #[v0] := by cases args; simp_all
  obtain ⟨rfl, rfl⟩ := trodVars_none hV
  have z0 := param_open (P := Try.prog) (t := 42) (by kernel_rfl) (hval 0 42 v0 rfl rfl)
  have k0 := h0
  have lt0 : ∀ x ∈ p0, x.block < W.heap.size := by obtain ⟨m, hm⟩ := k0; exact DataW.trod_lt m _ _ _ hm
  clear hA0 hval0 hsz0
  refine (walk _ W z0).mono fun e W' ⟨he, bel⟩ => ?_
  subst he
  exact ⟨_, rfl, _, _, _, [], _, [], hW', trodAll_mk1 (shut_bool Try.underlying4 _), (trodAll_cons_mk (Below.trod laidOut (by kernel_rfl) (of_decide_eq_true (by kernel_rfl)) k0 bel lt0) trodAll_mk0), rfl, bel.frame _, fun h => by cases h⟩
theorem over : Rows.volNoneRow.holds Try.pinned (OpenSpec.ofChange Rows.volNoneSpec) :=
  OpenClaim.holds_of_wide 9 Try.f9 rfl rfl rfl rfl rfl rfl rfl ⟨rfl, rfl, rfl, rfl, rfl⟩ rfl rfl rfl rfl rfl (by kernel_rfl) Try.func9 (by kernel_rfl)
    (of_decide_eq_true (by kernel_rfl)) (by unfold Func.isWrapper; first | (rw [if_pos (by decide +kernel)]; kernel_rfl) | (rw [if_neg (by decide +kernel)]; exact ⟨rfl, rfl⟩))
    (fun os started H enc _ => lifted os started H enc)
theorem proved : Rows.VolNoneSaid := over
end Go.Proofs.Ytgbdgobkgcfioaa.volNone
namespace Go.Proofs.Ytgbdgobkgcfioaa
/-- The row, under a short name, for the claim. -/
theorem volNone_holds : Rows.VolNoneSaid := volNone.proved
end Go.Proofs.Ytgbdgobkgcfioaa
