/- The row of the law PathJoins: the walk's answer, by the row's builders. -/
import Derived.Test.YtecjmbglnkpnnaaLawPathBack
import Derived.Test.YtecjmbglnkpnnaaEvM
namespace Go.Proofs.Ytecjmbglnkpnnaa.pathJoins
open Go.ChangeShapes Go.WideShapes Go.ChangeAt Go.RowKit Go.Abs
open pathBack (IsStrs isStrs laidOut own)
theorem walk (v0 : Value) (v1 : Value) (W : World) (h0 : IsStrs W v0) (h1 : IsStrs W v1) : Calls Try.prog 7 #[v0, v1] W fun e W' => e = .returned (.bool true) ∧ RowKit.Below W.heap.size W W' := by
  obtain ⟨nl0, ex0, l0, hr0, hl0⟩ := h0
  obtain ⟨nl1, ex1, l1, hr1, hl1⟩ := h1
  exact law_calls (T := T) tyOk (G := G0) (f := 7) (args := [.lit nl0 ex0 (l0.map .str) l0.length, .lit nl1 ex1 (l1.map .str) l1.length]) (b := true) (vs := [v0, v1])
    (pathJoins_ev nl0 ex0 nl1 ex1 l0 l1 [] (fun r _ => r = .bool true) WF.nil (fun _ => rfl))
    (by simp only [RL]; exact ⟨_, _, rfl, hr0, _, _, rfl, hr1, rfl⟩) (by intro g cs h; cases h)
set_option maxRecDepth 100000 in
theorem lifted (os : Os) (started : os.Started) (H : Type) (enc : TypeId × Value → H) :
    ReturnsInHanded {} Try.checked os 7 .any (Rows.pathJoinsSpec.pre6 enc Try.prog Try.f7 Rows.pathJoinsRow.domain false) (Rows.pathJoinsSpec.post enc Try.prog Try.f7 false true false false) := by
  refine returnsInHanded_of_change_sized (C := Try.checked) own started (by kernel_rfl) Try.func7
    (ChangeSpec.witness6 (enc := enc) (C := Try.checked) false ⟨#[], #[.slice none 0 0, .slice none 0 0], []⟩ 8 (by kernel_rfl) (by kernel_rfl) (by kernel_rfl) (by kernel_rfl)) ?_
  intro W base args ds gs before hval0 hW hcnd hsz0 _
  have hval : ∀ (j : Nat) t v, Try.f7.params[j]? = some t → args[j]? = some v → Value.okWide Try.prog W .any base t v := hval0
  have hW' := hW
  obtain ⟨p, q, hA0, hV, rfl, hfz, hnd⟩ := hW
  have hA : DataW.TrodAll enc Try.prog W 0 (fun _ => true) true Try.f7.params.toList args.toList ds p := hA0
  rw [Try.params7] at hA hval
  obtain ⟨v0, vs0, d0, ds0, p0, q0, hargs, rfl, rfl, h0, r0⟩ := trodAll_cons hA
  obtain ⟨v1, vs1, d1, ds1, p1, q1, rfl, rfl, rfl, h1, r1⟩ := trodAll_cons r0
  obtain ⟨rfl, rfl, rfl⟩ := trodAll_nil r1
  obtain rfl : args = #[v0, v1] := by cases args; simp_all
  obtain ⟨rfl, rfl⟩ := trodVars_none hV
  have o0 := hval 0 24 v0 rfl rfl
  obtain ⟨a0, len0, cap0, rfl⟩ := okWide_slice Try.underlying24 o0
  have k0 := h0
  have lt0 : ∀ x ∈ p0, x.block < W.heap.size := by obtain ⟨m, hm⟩ := k0; exact DataW.trod_lt m _ _ _ hm
  have z0 : IsStrs W (.slice a0 len0 cap0) := by
    obtain ⟨fuel, hf⟩ := h0
    exact isStrs o0 hf
  have o1 := hval 1 24 v1 rfl rfl
  obtain ⟨a1, len1, cap1, rfl⟩ := okWide_slice Try.underlying24 o1
  have k1 := h1
  have lt1 : ∀ x ∈ p1, x.block < W.heap.size := by obtain ⟨m, hm⟩ := k1; exact DataW.trod_lt m _ _ _ hm
  have z1 : IsStrs W (.slice a1 len1 cap1) := by
    obtain ⟨fuel, hf⟩ := h1
    exact isStrs o1 hf
  clear hA0 hval0 hsz0
  refine (walk _ _ W z0 z1).mono fun e W' ⟨he, bel⟩ => ?_
  subst he
  exact ⟨_, rfl, _, _, _, [], _, [], hW', trodAll_mk1 (shut_bool Try.underlying4 _), (trodAll_cons_mk (Below.trod laidOut (by kernel_rfl) (of_decide_eq_true (by kernel_rfl)) k0 bel lt0) (trodAll_cons_mk (Below.trod laidOut (by kernel_rfl) (of_decide_eq_true (by kernel_rfl)) k1 bel lt1) trodAll_mk0)), rfl, bel.frame _, fun h => by cases h⟩
theorem over : Rows.pathJoinsRow.holds Try.pinned (OpenSpec.ofChange Rows.pathJoinsSpec) :=
  OpenClaim.holds_of_wide 7 Try.f7 rfl rfl rfl rfl rfl rfl rfl ⟨rfl, rfl, rfl, rfl, rfl⟩ rfl rfl rfl rfl rfl (by kernel_rfl) Try.func7 (by kernel_rfl)
    (of_decide_eq_true (by kernel_rfl)) (by unfold Func.isWrapper; first | (rw [if_pos (by decide +kernel)]; kernel_rfl) | (rw [if_neg (by decide +kernel)]; exact ⟨rfl, rfl⟩))
    (fun os started H enc _ => lifted os started H enc)
theorem proved : Rows.PathJoinsSaid := over
end Go.Proofs.Ytecjmbglnkpnnaa.pathJoins
namespace Go.Proofs.Ytecjmbglnkpnnaa
/-- The row, under a short name, for the claim. -/
theorem pathJoins_holds : Rows.PathJoinsSaid := pathJoins.proved
end Go.Proofs.Ytecjmbglnkpnnaa
