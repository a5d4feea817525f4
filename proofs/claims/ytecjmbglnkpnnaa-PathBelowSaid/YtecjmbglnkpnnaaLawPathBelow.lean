/- The row of the law PathBelow: the walk's answer, by the row's builders. -/
import Derived.Test.YtecjmbglnkpnnaaLawPathBack
import Derived.Test.YtecjmbglnkpnnaaEvM
namespace Go.Proofs.Ytecjmbglnkpnnaa.pathBelow
open Go.ChangeShapes Go.WideShapes Go.ChangeAt Go.RowKit Go.Abs
open pathBack (IsStrs isStrs laidOut own)
theorem walk (v0 : Value) (v1 : Value) (v2 : Value) (W : World) (h0 : IsStrs W v0) (h1 : IsStrs W v1) (h2 : IsStrs W v2) : Calls Try.prog 6 #[v0, v1, v2] W fun e W' => e = .returned (.bool true) ∧ RowKit.Below W.heap.size W W' := by
  obtain ⟨nl0, ex0, l0, hr0, hl0⟩ := h0
  obtain ⟨nl1, ex1, l1, hr1, hl1⟩ := h1
  obtain ⟨nl2, ex2, l2, hr2, hl2⟩ := h2
  exact law_calls (T := T) tyOk (G := G0) (f := 6) (args := [.lit nl0 ex0 (l0.map .str) l0.length, .lit nl1 ex1 (l1.map .str) l1.length, .lit nl2 ex2 (l2.map .str) l2.length]) (b := true) (vs := [v0, v1, v2])
    (pathBelow_ev nl0 ex0 nl1 ex1 nl2 ex2 l0 l1 l2 [] (fun r _ => r = .bool true) WF.nil (fun _ => rfl))
    (by simp only [RL]; exact ⟨_, _, rfl, hr0, _, _, rfl, hr1, _, _, rfl, hr2, rfl⟩) (by intro g cs h; cases h)
set_option maxRecDepth 100000 in
theorem lifted (os : Os) (started : os.Started) (H : Type) (enc : TypeId × Value → H) :
    ReturnsInHanded {} Try.checked os 6 .any (Rows.pathBelowSpec.pre6 enc Try.prog Try.f6 Rows.pathBelowRow.domain false) (Rows.pathBelowSpec.post enc Try.prog Try.f6 false true false false) := by
  refine returnsInHanded_of_change_sized (C := Try.checked) own started (by kernel_rfl) Try.func6
    (ChangeSpec.witness6 (enc := enc) (C := Try.checked) false ⟨#[], #[.slice none 0 0, .slice none 0 0, .slice none 0 0], []⟩ 8 (by kernel_rfl) (by kernel_rfl) (by kernel_rfl) (by kernel_rfl)) ?_
  intro W base args ds gs before hval0 hW hcnd hsz0 _
  have hval : ∀ (j : Nat) t v, Try.f6.params[j]? = some t → args[j]? = some v → Value.okWide Try.prog W .any base t v := hval0
  have hW' := hW
  obtain ⟨p, q, hA0, hV, rfl, hfz, hnd⟩ := hW
  have hA : DataW.TrodAll enc Try.prog W 0 (fun _ => true) true Try.f6.params.toList args.toList ds p := hA0
  rw [Try.params6] at hA hval
  obtain ⟨v0, vs0, d0, ds0, p0, q0, hargs, rfl, rfl, h0, r0⟩ := trodAll_cons hA
  obtain ⟨v1, vs1, d1, ds1, p1, q1, rfl, rfl, rfl, h1, r1⟩ := trodAll_cons r0
  obtain ⟨v2, vs2, d2, ds2, p2, q2, rfl, rfl, rfl, h2, r2⟩ := trodAll_cons r1
  obtain ⟨rfl, rfl, rfl⟩ := trodAll_nil r2
  obtain rfl : args = #[v0, v1, v2] := by cases args; simp_all
  obtain ⟨rfl, rfl⟩ := trodVars_none hV
  have o0 := hval 0 24 v0 rfl rfl
  obtain ⟨a0, len0, cap0, rfl⟩ := okWide_slice Try.underlying24 o0
  have k0 := h0
  have lt0 : ∀ x ∈ p0, x.block < W.heap.size := by obtain ⟨m, hm⟩ := k0; exact DataW.trod_lt m _ _ _ hm
  have z0 : IsStrs W (.slice a0 len0 cap0) := by
    obtain ⟨fuel, hf⟩ := h0
    exact isStrs o0 hf
  have o1 := hval 1 24 v1 rfl rfl
  obtain ⟨a1, len1, cap1, rfl⟩ := okWide_slice Try.underlying24 o1
  have k1 := h1
  have lt1 : ∀ x ∈ p1, x.block < W.heap.size := by obtain ⟨m, hm⟩ := k1; exact DataW.trod_lt m _ _ _ hm
  have z1 : IsStrs W (.slice a1 len1 cap1) := by
    obtain ⟨fuel, hf⟩ := h1
    exact isStrs o1 hf
  have o2 := hval 2 24 v2 rfl rfl
  obtain ⟨a2, len2, cap2, rfl⟩ := okWide_slice Try.underlying24 o2
  have k2 := h2
  have lt2 : ∀ x ∈ p2, x.block < W.heap.size := by obtain ⟨m, hm⟩ := k2; exact DataW.trod_lt m _ _ _ hm
  have z2 : IsStrs W (.slice a2 len2 cap2) := by
    obtain ⟨fuel, hf⟩ := h2
    exact isStrs o2 hf
  clear hA0 hval0 hsz0
  refine (walk _ _ _ W z0 z1 z2).mono fun e W' ⟨he, bel⟩ => ?_
  subst he
  exact ⟨_, rfl, _, _, _, [], _, [], hW', trodAll_mk1 (shut_bool Try.underlying4 _), (trodAll_cons_mk (Below.trod laidOut (by kernel_rfl) (of_decide_eq_true (by kernel_rfl)) k0 bel lt0) (trodAll_cons_mk (Below.trod laidOut (by kernel_rfl) (of_decide_eq_true (by kernel_rfl)) k1 bel lt1) (trodAll_cons_mk (Below.trod laidOut (by kernel_rfl) (of_decide_eq_true (by kernel_rfl)) k2 bel lt2) trodAll_mk0))), rfl, bel.frame _, fun h => by cases h⟩
theorem over : Rows.pathBelowRow.holds Try.pinned (OpenSpec.ofChange Rows.pathBelowSpec) :=
  OpenClaim.holds_of_wide 6 Try.f6 rfl rfl rfl rfl rfl rfl rfl ⟨rfl, rfl, rfl, rfl, rfl⟩ rfl rfl rfl rfl rfl (by kernel_rfl) Try.func6 (by kernel_rfl)
    (of_decide_eq_true (by kernel_rfl)) (by unfold Func.isWrapper; first | (rw [if_pos (by decide +kernel)]; kernel_rfl) | (rw [if_neg (by decide +kernel)]; exact ⟨rfl, rfl⟩))
    (fun os started H enc _ => lifted os started H enc)
theorem proved : Rows.PathBelowSaid := over
end Go.Proofs.Ytecjmbglnkpnnaa.pathBelow
namespace Go.Proofs.Ytecjmbglnkpnnaa
/-- The row, under a short name, for the claim. -/
theorem pathBelow_holds : Rows.PathBelowSaid := pathBelow.proved
end Go.Proofs.Ytecjmbglnkpnnaa
