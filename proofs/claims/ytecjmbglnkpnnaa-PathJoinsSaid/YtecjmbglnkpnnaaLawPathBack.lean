/- The row of the law PathBack: the walk's answer, by the row's builders. -/
import Derived.Test.YtecjmbglnkpnnaaRows
import Derived.Test.YtecjmbglnkpnnaaEvJ
import Derived.Test.YtecjmbglnkpnnaaAbsRow
import Derived.WalkKit
import Derived.ProofKit
import Derived.OpenShut
import Derived.ShutString
import Derived.ChangeOld
import Derived.Below
import Derived.SizedLaws
namespace Go.Proofs.Ytecjmbglnkpnnaa.pathBack
open Go.ChangeShapes Go.WideShapes Go.ChangeAt Go.RowKit Go.Abs
open Go.ChangeMaps (open_string shut_string)
theorem own : ownKnob Try.prog.godebug = none := by kernel_rfl
theorem laidOut : laidOutB Try.prog = true := by kernel_rfl
/-- A slice of strings, as the walk takes it. -/
def IsStrs (W : World) (v : Value) : Prop := ∃ (nl ex : Bool) (l : List (List UInt8)), R (Cx.start W) (.lit nl ex (l.map .str) l.length) v ∧ ∀ y ∈ l, y.length ≤ 9223372036854775807
theorem walk (a : ByteArray) (v : Value) (W : World) (hv : IsStrs W v) : Calls Try.prog 5 #[.string a, v] W fun e W' => e = .returned (.bool true) ∧ RowKit.Below W.heap.size W W' := by
  obtain ⟨nl, ex, l, hr, hl⟩ := hv
  exact law_calls (T := T) tyOk (G := G0) (f := 5) (args := [.str a.data.toList, .lit nl ex (l.map .str) l.length]) (b := true) (vs := [.string a, v])
    (pathBack_ev a.data.toList nl ex l [] (fun r _ => r = .bool true) WF.nil hl rfl)
    (by simp only [RL]; exact ⟨_, _, rfl, by simp [R], _, _, rfl, hr, rfl⟩) (by intro g cs h; cases h)
theorem isStrs {H : Type} {enc : TypeId × Value → H} {W : World} {base fuel : Nat} {sp : Nat → Bool} {held : Bool} {x : DataW H × List MemPlace} {a : Option Addr} {len cap : Nat} (hv : Value.okWide Try.prog W .any base 24 (.slice a len cap))
    (h : DataW.trod enc Try.prog W 0 sp held fuel 24 [.slice a len cap] = some x) : IsStrs W (.slice a len cap) := by
  rcases open_strings Try.underlying24 Try.underlying9 (by kernel_rfl) h with ⟨hcs, _⟩ | ⟨a', len', cap', ss, hcs, _, hl, hm, hz, _, hcell, hwz⟩
  · simp at hcs
    obtain ⟨rfl, rfl, rfl⟩ := hcs
    exact ⟨true, true, [], R.nilsl, by simp⟩
  · simp at hcs
    obtain ⟨rfl, rfl, rfl⟩ := hcs
    have hspot : a'.spot = none := by
      simp only [Value.okWide, Try.underlying24, Cell.okWide, Cell.ok, World.has] at hv
      exact hv.2.2.2.1
    have hlen : len ≤ ss.length := by rw [hz]; split <;> omega
    refine ⟨false, false, (ss.take len).map fun s => s.data.toList, ?_, fun y hy => ?_⟩
    · have := R.strs (W := W) hspot hl hm hlen hcell
      simpa [List.length_take, Nat.min_eq_left hlen, Function.comp_def] using this
    · obtain ⟨z, hz1, rfl⟩ := List.mem_map.1 hy
      have h1 := hwz z (List.mem_of_mem_take hz1)
      unfold maxLen at h1
      have h2 : z.data.toList.length = z.size := Array.length_toList
      omega
set_option maxRecDepth 100000 in
theorem lifted (os : Os) (started : os.Started) (H : Type) (enc : TypeId × Value → H) :
    ReturnsInHanded {} Try.checked os 5 .any (Rows.pathBackSpec.pre6 enc Try.prog Try.f5 Rows.pathBackRow.domain false) (Rows.pathBackSpec.post enc Try.prog Try.f5 false true false false) := by
  refine returnsInHanded_of_change_sized (C := Try.checked) own started (by kernel_rfl) Try.func5
    (ChangeSpec.witness6 (enc := enc) (C := Try.checked) false ⟨#[], #[.string ByteArray.empty, .slice none 0 0], []⟩ 8 (by kernel_rfl) (by kernel_rfl) (by kernel_rfl) (by kernel_rfl)) ?_
  intro W base args ds gs before hval0 hW hcnd hsz0 _
  have hval : ∀ (j : Nat) t v, Try.f5.params[j]? = some t → args[j]? = some v → Value.okWide Try.prog W .any base t v := hval0
  have hW' := hW
  obtain ⟨p, q, hA0, hV, rfl, hfz, hnd⟩ := hW
  have hA : DataW.TrodAll enc Try.prog W 0 (fun _ => true) true Try.f5.params.toList args.toList ds p := hA0
  rw [Try.params5] at hA hval
  obtain ⟨v0, vs0, d0, ds0, p0, q0, hargs, rfl, rfl, h0, r0⟩ := trodAll_cons hA
  obtain ⟨v1, vs1, d1, ds1, p1, q1, rfl, rfl, rfl, h1, r1⟩ := trodAll_cons r0
  obtain ⟨rfl, rfl, rfl⟩ := trodAll_nil r1
  obtain rfl : args = #[v0, v1] := by cases args; simp_all
  obtain ⟨rfl, rfl⟩ := trodVars_none hV
  obtain ⟨a0, rfl, rfl, rfl, y0⟩ := open_string Try.underlying9 (hval 0 9 v0 rfl rfl) h0
  have o1 := hval 1 24 v1 rfl rfl
  obtain ⟨a1, len1, cap1, rfl⟩ := okWide_slice Try.underlying24 o1
  have k1 := h1
  have lt1 : ∀ x ∈ p1, x.block < W.heap.size := by obtain ⟨m, hm⟩ := k1; exact DataW.trod_lt m _ _ _ hm
  have z1 : IsStrs W (.slice a1 len1 cap1) := by
    obtain ⟨fuel, hf⟩ := h1
    exact isStrs o1 hf
  clear hA0 hval0 hsz0
  refine (walk a0 _ W z1).mono fun e W' ⟨he, bel⟩ => ?_
  subst he
  exact ⟨_, rfl, _, _, _, [], _, [], hW', trodAll_mk1 (shut_bool Try.underlying4 _), (trodAll_cons_mk (shut_string Try.underlying9 y0) (trodAll_cons_mk (Below.trod laidOut (by kernel_rfl) (of_decide_eq_true (by kernel_rfl)) k1 bel lt1) trodAll_mk0)), rfl, bel.frame _, fun h => by cases h⟩
theorem over : Rows.pathBackRow.holds Try.pinned (OpenSpec.ofChange Rows.pathBackSpec) :=
  OpenClaim.holds_of_wide 5 Try.f5 rfl rfl rfl rfl rfl rfl rfl ⟨rfl, rfl, rfl, rfl, rfl⟩ rfl rfl rfl rfl rfl (by kernel_rfl) Try.func5 (by kernel_rfl)
    (of_decide_eq_true (by kernel_rfl)) (by unfold Func.isWrapper; first | (rw [if_pos (by decide +kernel)]; kernel_rfl) | (rw [if_neg (by decide +kernel)]; exact ⟨rfl, rfl⟩))
    (fun os started H enc _ => lifted os started H enc)
theorem proved : Rows.PathBackSaid := over
end Go.Proofs.Ytecjmbglnkpnnaa.pathBack
namespace Go.Proofs.Ytecjmbglnkpnnaa
/-- The row, under a short name, for the claim. -/
theorem pathBack_holds : Rows.PathBackSaid := pathBack.proved
end Go.Proofs.Ytecjmbglnkpnnaa
