/- The sort of blobs by their numbers, by the library's contract; Compact. -/
import Derived.Test.YtbdomlbmbcnaeaaAbnD
import Derived.Test.YtbdomlbmbcnaeaaLay
import Derived.Test.YtbdomlbmbcnaeaaTab
namespace Go.Proofs.Ytbdomlbmbcnaeaa
open Go.Abs Go.Shelf Go.RowKit Go.Lib Go.Sort Go.Proofs
structure Held where
  Number : Int
  Size : Int
def cHeld (x : Held) : List AV := (cI .i64) x.Number ++ (cI .i64) x.Size
def eqHeld (a b : Held) : Bool := ((a.Number == b.Number) && ((a.Size == b.Size) && true))
theorem low_cHeld {n : Nat} (x : Held) : lows n (cHeld x) = true := (lows_app (low_cI _) (low_cI _))
theorem len_cHeld (x : Held) : (cHeld x).length = 2 := by kernel_rfl
/-- Numbers that may be. -/
def okN (x : Held) : Bool := decide (0 ≤ x.Number) && decide (x.Number ≤ 2199023255552)
abbrev HN := { x : Held // okN x = true }
instance : Inhabited HN := ⟨⟨⟨0, 0⟩, rfl⟩⟩
def encH (x : HN) : List Value := [.int .i64 x.1.Number, .int .i64 x.1.Size]
def cmpH (x y : HN) : Int := x.1.Number - y.1.Number
theorem ltH (x y : HN) : ltOf cmpH x y = decide (x.1.Number < y.1.Number) := by
  unfold ltOf cmpH
  rw [Bool.eq_iff_iff]
  simp only [decide_eq_true_eq]
  omega
theorem swoH : SWO (ltOf cmpH) where
  irrefl x := by rw [ltH]; simp
  trans x y z h1 h2 := by rw [ltH] at *; simp at *; omega
  ntrans x y z h1 h2 := by rw [ltH] at *; simp at *; omega
theorem closure29 (x y : HN) (W : World) : Calls Try.prog 29 #[.agg (encH x).toArray, .agg (encH y).toArray] W fun e w' => e = .returned (.int .i64 (cmpH x y)) ∧ ∃ q os', w' = grow (W.drewN q) os' := by
  have hx : (0 : Int) ≤ x.1.Number ∧ x.1.Number ≤ 2199023255552 := by have := x.2; simpa [okN] using this
  have hy : (0 : Int) ≤ y.1.Number ∧ y.1.Number ≤ 2199023255552 := by have := y.2; simpa [okN] using this
  have hw : IntKind.i64.wrap (x.1.Number - y.1.Number) = cmpH x y := by
    unfold cmpH
    simp [IntKind.wrap, IntKind.bits, IntKind.signed]
    omega
  unfold encH
  generalize x.1.Number = a at *
  generalize y.1.Number = b at *
  generalize x.1.Size = a2 at *
  generalize y.1.Size = b2 at *
  go_enter Try.func29, Try.ntmps29
  go_wp2
  go_ret
  refine ⟨by rw [← hw]; rfl, 0, _, by rw [alloc_eq_grow, alloc_eq_grow, grow_grow]; rfl⟩
def arrH (l : List Held) (h : ∀ y ∈ l, okN y = true) : Array HN := (l.pmap Subtype.mk h).toArray
theorem arrH_val (l : List Held) (h : ∀ y ∈ l, okN y = true) : (arrH l h).toList.map (·.1) = l := by
  unfold arrH
  rw [List.map_pmap]
  simp
theorem arrH_size (l : List Held) (h : ∀ y ∈ l, okN y = true) : (arrH l h).size = l.length := by simp [arrH]
def sortLH (l : List Held) (h : ∀ y ∈ l, okN y = true) : List Held := (pdq (ltOf cmpH) (arrH l h) 0 (arrH l h).size (Lib.bitLen (arrH l h).size) true true).toList.map (·.1)
def sortHeld (x : Sl Held) : Option (Sl Held) := if h : (∀ y ∈ x.l, okN y = true) ∧ x.l.length < 4611686018427387904 then some ⟨x.nl, x.ex, sortLH x.l h.1⟩ else none
theorem sort_facts (l : List Held) (h : ∀ y ∈ l, okN y = true) : (sortLH l h).Perm l ∧ (sortLH l h).Pairwise (fun a b => a.Number ≤ b.Number) := by
  obtain ⟨⟨h1, _, h2⟩, h3⟩ := pdq_sorts (ltOf cmpH) swoH (arrH l h) 0 (arrH l h).size (Lib.bitLen (arrH l h).size) true true (Nat.zero_le _) (Nat.le_refl _) (Or.inl rfl)
  unfold sortLH
  generalize pdq (ltOf cmpH) (arrH l h) 0 (arrH l h).size (Lib.bitLen (arrH l h).size) true true = d' at *
  constructor
  · have e1 : d'.extract 0 (arrH l h).size = d' := by rw [← h1]; simp
    have e2 : (arrH l h).extract 0 (arrH l h).size = arrH l h := by simp
    rw [e1, e2] at h2
    have := h2.map (fun y : HN => y.1)
    rwa [arrH_val] at this
  · rw [List.pairwise_iff_getElem]
    intro i j hi hj hij
    rw [List.length_map, Array.length_toList] at hi hj
    have := h3 i j (Nat.zero_le _) hij (by rw [← h1]; exact hj)
    rw [ltH] at this
    simp only [decide_eq_false_iff_not, Int.not_lt] at this
    rw [getElem!_pos d' i hi, getElem!_pos d' j hj] at this
    simpa using this
theorem sortHeld_spec {x r : Sl Held} (h : sortHeld x = some r) : r.nl = x.nl ∧ r.l.Perm x.l ∧ r.l.Pairwise (fun a b => a.Number ≤ b.Number) := by
  unfold sortHeld at h
  split at h
  · rename_i hc
    cases h
    exact ⟨rfl, sort_facts x.l hc.1⟩
  · cases h
theorem sortHeld_len {x r : Sl Held} (h : sortHeld x = some r) : r.l.length = x.l.length := (sortHeld_spec h).2.1.length_eq
theorem sortHeld_nl {x r : Sl Held} (h : sortHeld x = some r) : r.nl = x.nl := (sortHeld_spec h).1
theorem sortHeld_ev {ex : Bool} {x r : Sl Held} (h : sortHeld x = some r) : EvCall Try.prog T G0 28 [rfv ex x 0 2, .fn 29 [] []] [rfb cHeld x] (fun v H' => v = .tup [] ∧ H' = [rfb cHeld r]) := by
  unfold sortHeld at h
  split at h
  · rename_i hc
    cases h
    have eg : ∀ args w, (callFunc 29 args).run Try.prog w = .ok (.enter 29 args) w := enters_of Try.func29 (by kernel_rfl) rfl
    exact sort_ev (T := T) (G := G0) (c := cHeld) (k := 2) (enc := encH) Try.sortL (fun _ => rfl) (fun _ => rfl) (fun _ => trivial) (fun y => y.1) (fun _ => rfl) (by decide) Try.isAgg41 Try.sizeOf41 cmpH swoH 29 eg closure29
      ⟨_, _, Try.func28, rfl, by kernel_rfl⟩ (AnyF.slices_SortFunc_none Try.sortL) (arrH_val x.l hc.1) (by rw [arrH_size]; exact hc.2)
  · cases h
end Go.Proofs.Ytbdomlbmbcnaeaa
