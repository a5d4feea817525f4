/- The abstract values and heaps, what they stand for in a world of the model, and that this lasts. -/
import Derived.WalkKit
import Derived.Below
import Derived.Laws.Rows
import Derived.Laws.Tables
import Derived.Laws.Append
import Derived.Laws.Cells
import Derived.ArgAppend
namespace Go.Abs

/-- Abstract values. `lit`: a slice whose cells are frozen, with all that they hold; `ref`: a slice over a live block. -/
inductive AV where
  | bool (b : Bool)
  | int (k : IntKind) (n : Int)
  | str (s : List UInt8)
  | nilptr
  | ptr (l off : Nat)
  | lptr (cs : List AV) (off : Nat)
  | lit (nl ex : Bool) (cs : List AV) (len : Nat)
  | ref (ex : Bool) (l off len sz : Nat)
  | fn (f : FuncId) (first caps : List AV)
  | nilfn
  | map (l : Nat)
  | nilmap
  | iface (t : TypeId) (v : AV)
  | nilif
  | agg (cs : List AV)
  | tup (cs : List AV)

def AV.isCell : AV → Bool
  | .agg _ | .tup _ => false
  | _ => true

/-- The cells that a value takes. -/
def AV.cells : AV → List AV
  | .agg cs => cs
  | v => [v]

/-- A block of the abstract heap. -/
inductive AB where
  | cells (cs : List AV)
  | map (es : List (AV × AV))
  | dead

abbrev AH := List AB

/-- How an abstract heap lies in a world: where each live block begins; which blocks are frozen; how many abstract blocks there are. -/
structure Cx where
  at_ : Nat → Nat × Nat
  F : Nat → Prop
  N : Nat
  w : World

/-- How many cells a block of a world has. -/
def bsz (w : World) (k : Nat) : Option Nat :=
  match w.heap[k]? with
  | some (.cells c _ _) => some c.size
  | _ => none

mutual
/-- What a value stands for. -/
def R (x : Cx) : AV → Value → Prop
  | .bool b, v => v = .bool b
  | .int k n, v => v = .int k n
  | .str s, v => v = .string ⟨s.toArray⟩
  | .nilptr, v => v = .pointer none
  | .ptr l off, v => l < x.N ∧ v = .pointer (some ⟨(x.at_ l).1, (x.at_ l).2 + off, none⟩)
  | .lptr cs off, v => ∃ b o vs, v = .pointer (some ⟨b, o + off, none⟩) ∧ x.F b ∧ RL x cs vs ∧ (∀ a ∈ cs, a.isCell = true) ∧ ∀ i u, vs[i]? = some u → x.w.cell? ⟨b, o + i, none⟩ = some u
  | .lit nl ex cs len, v => (nl = true ∧ v = .slice none 0 0 ∧ cs = [] ∧ len = 0) ∨
      (nl = false ∧ ∃ b o cap vs, v = .slice (some ⟨b, o, none⟩) len cap ∧ len ≤ cap ∧ cap ≤ maxLen ∧ (ex = true → cap = len) ∧ RL x cs vs ∧ (∀ a ∈ cs, a.isCell = true) ∧ (cs = [] ∨ x.F b) ∧ ∀ i u, vs[i]? = some u → x.w.cell? ⟨b, o + i, none⟩ = some u)
  | .ref ex l off len sz, v => l < x.N ∧ ∃ cap S o, v = .slice (some ⟨(x.at_ l).1, o, none⟩) len cap ∧ (0 < cap → o = (x.at_ l).2 + off) ∧ len ≤ cap ∧ cap ≤ maxLen ∧ (ex = true → cap = len) ∧
      bsz x.w (x.at_ l).1 = some S ∧ (x.at_ l).2 + off + cap * sz ≤ S
  | .fn f first caps, v => ∃ fs cs, v = .func (.func f) fs.toArray cs.toArray ∧ RL x first fs ∧ RL x caps cs
  | .nilfn, v => v = .nilFunc
  | .map l, v => l < x.N ∧ v = .map (some (x.at_ l).1)
  | .nilmap, v => v = .map none
  | .iface t a, v => ∃ u, v = .iface t u ∧ R x a u
  | .nilif, v => v = .nilIface
  | .agg cs, v => (∀ a ∈ cs, a.isCell = true) ∧ ∃ vs, v = .agg vs.toArray ∧ RL x cs vs
  | .tup cs, v => ∃ vs, v = .tuple vs.toArray ∧ RL x cs vs
def RL (x : Cx) : List AV → List Value → Prop
  | [], vs => vs = []
  | a :: as, vs => ∃ v r, vs = v :: r ∧ R x a v ∧ RL x as r
end

/-- One world behind another: what was frozen is as it was, blocks keep their sizes, abstract blocks keep their places. -/
structure Keeps (x y : Cx) : Prop where
  at_ : ∀ l, l < x.N → y.at_ l = x.at_ l
  N : x.N ≤ y.N
  F : ∀ k, x.F k → y.F k
  heap : ∀ k, x.F k → y.w.heap[k]? = x.w.heap[k]?
  sz : ∀ k s, bsz x.w k = some s → bsz y.w k = some s

theorem Keeps.refl (x : Cx) : Keeps x x := ⟨fun _ _ => rfl, Nat.le_refl _, fun _ h => h, fun _ _ => rfl, fun _ _ h => h⟩
theorem Keeps.trans {x y z : Cx} (h : Keeps x y) (k : Keeps y z) : Keeps x z :=
  ⟨fun l hl => (k.at_ l (Nat.lt_of_lt_of_le hl h.N)).trans (h.at_ l hl), Nat.le_trans h.N k.N, fun b hb => k.F b (h.F b hb), fun b hb => (k.heap b (h.F b hb)).trans (h.heap b hb), fun b s hb => k.sz b s (h.sz b s hb)⟩

theorem Keeps.cell {x y : Cx} (h : Keeps x y) {b o : Nat} {u : Value} (hb : x.F b) (hc : x.w.cell? ⟨b, o, none⟩ = some u) : y.w.cell? ⟨b, o, none⟩ = some u := by
  simp only [World.cell?] at *
  rw [h.heap b hb]
  exact hc

mutual
theorem R.keeps {x y : Cx} (h : Keeps x y) : ∀ (a : AV) (v : Value), R x a v → R y a v
  | .bool _, _, hr => by simpa [R] using hr
  | .int _ _, _, hr => by simpa [R] using hr
  | .str _, _, hr => by simpa [R] using hr
  | .nilptr, _, hr => by simpa [R] using hr
  | .ptr l off, v, hr => by
    simp only [R] at *
    exact ⟨Nat.lt_of_lt_of_le hr.1 h.N, by rw [h.at_ l hr.1]; exact hr.2⟩
  | .lptr cs off, v, hr => by
    simp only [R] at *
    obtain ⟨b, o, vs, e, hf, hl, hk, hc⟩ := hr
    exact ⟨b, o, vs, e, h.F b hf, RL.keeps h cs vs hl, hk, fun i u hu => h.cell hf (hc i u hu)⟩
  | .lit nl ex cs len, v, hr => by
    simp only [R] at *
    rcases hr with hr | ⟨hn, b, o, cap, vs, e, h1, h2, h3, hl, hk, hf, hc⟩
    · exact .inl hr
    · refine .inr ⟨hn, b, o, cap, vs, e, h1, h2, h3, RL.keeps h cs vs hl, hk, hf.imp id (h.F b), fun i u hu => ?_⟩
      rcases hf with rfl | hf
      · simp only [RL] at hl
        subst hl
        simp at hu
      · exact h.cell hf (hc i u hu)
  | .ref ex l off len sz, v, hr => by
    simp only [R] at *
    obtain ⟨hl, cap, S, o, e, h0, h1, h2, h3, h4, h5⟩ := hr
    rw [h.at_ l hl]
    exact ⟨Nat.lt_of_lt_of_le hl h.N, cap, S, o, e, h0, h1, h2, h3, h.sz _ _ h4, h5⟩
  | .fn f first caps, v, hr => by
    simp only [R] at *
    obtain ⟨fs, cs, e, h1, h2⟩ := hr
    exact ⟨fs, cs, e, RL.keeps h _ _ h1, RL.keeps h _ _ h2⟩
  | .nilfn, _, hr => by simpa [R] using hr
  | .map l, v, hr => by
    simp only [R] at *
    exact ⟨Nat.lt_of_lt_of_le hr.1 h.N, by rw [h.at_ l hr.1]; exact hr.2⟩
  | .nilmap, _, hr => by simpa [R] using hr
  | .iface t a, v, hr => by
    simp only [R] at *
    obtain ⟨u, e, hu⟩ := hr
    exact ⟨u, e, R.keeps h a u hu⟩
  | .nilif, _, hr => by simpa [R] using hr
  | .agg cs, v, hr => by
    simp only [R] at *
    obtain ⟨hk, vs, e, hl⟩ := hr
    exact ⟨hk, vs, e, RL.keeps h cs vs hl⟩
  | .tup cs, v, hr => by
    simp only [R] at *
    obtain ⟨vs, e, hl⟩ := hr
    exact ⟨vs, e, RL.keeps h cs vs hl⟩
theorem RL.keeps {x y : Cx} (h : Keeps x y) : ∀ (as : List AV) (vs : List Value), RL x as vs → RL y as vs
  | [], _, hr => by simpa [RL] using hr
  | a :: as, vs, hr => by
    simp only [RL] at *
    obtain ⟨v, r, e, h1, h2⟩ := hr
    exact ⟨v, r, e, R.keeps h a v h1, RL.keeps h as r h2⟩
end

end Go.Abs
