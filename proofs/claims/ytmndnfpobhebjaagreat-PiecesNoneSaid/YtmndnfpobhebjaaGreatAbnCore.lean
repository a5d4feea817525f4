/- The abstract values and heaps, what they stand for in a world of the model, and that this lasts. -/
import Derived.WalkKit
import Derived.Below
import Derived.Laws.Rows
import Derived.Laws.Tables
import Derived.Laws.Append
import Derived.Laws.Cells
import Derived.ArgAppend
namespace Go.Abs

/-- Abstract values. `lit`: a slice whose cells are frozen, with all that they hold; `ref`: a slice over a live block. -/
inductive AV where
  | bool (b : Bool)
  | int (k : IntKind) (n : Int)
  | str (s : List UInt8)
  | nilptr
  | ptr (l off : Nat)
  | lptr (cs : List AV) (off : Nat)
  | lit (nl ex : Bool) (cs : List AV) (len : Nat)
  | ref (ex : Bool) (l off len sz : Nat)
  | fn (f : FuncId) (first caps : List AV)
  | nilfn
  | map (l : Nat)
  | nilmap
  | iface (t : TypeId) (v : AV)
  | nilif
  | agg (cs : List AV)
  | tup (cs : List AV)
  | own (l ver : Nat) (nl : Bool) (cs : List AV) (len sz : Nat)
  | any

def AV.isCell : AV → Bool
  | .agg _ | .tup _ | .any => false
  | _ => true

/-- The cells that a value takes. -/
def AV.cells : AV → List AV
  | .agg cs => cs
  | v => [v]

/-- A block of the abstract heap. -/
inductive AB where
  | cells (cs : List AV)
  | map (es : List (AV × AV)) (bs : List Nat) (clock : Nat)
  | iter (src : Option Nat) (since : Nat) (seen : List Nat) (last : Nat)
  | room (ver : Nat) (real : Bool)
  | dead

abbrev AH := List AB

/-- How an abstract heap lies in a world: where each live block begins (of a room: where it begins in its block of the world); the version of a room (0: no room), and whether it is there; which blocks are frozen, below which cell; how many abstract blocks there are. -/
structure Cx where
  at_ : Nat → Nat × Nat
  ver : Nat → Nat
  rl : Nat → Bool
  F : Nat → Nat → Prop
  N : Nat
  w : World

/-- Frozen below a cell. -/
def Cx.Fz (x : Cx) (b m : Nat) : Prop := ∃ q, m ≤ q ∧ x.F b q
theorem Cx.Fz.le {x : Cx} {b m n : Nat} (h : x.Fz b m) (hn : n ≤ m) : x.Fz b n := by
  obtain ⟨q, h1, h2⟩ := h
  exact ⟨q, Nat.le_trans hn h1, h2⟩
theorem Cx.Fz.of {x : Cx} {b m : Nat} (h : x.F b m) : x.Fz b m := ⟨m, Nat.le_refl _, h⟩
/-- How many cells a block of a world has. -/
def bsz (w : World) (k : Nat) : Option Nat :=
  match w.heap[k]? with
  | some (.cells c _ _) => some c.size
  | _ => none

mutual
/-- What a value stands for. -/
def R (x : Cx) : AV → Value → Prop
  | .bool b, v => v = .bool b
  | .int k n, v => v = .int k n
  | .str s, v => v = .string ⟨s.toArray⟩
  | .nilptr, v => v = .pointer none
  | .ptr l off, v => l < x.N ∧ x.ver l = 0 ∧ v = .pointer (some ⟨(x.at_ l).1, (x.at_ l).2 + off, none⟩)
  | .lptr cs off, v => ∃ b o vs, v = .pointer (some ⟨b, o + off, none⟩) ∧ x.Fz b (o + cs.length) ∧ RL x cs vs ∧ (∀ a ∈ cs, a.isCell = true) ∧ ∀ i u, vs[i]? = some u → x.w.cell? ⟨b, o + i, none⟩ = some u
  | .lit nl ex cs len, v => (nl = true ∧ v = .slice none 0 0 ∧ cs = [] ∧ len = 0) ∨
      (nl = false ∧ ∃ b o cap vs, v = .slice (some ⟨b, o, none⟩) len cap ∧ len ≤ cap ∧ cap ≤ maxLen ∧ (ex = true → cap = len) ∧ RL x cs vs ∧ (∀ a ∈ cs, a.isCell = true) ∧ (cs = [] ∨ x.Fz b (o + cs.length)) ∧ ∀ i u, vs[i]? = some u → x.w.cell? ⟨b, o + i, none⟩ = some u)
  | .ref ex l off len sz, v => l < x.N ∧ x.ver l = 0 ∧ ∃ cap S o, v = .slice (some ⟨(x.at_ l).1, o, none⟩) len cap ∧ (0 < cap → o = (x.at_ l).2 + off) ∧ len ≤ cap ∧ cap ≤ maxLen ∧ (ex = true → cap = len) ∧
      bsz x.w (x.at_ l).1 = some S ∧ (x.at_ l).2 + off + cap * sz ≤ S
  | .fn f first caps, v => ∃ fs cs, v = .func (.func f) fs.toArray cs.toArray ∧ RL x first fs ∧ RL x caps cs
  | .nilfn, v => v = .nilFunc
  | .map l, v => l < x.N ∧ x.ver l = 0 ∧ v = .map (some (x.at_ l).1)
  | .nilmap, v => v = .map none
  | .iface t a, v => ∃ u, v = .iface t u ∧ R x a u
  | .nilif, v => v = .nilIface
  | .agg cs, v => (∀ a ∈ cs, a.isCell = true) ∧ ∃ vs, v = .agg vs.toArray ∧ RL x cs vs
  | .tup cs, v => ∃ vs, v = .tuple vs.toArray ∧ RL x cs vs
  | .own l ver nl cs len sz, v => (l < x.N ∧ 0 < ver ∧ ver ≤ x.ver l ∧ cs.length = len * sz) ∧ ((nl = true ∧ v = .slice none 0 0 ∧ cs = [] ∧ len = 0) ∨
      (nl = false ∧ ∃ b o cap vs, v = .slice (some ⟨b, o, none⟩) len cap ∧ len ≤ cap ∧ cap ≤ maxLen ∧ RL x cs vs ∧ (∀ a ∈ cs, a.isCell = true) ∧ (cs = [] ∨ x.Fz b (o + cs.length)) ∧ (∀ i u, vs[i]? = some u → x.w.cell? ⟨b, o + i, none⟩ = some u) ∧
        (x.ver l = ver → cap = len ∨ (x.rl l = true ∧ x.at_ l = (b, o + cs.length) ∧ ∃ S, bsz x.w b = some S ∧ o + cap * sz ≤ S))))
  | .any, v => ∀ b, v ≠ .bool b
def RL (x : Cx) : List AV → List Value → Prop
  | [], vs => vs = []
  | a :: as, vs => ∃ v r, vs = v :: r ∧ R x a v ∧ RL x as r
end

/-- One world behind another: what was frozen is as it was, blocks keep their sizes, abstract blocks keep their places. -/
structure Keeps (x y : Cx) : Prop where
  at_ : ∀ l, l < x.N → y.ver l = x.ver l → y.at_ l = x.at_ l ∧ y.rl l = x.rl l
  ver : ∀ l, l < x.N → x.ver l ≤ y.ver l ∧ (x.ver l = 0 → y.ver l = 0)
  N : x.N ≤ y.N
  F : ∀ k m, x.F k m → y.F k m
  heap : ∀ k m, x.F k m → ∀ i, i < m → y.w.cell? ⟨k, i, none⟩ = x.w.cell? ⟨k, i, none⟩
  sz : ∀ k s, bsz x.w k = some s → bsz y.w k = some s

theorem Keeps.refl (x : Cx) : Keeps x x := ⟨fun _ _ _ => ⟨rfl, rfl⟩, fun _ _ => ⟨Nat.le_refl _, id⟩, Nat.le_refl _, fun _ _ h => h, fun _ _ _ _ _ => rfl, fun _ _ h => h⟩
theorem Keeps.trans {x y z : Cx} (h : Keeps x y) (k : Keeps y z) : Keeps x z := by
  refine ⟨fun l hl e => ?_, fun l hl => ?_, Nat.le_trans h.N k.N, fun b m hb => k.F b m (h.F b m hb), fun b m hb i hi => (k.heap b m (h.F b m hb) i hi).trans (h.heap b m hb i hi), fun b s hb => k.sz b s (h.sz b s hb)⟩
  · have h1 := (h.ver l hl).1
    have h2 := (k.ver l (Nat.lt_of_lt_of_le hl h.N)).1
    have e1 : y.ver l = x.ver l := by omega
    have e2 : z.ver l = y.ver l := by omega
    have g1 := h.at_ l hl e1
    have g2 := k.at_ l (Nat.lt_of_lt_of_le hl h.N) e2
    exact ⟨g2.1.trans g1.1, g2.2.trans g1.2⟩
  · have h1 := h.ver l hl
    have h2 := k.ver l (Nat.lt_of_lt_of_le hl h.N)
    exact ⟨Nat.le_trans h1.1 h2.1, fun e => h2.2 (h1.2 e)⟩
/-- A place stays. -/
theorem Keeps.place {x y : Cx} (h : Keeps x y) {l : Nat} (hl : l < x.N) (hv : x.ver l = 0) : l < y.N ∧ y.ver l = 0 ∧ y.at_ l = x.at_ l :=
  ⟨Nat.lt_of_lt_of_le hl h.N, (h.ver l hl).2 hv, (h.at_ l hl (by rw [(h.ver l hl).2 hv, hv])).1⟩
theorem Keeps.cell {x y : Cx} (h : Keeps x y) {b m o : Nat} {u : Value} (hb : x.Fz b m) (ho : o < m) (hc : x.w.cell? ⟨b, o, none⟩ = some u) : y.w.cell? ⟨b, o, none⟩ = some u := by
  obtain ⟨q, h1, h2⟩ := hb
  rw [h.heap b q h2 o (by omega)]
  exact hc
theorem Keeps.Fz {x y : Cx} (h : Keeps x y) {b m : Nat} (hb : x.Fz b m) : y.Fz b m := hb.imp fun _ hq => ⟨hq.1, h.F _ _ hq.2⟩

theorem RL.len {x : Cx} : ∀ (as : List AV) (vs : List Value), RL x as vs → vs.length = as.length
  | [], _, h => by simp only [RL] at h; simp [h]
  | _ :: as, _, h => by
    simp only [RL] at h
    obtain ⟨v, r, rfl, _, h2⟩ := h
    simp [RL.len as r h2]
mutual
theorem R.keeps {x y : Cx} (h : Keeps x y) : ∀ (a : AV) (v : Value), R x a v → R y a v
  | .bool _, _, hr => by simpa [R] using hr
  | .int _ _, _, hr => by simpa [R] using hr
  | .str _, _, hr => by simpa [R] using hr
  | .nilptr, _, hr => by simpa [R] using hr
  | .ptr l off, v, hr => by
    simp only [R] at *
    obtain ⟨h1, h2, h3⟩ := h.place hr.1 hr.2.1
    exact ⟨h1, h2, by rw [h3]; exact hr.2.2⟩
  | .lptr cs off, v, hr => by
    simp only [R] at *
    obtain ⟨b, o, vs, e, hf, hl, hk, hc⟩ := hr
    exact ⟨b, o, vs, e, h.Fz hf, RL.keeps h cs vs hl, hk, fun i u hu => h.cell hf (by have := RL.len cs vs hl; have := (List.getElem?_eq_some_iff.1 hu).1; omega) (hc i u hu)⟩
  | .lit nl ex cs len, v, hr => by
    simp only [R] at *
    rcases hr with hr | ⟨hn, b, o, cap, vs, e, h1, h2, h3, hl, hk, hf, hc⟩
    · exact .inl hr
    · refine .inr ⟨hn, b, o, cap, vs, e, h1, h2, h3, RL.keeps h cs vs hl, hk, hf.imp id h.Fz, fun i u hu => ?_⟩
      rcases hf with rfl | hf
      · simp only [RL] at hl
        subst hl
        simp at hu
      · exact h.cell hf (by have := RL.len cs vs hl; have := (List.getElem?_eq_some_iff.1 hu).1; omega) (hc i u hu)
  | .ref ex l off len sz, v, hr => by
    simp only [R] at *
    obtain ⟨hl, hv, cap, S, o, e, h0, h1, h2, h3, h4, h5⟩ := hr
    obtain ⟨g1, g2, g3⟩ := h.place hl hv
    rw [g3]
    exact ⟨g1, g2, cap, S, o, e, h0, h1, h2, h3, h.sz _ _ h4, h5⟩
  | .fn f first caps, v, hr => by
    simp only [R] at *
    obtain ⟨fs, cs, e, h1, h2⟩ := hr
    exact ⟨fs, cs, e, RL.keeps h _ _ h1, RL.keeps h _ _ h2⟩
  | .nilfn, _, hr => by simpa [R] using hr
  | .map l, v, hr => by
    simp only [R] at *
    obtain ⟨h1, h2, h3⟩ := h.place hr.1 hr.2.1
    exact ⟨h1, h2, by rw [h3]; exact hr.2.2⟩
  | .nilmap, _, hr => by simpa [R] using hr
  | .iface t a, v, hr => by
    simp only [R] at *
    obtain ⟨u, e, hu⟩ := hr
    exact ⟨u, e, R.keeps h a u hu⟩
  | .nilif, _, hr => by simpa [R] using hr
  | .agg cs, v, hr => by
    simp only [R] at *
    obtain ⟨hk, vs, e, hl⟩ := hr
    exact ⟨hk, vs, e, RL.keeps h cs vs hl⟩
  | .tup cs, v, hr => by
    simp only [R] at *
    obtain ⟨vs, e, hl⟩ := hr
    exact ⟨vs, e, RL.keeps h cs vs hl⟩
  | .own l ver nl cs len sz, v, hr => by
    simp only [R] at *
    obtain ⟨⟨hl, h0, hv, hs⟩, hr⟩ := hr
    refine ⟨⟨Nat.lt_of_lt_of_le hl h.N, h0, Nat.le_trans hv (h.ver l hl).1, hs⟩, ?_⟩
    rcases hr with hr | ⟨hn, b, o, cap, vs, e, h1, h2, h3, hk, hf, hc, ht⟩
    · exact .inl hr
    · refine .inr ⟨hn, b, o, cap, vs, e, h1, h2, RL.keeps h cs vs h3, hk, hf.imp id h.Fz, fun i u hu => ?_, fun hy => ?_⟩
      · rcases hf with rfl | hf
        · simp only [RL] at h3
          subst h3
          simp at hu
        · exact h.cell hf (by have := RL.len cs vs h3; have := (List.getElem?_eq_some_iff.1 hu).1; omega) (hc i u hu)
      · have e1 : x.ver l = ver := by have := (h.ver l hl).1; omega
        rcases ht e1 with ht | ⟨t1, t2, S, t3, t4⟩
        · exact .inl ht
        · obtain ⟨g1, g2⟩ := h.at_ l hl (by omega)
          exact .inr ⟨g2.trans t1, g1.trans t2, S, h.sz _ _ t3, t4⟩
  | .any, _, hr => by simpa [R] using hr
theorem RL.keeps {x y : Cx} (h : Keeps x y) : ∀ (as : List AV) (vs : List Value), RL x as vs → RL y as vs
  | [], _, hr => by simpa [RL] using hr
  | a :: as, vs, hr => by
    simp only [RL] at *
    obtain ⟨v, r, e, h1, h2⟩ := hr
    exact ⟨v, r, e, R.keeps h a v h1, RL.keeps h as r h2⟩
end

/-- A slice, whatever may be appended to it. -/
def AV.weak : AV → AV
  | .own _ _ nl cs len _ => .lit nl false cs len
  | a => a
theorem R.weak {x : Cx} {a : AV} {v : Value} (h : R x a v) : R x a.weak v := by
  cases a <;> first | exact h | skip
  simp only [AV.weak, R] at *
  rcases h.2 with h | ⟨hn, b, o, cap, vs, e, h1, h2, h3, hk, hf, hc, _⟩
  · exact .inl h
  · exact .inr ⟨hn, b, o, cap, vs, e, h1, h2, (fun h => by cases h), h3, hk, hf, hc⟩

end Go.Abs
