/- What an abstract heap stands for in a world, and what a step may change. -/
import Derived.Test.YtbdomlbmbcnaeaaAbsCore
namespace Go.Abs

def AB.live : AB → Bool
  | .dead => false
  | _ => true

/-- A live block. -/
def Live (H : AH) (l : Nat) : Prop := ∃ b, H[l]? = some b ∧ b.live = true

/-- The world's blocks that the abstract heap owns. -/
def Own (x : Cx) (H : AH) (k : Nat) : Prop := ∃ l, Live H l ∧ (x.at_ l).1 = k

/-- A row of the world that holds abstract cells from a place on. -/
def Holds (x : Cx) (b o : Nat) (cs : List AV) : Prop :=
  ∃ c t fz vs, x.w.heap[b]? = some (.cells c t fz) ∧ (∀ i, i < c.size → ¬ (fz.1 ≤ i ∧ i < fz.2)) ∧ RL x cs vs ∧ o + cs.length ≤ c.size ∧ (∀ i u, vs[i]? = some u → c[o + i]? = some u) ∧
    ∀ a ∈ cs, a.isCell = true

/-- A map of the world that holds abstract entries. -/
def HoldsMap (x : Cx) (b : Nat) (es : List (AV × AV)) : Prop :=
  ∃ c clock, x.w.heap[b]? = some (.map c clock) ∧ RL x (es.map (·.1)) (c.toList.map (·.key)) ∧ RL x (es.map (·.2)) (c.toList.map (·.val))

def HoldsB (x : Cx) (p : Nat × Nat) : AB → Prop
  | .cells cs => Holds x p.1 p.2 cs
  | .map es => HoldsMap x p.1 es
  | .dead => True

/-- The world represents the heap. -/
structure Rel (x : Cx) (H : AH) : Prop where
  N : x.N = H.length
  block : ∀ l b, H[l]? = some b → HoldsB x (x.at_ l) b
  inj : ∀ l m, Live H l → Live H m → (x.at_ l).1 = (x.at_ m).1 → l = m
  notF : ∀ l, Live H l → ¬ x.F (x.at_ l).1
  Flt : ∀ k, x.F k → k < x.w.heap.size

theorem Holds.lt {x : Cx} {b o : Nat} {cs : List AV} (h : Holds x b o cs) : b < x.w.heap.size := by
  obtain ⟨c, t, fz, vs, hb, _⟩ := h
  rcases Nat.lt_or_ge b x.w.heap.size with h' | h'
  · exact h'
  · simp [Array.getElem?_eq_none h'] at hb
theorem Own.lt {x : Cx} {H : AH} (h : Rel x H) {k : Nat} (ho : Own x H k) : k < x.w.heap.size := by
  obtain ⟨l, ⟨b, hb, hl⟩, rfl⟩ := ho
  have := h.block l b hb
  cases b with
  | cells cs => exact Holds.lt this
  | map es =>
    obtain ⟨c, clock, hb, _⟩ := this
    rcases Nat.lt_or_ge (x.at_ l).1 x.w.heap.size with h' | h'
    · exact h'
    · simp [Array.getElem?_eq_none h'] at hb
  | dead => cases hl

/-- One state behind another, as a call that was given `n` abstract blocks may leave it. -/
structure Mv (n : Nat) (x : Cx) (H : AH) (y : Cx) (H' : AH) : Prop where
  at_ : ∀ l, l < n → y.at_ l = x.at_ l
  Nx : n ≤ x.N
  N : n ≤ y.N
  F : ∀ k, x.F k → y.F k
  sz : ∀ k s, bsz x.w k = some s → bsz y.w k = some s
  size : x.w.heap.size ≤ y.w.heap.size
  os : y.w.os = x.w.os
  tape : y.w.tape = x.w.tape
  output : y.w.output = x.w.output
  frame : ∀ k, k < x.w.heap.size → ¬ Own x H k → y.w.heap[k]? = x.w.heap[k]?
  own : ∀ k, Own y H' k → Own x H k ∨ x.w.heap.size ≤ k
  newF : ∀ k, y.F k → x.F k ∨ Own x H k ∨ x.w.heap.size ≤ k

theorem Mv.refl {n : Nat} {x : Cx} (H : AH) (h : n ≤ x.N) : Mv n x H x H :=
  ⟨fun _ _ => rfl, h, h, fun _ h => h, fun _ _ h => h, Nat.le_refl _, rfl, rfl, rfl, fun _ _ _ => rfl, fun _ h => .inl h, fun _ h => .inl h⟩

theorem Mv.trans {n : Nat} {x y z : Cx} {H H' H'' : AH} (h : Mv n x H y H') (k : Mv n y H' z H'') : Mv n x H z H'' where
  at_ l hl := (k.at_ l hl).trans (h.at_ l hl)
  Nx := h.Nx
  N := k.N
  F b hb := k.F b (h.F b hb)
  sz b s hb := k.sz b s (h.sz b s hb)
  size := Nat.le_trans h.size k.size
  os := k.os.trans h.os
  tape := k.tape.trans h.tape
  output := k.output.trans h.output
  frame b hb ho := (k.frame b (Nat.lt_of_lt_of_le hb h.size) (fun ho' => (h.own b ho').elim ho (fun hge => absurd hb (Nat.not_lt.2 hge)))).trans (h.frame b hb ho)
  own b hb := (k.own b hb).elim (fun ho => h.own b ho) (fun hge => .inr (Nat.le_trans h.size hge))
  newF b hb := (k.newF b hb).elim (fun hf => h.newF b hf) (fun hr => .inr (hr.elim (fun ho => h.own b ho) (fun hge => .inr (Nat.le_trans h.size hge))))

theorem Mv.mono {n m : Nat} {x y : Cx} {H H' : AH} (h : Mv n x H y H') (hm : m ≤ n) : Mv m x H y H' :=
  ⟨fun l hl => h.at_ l (Nat.lt_of_lt_of_le hl hm), Nat.le_trans hm h.Nx, Nat.le_trans hm h.N, h.F, h.sz, h.size, h.os, h.tape, h.output, h.frame, h.own, h.newF⟩

/-- What a call leaves keeps whatever was there when it began. -/
theorem Mv.keeps {x y : Cx} {H H' : AH} (hr : Rel x H) (h : Mv x.N x H y H') : Keeps x y :=
  ⟨h.at_, h.N, h.F, fun k hk => h.frame k (hr.Flt k hk) (fun ⟨l, hl, e⟩ => hr.notF l hl (e ▸ hk)), h.sz⟩

/-- A view shift: the same world, seen as another abstract state; the first n blocks stay where they are. -/
def VS (n : Nat) (fr : List AV) (H : AH) (fr' : List AV) (H' : AH) : Prop :=
  ∀ (x : Cx) (vs : List Value), Rel x H → n ≤ x.N → RL x fr vs → ∃ y, y.w = x.w ∧ Mv n x H y H' ∧ Rel y H' ∧ RL y fr' vs

theorem VS.refl (n : Nat) (fr : List AV) (H : AH) : VS n fr H fr H := fun x _ hr hn hl => ⟨x, rfl, Mv.refl H hn, hr, hl⟩
theorem VS.trans {n : Nat} {a b c : List AV} {H H' H'' : AH} (h : VS n a H b H') (k : VS n b H' c H'') : VS n a H c H'' := by
  intro x vs hr hn hl
  obtain ⟨y, ey, hm, hr', hl'⟩ := h x vs hr hn hl
  obtain ⟨z, ez, hm', hr'', hl''⟩ := k y vs hr' hm.N hl'
  exact ⟨z, ez.trans ey, hm.trans hm', hr'', hl''⟩

theorem HoldsB.keeps {x y : Cx} (h : Keeps x y) {p : Nat × Nat} (hp : y.w.heap[p.1]? = x.w.heap[p.1]?) : ∀ {b : AB}, HoldsB x p b → HoldsB y p b
  | .cells cs, hb => by
    obtain ⟨c, t, fz, vs, h1, h2, h3, h4, h5, h6⟩ := hb
    exact ⟨c, t, fz, vs, hp.trans h1, h2, RL.keeps h _ _ h3, h4, h5, h6⟩
  | .map es, hb => by
    obtain ⟨c, clock, h1, h2, h3⟩ := hb
    exact ⟨c, clock, hp.trans h1, RL.keeps h _ _ h2, RL.keeps h _ _ h3⟩
  | .dead, _ => trivial

theorem RL.length {x : Cx} : ∀ {as : List AV} {vs : List Value}, RL x as vs → vs.length = as.length
  | [], _, h => by simp only [RL] at h; simp [h]
  | _ :: as, _, h => by
    simp only [RL] at h
    obtain ⟨v, r, rfl, _, h2⟩ := h
    simp [RL.length h2]
theorem RL.get {x : Cx} : ∀ {as : List AV} {vs : List Value}, RL x as vs → ∀ {i : Nat} {a : AV}, as[i]? = some a → ∃ v, vs[i]? = some v ∧ R x a v
  | [], _, _, i, a, hi => by simp at hi
  | b :: as, _, h, i, a, hi => by
    simp only [RL] at h
    obtain ⟨v, r, rfl, h1, h2⟩ := h
    cases i with
    | zero => simp at hi; subst hi; exact ⟨v, rfl, h1⟩
    | succ i => simp at hi; simpa using RL.get h2 hi
theorem RL.set {x : Cx} : ∀ {as : List AV} {vs : List Value}, RL x as vs → ∀ (i : Nat) {a : AV} {v : Value}, R x a v → RL x (as.set i a) (vs.set i v)
  | [], _, h, _, _, _, _ => by simp only [RL] at h; simp [h, RL]
  | b :: as, _, h, i, a, v, ha => by
    simp only [RL] at h
    obtain ⟨u, r, rfl, h1, h2⟩ := h
    cases i with
    | zero => exact ⟨v, r, rfl, ha, h2⟩
    | succ i => exact ⟨u, r.set i v, rfl, h1, RL.set h2 i ha⟩
theorem RL.append {x : Cx} : ∀ {as : List AV} {vs : List Value}, RL x as vs → ∀ {bs : List AV} {us : List Value}, RL x bs us → RL x (as ++ bs) (vs ++ us)
  | [], _, h, _, _, hb => by simp only [RL] at h; subst h; simpa using hb
  | a :: as, _, h, _, _, hb => by
    simp only [RL] at h
    obtain ⟨v, r, rfl, h1, h2⟩ := h
    exact ⟨v, r ++ _, rfl, h1, RL.append h2 hb⟩
theorem RL.take {x : Cx} : ∀ {as : List AV} {vs : List Value}, RL x as vs → ∀ (n : Nat), RL x (as.take n) (vs.take n)
  | [], _, h, _ => by simp only [RL] at h; simp [h, RL]
  | a :: as, _, h, n => by
    simp only [RL] at h
    obtain ⟨v, r, rfl, h1, h2⟩ := h
    cases n with
    | zero => simp [RL]
    | succ n => exact ⟨v, r.take n, rfl, h1, RL.take h2 n⟩
theorem RL.drop {x : Cx} : ∀ {as : List AV} {vs : List Value}, RL x as vs → ∀ (n : Nat), RL x (as.drop n) (vs.drop n)
  | [], _, h, _ => by simp only [RL] at h; simp [h, RL]
  | a :: as, _, h, n => by
    simp only [RL] at h
    obtain ⟨v, r, rfl, h1, h2⟩ := h
    cases n with
    | zero => exact ⟨v, r, rfl, h1, h2⟩
    | succ n => simpa using RL.drop h2 n
theorem RL.replicate {x : Cx} {a : AV} {v : Value} (h : R x a v) : ∀ n, RL x (List.replicate n a) (List.replicate n v)
  | 0 => by simp [RL]
  | n + 1 => ⟨v, _, by simp [List.replicate_succ], h, RL.replicate h n⟩
theorem RL.of_get {x : Cx} : ∀ {as : List AV} {vs : List Value}, vs.length = as.length → (∀ (i : Nat) a v, as[i]? = some a → vs[i]? = some v → R x a v) → RL x as vs
  | [], vs, h, _ => by simp only [RL]; exact List.length_eq_zero_iff.1 h
  | a :: as, [], h, _ => by simp at h
  | a :: as, v :: vs, h, k => ⟨v, vs, rfl, k 0 a v rfl rfl, RL.of_get (by simpa using h) (fun i a' v' ha hv => k (i + 1) a' v' (by simpa using ha) (by simpa using hv))⟩
theorem RL.mem {x : Cx} {as : List AV} {vs : List Value} (h : RL x as vs) {v : Value} (hv : v ∈ vs) : ∃ a ∈ as, R x a v := by
  obtain ⟨i, hi⟩ := List.getElem?_of_mem hv
  have hl : i < as.length := by rw [← h.length]; exact (List.getElem?_eq_some_iff.1 hi).1
  obtain ⟨v', h1, h2⟩ := h.get (List.getElem?_eq_getElem hl)
  rw [hi] at h1
  cases h1
  exact ⟨_, List.getElem_mem hl, h2⟩

theorem R.oneCell {x : Cx} {a : AV} {v : Value} (h : R x a v) (hc : a.isCell = true) : v.oneCell' = true := by
  cases a with
  | bool | int | str | nilptr | nilfn | nilmap | nilif => simp only [R] at h; subst h; rfl
  | ptr | map => simp only [R] at h; obtain ⟨_, rfl⟩ := h; rfl
  | lptr => simp only [R] at h; obtain ⟨_, _, _, rfl, _⟩ := h; rfl
  | lit => simp only [R] at h; rcases h with ⟨_, rfl, _⟩ | ⟨_, _, _, _, _, rfl, _⟩ <;> rfl
  | ref => simp only [R] at h; obtain ⟨_, _, _, _, rfl, _⟩ := h; rfl
  | fn => simp only [R] at h; obtain ⟨_, _, rfl, _⟩ := h; rfl
  | iface => simp only [R] at h; obtain ⟨_, rfl, _⟩ := h; rfl
  | agg | tup => cases hc

end Go.Abs
