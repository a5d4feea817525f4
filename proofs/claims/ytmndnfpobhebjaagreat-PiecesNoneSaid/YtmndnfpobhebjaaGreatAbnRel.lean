/- What an abstract heap stands for in a world, and what a step may change. -/
import Derived.Test.YtmndnfpobhebjaaGreatAbnCore
namespace Go.Abs

def AB.live : AB → Bool
  | .dead => false
  | .room _ real => real
  | _ => true
/-- A room: what it is may be told below its beginning. -/
def AB.isRoom : AB → Bool
  | .room _ _ => true
  | _ => false

/-- A live block. -/
def Live (H : AH) (l : Nat) : Prop := ∃ b, H[l]? = some b ∧ b.live = true

/-- The world's blocks that the abstract heap owns. -/
def Own (x : Cx) (H : AH) (k : Nat) : Prop := ∃ l, Live H l ∧ (x.at_ l).1 = k

/-- A row of the world that holds abstract cells from a place on. -/
def Holds (x : Cx) (b o : Nat) (cs : List AV) : Prop :=
  ∃ c t fz vs, x.w.heap[b]? = some (.cells c t fz) ∧ (∀ i, i < c.size → ¬ (fz.1 ≤ i ∧ i < fz.2)) ∧ RL x cs vs ∧ o + cs.length ≤ c.size ∧ (∀ i u, vs[i]? = some u → c[o + i]? = some u) ∧
    ∀ a ∈ cs, a.isCell = true

/-- A map of the world that holds abstract entries. -/
def HoldsMap (x : Cx) (b : Nat) (es : List (AV × AV)) (bs : List Nat) (clock : Nat) : Prop :=
  ∃ c, x.w.heap[b]? = some (.map c clock) ∧ RL x (es.map (·.1)) (c.toList.map (·.key)) ∧ RL x (es.map (·.2)) (c.toList.map (·.val)) ∧ c.toList.map (·.born) = bs

/-- How far a loop over a map is. -/
def HoldsIter (x : Cx) (b : Nat) (src : Option Nat) (since : Nat) (seen : List Nat) (last : Nat) : Prop :=
  (∀ l, src = some l → l < x.N ∧ x.ver l = 0) ∧ x.w.heap[b]? = some (.mapIter (src.map fun l => (x.at_ l).1) since seen.toArray last)

/-- Room behind a slice: nobody else writes there. -/
def HoldsRoom (x : Cx) (b o : Nat) : Prop :=
  ∃ c t fz, x.w.heap[b]? = some (.cells c t fz) ∧ (∀ i, i < c.size → ¬ (fz.1 ≤ i ∧ i < fz.2)) ∧ o ≤ c.size
def HoldsB (x : Cx) (l : Nat) : AB → Prop
  | .cells cs => x.ver l = 0 ∧ Holds x (x.at_ l).1 (x.at_ l).2 cs
  | .map es bs clock => x.ver l = 0 ∧ HoldsMap x (x.at_ l).1 es bs clock
  | .iter src since seen last => x.ver l = 0 ∧ (x.at_ l).2 = 0 ∧ HoldsIter x (x.at_ l).1 src since seen last
  | .room v real => x.ver l = v ∧ 0 < v ∧ x.rl l = real ∧ (real = true → HoldsRoom x (x.at_ l).1 (x.at_ l).2)
  | .dead => True

/-- The world represents the heap. -/
structure Rel (x : Cx) (H : AH) : Prop where
  N : x.N = H.length
  block : ∀ l b, H[l]? = some b → HoldsB x l b
  inj : ∀ l m, Live H l → Live H m → (x.at_ l).1 = (x.at_ m).1 → l = m
  notF : ∀ l b, H[l]? = some b → b.live = true → ∀ m, x.F (x.at_ l).1 m → b.isRoom = true ∧ m ≤ (x.at_ l).2
  Flt : ∀ k m, x.F k m → k < x.w.heap.size

theorem Holds.lt {x : Cx} {b o : Nat} {cs : List AV} (h : Holds x b o cs) : b < x.w.heap.size := by
  obtain ⟨c, t, fz, vs, hb, _⟩ := h
  rcases Nat.lt_or_ge b x.w.heap.size with h' | h'
  · exact h'
  · simp [Array.getElem?_eq_none h'] at hb
theorem heap_lt {w : World} {k : Nat} {o : Obj} (h : w.heap[k]? = some o) : k < w.heap.size := by
  rcases Nat.lt_or_ge k w.heap.size with h' | h'
  · exact h'
  · simp [Array.getElem?_eq_none h'] at h
theorem Own.lt {x : Cx} {H : AH} (h : Rel x H) {k : Nat} (ho : Own x H k) : k < x.w.heap.size := by
  obtain ⟨l, ⟨b, hb, hl⟩, rfl⟩ := ho
  have := h.block l b hb
  cases b with
  | cells cs => exact Holds.lt this.2
  | map es bs clock =>
    obtain ⟨_, c, hb, _⟩ := this
    exact heap_lt hb
  | iter src since seen last =>
    obtain ⟨_, _, _, hb⟩ := this
    exact heap_lt hb
  | room v real =>
    simp only [AB.live] at hl
    obtain ⟨_, _, _, h4⟩ := this
    obtain ⟨c, t, fz, hb, _⟩ := h4 hl
    exact heap_lt hb
  | dead => cases hl
/-- A place that is no room's is not frozen. -/
theorem Rel.hot {x : Cx} {H : AH} (hr : Rel x H) {l : Nat} {b : AB} (hb : H[l]? = some b) (hl : b.live = true) (hn : b.isRoom = false) {m : Nat} : ¬ x.F (x.at_ l).1 m := fun h => by
  have := (hr.notF l b hb hl m h).1
  rw [hn] at this
  cases this

/-- One state behind another, as a call that was given `n` abstract blocks may leave it. -/
structure Mv (n : Nat) (x : Cx) (H : AH) (y : Cx) (H' : AH) : Prop where
  at_ : ∀ l, l < n → y.ver l = x.ver l → y.at_ l = x.at_ l ∧ y.rl l = x.rl l
  ver : ∀ l, l < n → x.ver l ≤ y.ver l ∧ (x.ver l = 0 → y.ver l = 0)
  Nx : n ≤ x.N
  N : n ≤ y.N
  F : ∀ k m, x.F k m → y.F k m
  same : ∀ k m, x.F k m → ∀ i, i < m → y.w.cell? ⟨k, i, none⟩ = x.w.cell? ⟨k, i, none⟩
  sz : ∀ k s, bsz x.w k = some s → bsz y.w k = some s
  size : x.w.heap.size ≤ y.w.heap.size
  os : y.w.os = x.w.os
  tape : y.w.tape = x.w.tape
  output : y.w.output = x.w.output
  frame : ∀ k, k < x.w.heap.size → ¬ Own x H k → y.w.heap[k]? = x.w.heap[k]?
  own : ∀ k, Own y H' k → Own x H k ∨ x.w.heap.size ≤ k
  newF : ∀ k m, y.F k m → x.F k m ∨ Own x H k ∨ x.w.heap.size ≤ k

theorem Mv.refl {n : Nat} {x : Cx} (H : AH) (h : n ≤ x.N) : Mv n x H x H :=
  ⟨fun _ _ _ => ⟨rfl, rfl⟩, fun _ _ => ⟨Nat.le_refl _, id⟩, h, h, fun _ _ h => h, fun _ _ _ _ _ => rfl, fun _ _ h => h, Nat.le_refl _, rfl, rfl, rfl, fun _ _ _ => rfl, fun _ h => .inl h, fun _ _ h => .inl h⟩

theorem Mv.trans {n : Nat} {x y z : Cx} {H H' H'' : AH} (h : Mv n x H y H') (k : Mv n y H' z H'') : Mv n x H z H'' where
  at_ l hl e := by
    have h1 := (h.ver l hl).1
    have h2 := (k.ver l hl).1
    have g1 := h.at_ l hl (by omega)
    have g2 := k.at_ l hl (by omega)
    exact ⟨g2.1.trans g1.1, g2.2.trans g1.2⟩
  ver l hl := ⟨Nat.le_trans (h.ver l hl).1 (k.ver l hl).1, fun e => (k.ver l hl).2 ((h.ver l hl).2 e)⟩
  Nx := h.Nx
  N := k.N
  F b m hb := k.F b m (h.F b m hb)
  same b m hb i hi := (k.same b m (h.F b m hb) i hi).trans (h.same b m hb i hi)
  sz b s hb := k.sz b s (h.sz b s hb)
  size := Nat.le_trans h.size k.size
  os := k.os.trans h.os
  tape := k.tape.trans h.tape
  output := k.output.trans h.output
  frame b hb ho := (k.frame b (Nat.lt_of_lt_of_le hb h.size) (fun ho' => (h.own b ho').elim ho (fun hge => absurd hb (Nat.not_lt.2 hge)))).trans (h.frame b hb ho)
  own b hb := (k.own b hb).elim (fun ho => h.own b ho) (fun hge => .inr (Nat.le_trans h.size hge))
  newF b m hb := (k.newF b m hb).elim (fun hf => h.newF b m hf) (fun hr => .inr (hr.elim (fun ho => h.own b ho) (fun hge => .inr (Nat.le_trans h.size hge))))

theorem Mv.mono {n m : Nat} {x y : Cx} {H H' : AH} (h : Mv n x H y H') (hm : m ≤ n) : Mv m x H y H' :=
  ⟨fun l hl => h.at_ l (Nat.lt_of_lt_of_le hl hm), fun l hl => h.ver l (Nat.lt_of_lt_of_le hl hm), Nat.le_trans hm h.Nx, Nat.le_trans hm h.N, h.F, h.same, h.sz, h.size, h.os, h.tape, h.output, h.frame, h.own, h.newF⟩

/-- What a call leaves keeps whatever was there when it began. -/
theorem Mv.keeps {x y : Cx} {H H' : AH} (_hr : Rel x H) (h : Mv x.N x H y H') : Keeps x y :=
  ⟨h.at_, h.ver, h.N, h.F, h.same, h.sz⟩

/-- A view shift: the same world, seen as another abstract state; the first n blocks stay where they are. -/
def VS (n : Nat) (fr : List AV) (H : AH) (fr' : List AV) (H' : AH) : Prop :=
  ∀ (x : Cx) (vs : List Value), Rel x H → n ≤ x.N → RL x fr vs → ∃ y, y.w = x.w ∧ Mv n x H y H' ∧ Rel y H' ∧ RL y fr' vs

theorem VS.refl (n : Nat) (fr : List AV) (H : AH) : VS n fr H fr H := fun x _ hr hn hl => ⟨x, rfl, Mv.refl H hn, hr, hl⟩
theorem VS.trans {n : Nat} {a b c : List AV} {H H' H'' : AH} (h : VS n a H b H') (k : VS n b H' c H'') : VS n a H c H'' := by
  intro x vs hr hn hl
  obtain ⟨y, ey, hm, hr', hl'⟩ := h x vs hr hn hl
  obtain ⟨z, ez, hm', hr'', hl''⟩ := k y vs hr' hm.N hl'
  exact ⟨z, ez.trans ey, hm.trans hm', hr'', hl''⟩

theorem HoldsB.keeps {x y : Cx} (h : Keeps x y) {l : Nat} (hl : l < x.N) (hv : y.ver l = x.ver l) {b : AB} (hp : b.live = true → y.w.heap[(x.at_ l).1]? = x.w.heap[(x.at_ l).1]?) (hb : HoldsB x l b) : HoldsB y l b := by
  obtain ⟨ha, hrl⟩ := h.at_ l hl hv
  cases b with
  | cells cs =>
    obtain ⟨h0, c, t, fz, vs, h1, h2, h3, h4, h5, h6⟩ := hb
    refine ⟨hv.trans h0, c, t, fz, vs, ?_, h2, RL.keeps h _ _ h3, ?_, ?_, h6⟩ <;> rw [ha]
    · exact (hp rfl).trans h1
    · exact h4
    · exact h5
  | map es bs clock =>
    obtain ⟨h0, c, h1, h2, h3, h4⟩ := hb
    exact ⟨hv.trans h0, c, by rw [ha]; exact (hp rfl).trans h1, RL.keeps h _ _ h2, RL.keeps h _ _ h3, h4⟩
  | iter src since seen last =>
    obtain ⟨h0, h00, h1, h2⟩ := hb
    refine ⟨hv.trans h0, by rw [ha]; exact h00, fun l hl => ⟨(h.place (h1 l hl).1 (h1 l hl).2).1, (h.place (h1 l hl).1 (h1 l hl).2).2.1⟩, ?_⟩
    rw [ha, hp rfl, h2]
    congr 1
    cases src with
    | none => rfl
    | some l => simp only [Option.map_some, (h.place (h1 l rfl).1 (h1 l rfl).2).2.2]
  | room v real =>
    obtain ⟨h0, h1, h2, h3⟩ := hb
    refine ⟨hv.trans h0, h1, hrl.trans h2, fun e => ?_⟩
    obtain ⟨c, t, fz, g1, g2, g3⟩ := h3 e
    rw [ha]
    exact ⟨c, t, fz, (hp e).trans g1, g2, g3⟩
  | dead => trivial

theorem RL.length {x : Cx} {as : List AV} {vs : List Value} (h : RL x as vs) : vs.length = as.length := RL.len as vs h
theorem RL.get {x : Cx} : ∀ {as : List AV} {vs : List Value}, RL x as vs → ∀ {i : Nat} {a : AV}, as[i]? = some a → ∃ v, vs[i]? = some v ∧ R x a v
  | [], _, _, i, a, hi => by simp at hi
  | b :: as, _, h, i, a, hi => by
    simp only [RL] at h
    obtain ⟨v, r, rfl, h1, h2⟩ := h
    cases i with
    | zero => simp at hi; subst hi; exact ⟨v, rfl, h1⟩
    | succ i => simp at hi; simpa using RL.get h2 hi
theorem RL.set {x : Cx} : ∀ {as : List AV} {vs : List Value}, RL x as vs → ∀ (i : Nat) {a : AV} {v : Value}, R x a v → RL x (as.set i a) (vs.set i v)
  | [], _, h, _, _, _, _ => by simp only [RL] at h; simp [h, RL]
  | b :: as, _, h, i, a, v, ha => by
    simp only [RL] at h
    obtain ⟨u, r, rfl, h1, h2⟩ := h
    cases i with
    | zero => exact ⟨v, r, rfl, ha, h2⟩
    | succ i => exact ⟨u, r.set i v, rfl, h1, RL.set h2 i ha⟩
theorem RL.append {x : Cx} : ∀ {as : List AV} {vs : List Value}, RL x as vs → ∀ {bs : List AV} {us : List Value}, RL x bs us → RL x (as ++ bs) (vs ++ us)
  | [], _, h, _, _, hb => by simp only [RL] at h; subst h; simpa using hb
  | a :: as, _, h, _, _, hb => by
    simp only [RL] at h
    obtain ⟨v, r, rfl, h1, h2⟩ := h
    exact ⟨v, r ++ _, rfl, h1, RL.append h2 hb⟩
theorem RL.take {x : Cx} : ∀ {as : List AV} {vs : List Value}, RL x as vs → ∀ (n : Nat), RL x (as.take n) (vs.take n)
  | [], _, h, _ => by simp only [RL] at h; simp [h, RL]
  | a :: as, _, h, n => by
    simp only [RL] at h
    obtain ⟨v, r, rfl, h1, h2⟩ := h
    cases n with
    | zero => simp [RL]
    | succ n => exact ⟨v, r.take n, rfl, h1, RL.take h2 n⟩
theorem RL.drop {x : Cx} : ∀ {as : List AV} {vs : List Value}, RL x as vs → ∀ (n : Nat), RL x (as.drop n) (vs.drop n)
  | [], _, h, _ => by simp only [RL] at h; simp [h, RL]
  | a :: as, _, h, n => by
    simp only [RL] at h
    obtain ⟨v, r, rfl, h1, h2⟩ := h
    cases n with
    | zero => exact ⟨v, r, rfl, h1, h2⟩
    | succ n => simpa using RL.drop h2 n
theorem RL.replicate {x : Cx} {a : AV} {v : Value} (h : R x a v) : ∀ n, RL x (List.replicate n a) (List.replicate n v)
  | 0 => by simp [RL]
  | n + 1 => ⟨v, _, by simp [List.replicate_succ], h, RL.replicate h n⟩
theorem RL.of_get {x : Cx} : ∀ {as : List AV} {vs : List Value}, vs.length = as.length → (∀ (i : Nat) a v, as[i]? = some a → vs[i]? = some v → R x a v) → RL x as vs
  | [], vs, h, _ => by simp only [RL]; exact List.length_eq_zero_iff.1 h
  | a :: as, [], h, _ => by simp at h
  | a :: as, v :: vs, h, k => ⟨v, vs, rfl, k 0 a v rfl rfl, RL.of_get (by simpa using h) (fun i a' v' ha hv => k (i + 1) a' v' (by simpa using ha) (by simpa using hv))⟩
theorem RL.mem {x : Cx} {as : List AV} {vs : List Value} (h : RL x as vs) {v : Value} (hv : v ∈ vs) : ∃ a ∈ as, R x a v := by
  obtain ⟨i, hi⟩ := List.getElem?_of_mem hv
  have hl : i < as.length := by rw [← h.length]; exact (List.getElem?_eq_some_iff.1 hi).1
  obtain ⟨v', h1, h2⟩ := h.get (List.getElem?_eq_getElem hl)
  rw [hi] at h1
  cases h1
  exact ⟨_, List.getElem_mem hl, h2⟩

theorem R.oneCell {x : Cx} {a : AV} {v : Value} (h : R x a v) (hc : a.isCell = true) : v.oneCell' = true := by
  cases a with
  | bool | int | str | nilptr | nilfn | nilmap | nilif => simp only [R] at h; subst h; rfl
  | ptr | map => simp only [R] at h; obtain ⟨_, _, rfl⟩ := h; rfl
  | lptr => simp only [R] at h; obtain ⟨_, _, _, rfl, _⟩ := h; rfl
  | lit => simp only [R] at h; rcases h with ⟨_, rfl, _⟩ | ⟨_, _, _, _, _, rfl, _⟩ <;> rfl
  | ref => simp only [R] at h; obtain ⟨_, _, _, _, _, rfl, _⟩ := h; rfl
  | own => simp only [R] at h; rcases h with ⟨_, ⟨_, rfl, _⟩ | ⟨_, _, _, _, _, rfl, _⟩⟩ <;> rfl
  | fn => simp only [R] at h; obtain ⟨_, _, rfl, _⟩ := h; rfl
  | iface => simp only [R] at h; obtain ⟨_, rfl, _⟩ := h; rfl
  | agg | tup | any => cases hc

end Go.Abs
