/- Steps of a world, and the abstract heap behind them: a new block, a dead one, a written one, one that goes on under a new number. -/
import Derived.Test.YtmndnfpobhebjaaGreatAbnEv
import Derived.Laws.IdiomCopy
namespace Go.Abs

/-! ### cells written -/
theorem heap_setCells_other (b : Nat) : ∀ (vs : List Value) (o : Nat) (w : World) (k : Nat), k ≠ b → (w.setCells b o vs).heap[k]? = w.heap[k]?
  | [], _, _, _, _ => rfl
  | v :: r, o, w, k, h => by
    rw [World.setCells, heap_setCells_other b r _ _ _ h]
    exact heap_setCell_other _ _ _ _ h
theorem heap_setCells_same (b : Nat) : ∀ (vs : List Value) (o : Nat) (w : World) (c : Array Value) (t : TypeId) (fz : Nat × Nat), w.heap[b]? = some (.cells c t fz) →
    ∃ c', (w.setCells b o vs).heap[b]? = some (.cells c' t fz) ∧ c'.size = c.size ∧ (∀ i, i < o → c'[i]? = c[i]?) ∧ (∀ i, o + vs.length ≤ i → c'[i]? = c[i]?) ∧ ∀ i u, vs[i]? = some u → o + i < c.size → c'[o + i]? = some u
  | [], o, w, c, t, fz, h => ⟨c, h, rfl, fun _ _ => rfl, fun _ _ => rfl, fun i u hu => by simp at hu⟩
  | v :: r, o, w, c, t, fz, h => by
    have h1 : (w.setCell ⟨b, o, none⟩ v).heap[b]? = some (.cells (c.setIfInBounds o v) t fz) := by
      simp only [World.setCell, Array.getElem?_modify, ↓reduceIte, h, Option.map_some]
      rfl
    obtain ⟨c', h2, h3, h4, h5, h6⟩ := heap_setCells_same b r (o + 1) _ _ t fz h1
    refine ⟨c', h2, by simpa using h3, fun i hi => ?_, fun i hi => ?_, fun i u hu hs => ?_⟩
    · rw [h4 i (by omega), Array.getElem?_setIfInBounds_ne (by omega)]
    · rw [h5 i (by simp at hi; omega), Array.getElem?_setIfInBounds_ne (by simp at hi; omega)]
    · cases i with
      | zero =>
        simp at hu
        subst hu
        rw [Nat.add_zero, h4 o (by omega)]
        simp at hs
        simp [hs]
      | succ i =>
        have := h6 i u (by simpa using hu) (by simp; omega)
        rwa [show o + 1 + i = o + (i + 1) by omega] at this
theorem setCells_os (b : Nat) : ∀ (vs : List Value) (o : Nat) (w : World), (w.setCells b o vs).os = w.os ∧ (w.setCells b o vs).tape = w.tape ∧ (w.setCells b o vs).output = w.output ∧ (w.setCells b o vs).heap.size = w.heap.size
  | [], _, _ => ⟨rfl, rfl, rfl, rfl⟩
  | v :: r, o, w => by
    rw [World.setCells]
    obtain ⟨h1, h2, h3, h4⟩ := setCells_os b r (o + 1) (w.setCell ⟨b, o, none⟩ v)
    exact ⟨h1, h2, h3, by rw [h4]; simp⟩

/-! ### an abstract row with cells put in -/
theorem splice_length {cs vs : List AV} {off : Nat} (h : off + vs.length ≤ cs.length) : (splice cs off vs).length = cs.length := by
  simp [splice]; omega
theorem RL.splice {x : Cx} {cs vs : List AV} {us ws : List Value} (h : RL x cs us) (hv : RL x vs ws) (off : Nat) : RL x (splice cs off vs) (us.take off ++ ws ++ us.drop (off + ws.length)) := by
  unfold Abs.splice
  rw [← hv.length]
  exact ((h.take off).append hv).append (h.drop _)
theorem splice_cells {cs vs : List AV} {off : Nat} (h1 : ∀ a ∈ cs, a.isCell = true) (h2 : ∀ a ∈ vs, a.isCell = true) : ∀ a ∈ splice cs off vs, a.isCell = true := by
  intro a ha
  simp only [splice, List.mem_append] at ha
  rcases ha with (ha | ha) | ha
  · exact h1 a (List.mem_of_mem_take ha)
  · exact h2 a ha
  · exact h1 a (List.mem_of_mem_drop ha)

/-- A state's parts that a step of the tape alone leaves. -/
theorem cell_heap {w w' : World} (h : w'.heap = w.heap) (a : Addr) : w'.cell? a = w.cell? a := by simp only [World.cell?, h]
theorem cell_block {w w' : World} {k i : Nat} (h : w'.heap[k]? = w.heap[k]?) : w'.cell? ⟨k, i, none⟩ = w.cell? ⟨k, i, none⟩ := by simp only [World.cell?, h]
theorem Keeps.drawn (x : Cx) {w : World} (h : w.heap = x.w.heap) : Keeps x { x with w := w } :=
  ⟨fun _ _ _ => ⟨rfl, rfl⟩, fun _ _ => ⟨Nat.le_refl _, id⟩, Nat.le_refl _, fun _ _ h => h, fun k _ _ i _ => cell_heap h _, fun k s hs => by unfold bsz at *; simpa [h] using hs⟩
theorem Rel.lt {x : Cx} {H : AH} (hr : Rel x H) {l : Nat} {b : AB} (h : H[l]? = some b) : l < x.N := by rw [hr.N]; exact (List.getElem?_eq_some_iff.1 h).1
theorem Rel.drawn {x : Cx} {H : AH} (hr : Rel x H) {w : World} (h : w.heap = x.w.heap) : Rel { x with w := w } H :=
  ⟨hr.N, fun l b hb => HoldsB.keeps (Keeps.drawn x h) (hr.lt hb) rfl (fun _ => by rw [h]) (hr.block l b hb), hr.inj, hr.notF, fun k m hk => by simp only [h]; exact hr.Flt k m hk⟩
theorem Mv.drawn {x : Cx} {H : AH} {w : World} (h : w.heap = x.w.heap) (ho : w.os = x.w.os) (ht : w.tape = x.w.tape) (hu : w.output = x.w.output) : Mv x.N x H { x with w := w } H :=
  ⟨fun _ _ _ => ⟨rfl, rfl⟩, fun _ _ => ⟨Nat.le_refl _, id⟩, Nat.le_refl _, Nat.le_refl _, fun _ _ h => h, (Keeps.drawn x h).heap, (Keeps.drawn x h).sz, by rw [h]; exact Nat.le_refl _, ho, ht, hu, fun k _ _ => by rw [h], fun _ h => .inl h, fun _ _ h => .inl h⟩

/-! ### a new block -/
/-- A place more: a room (its version above 0), or none. -/
def Cx.newV (x : Cx) (p : Nat × Nat) (v : Nat) (r : Bool) (w : World) : Cx :=
  { at_ := fun l => if l = x.N then p else x.at_ l, ver := fun l => if l = x.N then v else x.ver l, rl := fun l => if l = x.N then r else x.rl l, F := x.F, N := x.N + 1, w := w }
abbrev Cx.new (x : Cx) (p : Nat × Nat) (w : World) : Cx := x.newV p 0 false w

theorem Cx.newV_at (x : Cx) (p : Nat × Nat) (v : Nat) (r : Bool) (w : World) : (x.newV p v r w).at_ x.N = p ∧ (x.newV p v r w).ver x.N = v ∧ (x.newV p v r w).rl x.N = r := by simp [Cx.newV]
theorem Cx.newV_old (x : Cx) (p : Nat × Nat) (v : Nat) (r : Bool) (w : World) {l : Nat} (h : l < x.N) : (x.newV p v r w).at_ l = x.at_ l ∧ (x.newV p v r w).ver l = x.ver l ∧ (x.newV p v r w).rl l = x.rl l := by
  have : l ≠ x.N := by omega
  simp [Cx.newV, this]
theorem Cx.new_at (x : Cx) (p : Nat × Nat) (w : World) : (x.new p w).at_ x.N = p := (x.newV_at p 0 false w).1
theorem Cx.new_ver (x : Cx) (p : Nat × Nat) (w : World) : (x.new p w).ver x.N = 0 := (x.newV_at p 0 false w).2.1
theorem Cx.new_old (x : Cx) (p : Nat × Nat) (w : World) {l : Nat} (h : l < x.N) : (x.new p w).at_ l = x.at_ l := (x.newV_old p 0 false w h).1
theorem Cx.newV_keeps (x : Cx) (p : Nat × Nat) (v : Nat) (r : Bool) (w : World) (hc : ∀ k m, x.F k m → ∀ i, i < m → w.cell? ⟨k, i, none⟩ = x.w.cell? ⟨k, i, none⟩) (hs : ∀ k s, bsz x.w k = some s → bsz w k = some s) : Keeps x (x.newV p v r w) :=
  ⟨fun l hl _ => ⟨(x.newV_old p v r w hl).1, (x.newV_old p v r w hl).2.2⟩, fun l hl => by rw [(x.newV_old p v r w hl).2.1]; exact ⟨Nat.le_refl _, id⟩, Nat.le_succ _, fun _ _ h => h, hc, hs⟩

theorem getElem?_app_lt {α : Type} {H : List α} {b : α} {l : Nat} (h : l < H.length) : (H ++ [b])[l]? = H[l]? := List.getElem?_append_left h
theorem getElem?_app_eq {α : Type} {H : List α} {b : α} : (H ++ [b])[H.length]? = some b := by simp

theorem Live.app {H : AH} {b : AB} {l : Nat} (h : Live (H ++ [b]) l) : Live H l ∨ (l = H.length ∧ b.live = true) := by
  obtain ⟨c, hc, hl⟩ := h
  rcases Nat.lt_trichotomy l H.length with h' | h' | h'
  · rw [getElem?_app_lt h'] at hc
    exact .inl ⟨c, hc, hl⟩
  · subst h'
    simp at hc
    subst hc
    exact .inr ⟨rfl, hl⟩
  · rw [List.getElem?_eq_none (by simp; omega)] at hc
    cases hc
theorem Live.lt {H : AH} {l : Nat} (h : Live H l) : l < H.length := by
  obtain ⟨c, hc, _⟩ := h
  exact (List.getElem?_eq_some_iff.1 hc).1
theorem bsz_lt {w : World} {k s : Nat} (h : bsz w k = some s) : k < w.heap.size := by
  rcases Nat.lt_or_ge k w.heap.size with h' | h'
  · exact h'
  · simp [bsz, Array.getElem?_eq_none h'] at h
theorem bsz_same {w w' : World} {k s : Nat} (h : w'.heap[k]? = w.heap[k]?) (hs : bsz w k = some s) : bsz w' k = some s := by
  unfold bsz at *
  rw [h]
  exact hs

/-- A place more: in a new block of the world, or in none at all. -/
theorem Rel.pushV {x : Cx} {H : AH} (hr : Rel x H) (p : Nat × Nat) (v : Nat) (r : Bool) (b : AB) (w' : World) (hsz0 : x.w.heap.size ≤ w'.heap.size) (hold : ∀ k, k < x.w.heap.size → w'.heap[k]? = x.w.heap[k]?)
    (hos : w'.os = x.w.os) (htp : w'.tape = x.w.tape) (hout : w'.output = x.w.output) (hp : b.live = true → x.w.heap.size ≤ p.1)
    (hb : Keeps x (x.newV p v r w') → HoldsB (x.newV p v r w') x.N b) :
    Mv x.N x H (x.newV p v r w') (H ++ [b]) ∧ Rel (x.newV p v r w') (H ++ [b]) ∧ Keeps x (x.newV p v r w') := by
  have hsz : ∀ k s, bsz x.w k = some s → bsz w' k = some s := fun k s hs => bsz_same (hold k (bsz_lt hs)) hs
  have hcell : ∀ k m, x.F k m → ∀ i, i < m → w'.cell? ⟨k, i, none⟩ = x.w.cell? ⟨k, i, none⟩ := fun k m hf i _ => cell_block (hold k (hr.Flt k m hf))
  have hk : Keeps x (x.newV p v r w') := x.newV_keeps p v r w' hcell hsz
  have hb := hb hk
  refine ⟨⟨hk.at_, hk.ver, Nat.le_refl _, Nat.le_succ _, fun _ _ h => h, hcell, hsz, hsz0, hos, htp, hout, fun k hk _ => hold k hk, ?_, fun k m h => .inl h⟩, ⟨?_, ?_, ?_, ?_, ?_⟩, hk⟩
  · rintro k ⟨l, hl, rfl⟩
    rcases hl.app with h' | ⟨rfl, h'⟩
    · rw [(x.newV_old p v r w' (by rw [hr.N]; exact h'.lt)).1]
      exact .inl ⟨l, h', rfl⟩
    · rw [← hr.N, (x.newV_at p v r w').1]
      exact .inr (hp h')
  · show x.N + 1 = _
    rw [hr.N]; simp
  · intro l c hc
    rcases Nat.lt_trichotomy l H.length with h' | h' | h'
    · rw [getElem?_app_lt h'] at hc
      have hl := hr.lt hc
      exact HoldsB.keeps hk hl (x.newV_old p v r w' hl).2.1 (fun hcl => hold _ (Own.lt hr ⟨l, ⟨_, hc, hcl⟩, rfl⟩)) (hr.block l c hc)
    · subst h'
      simp at hc
      subst hc
      rw [← hr.N]
      exact hb
    · rw [List.getElem?_eq_none (by simp; omega)] at hc
      cases hc
  · intro l m hl hm he
    rcases hl.app with h1 | ⟨rfl, h1⟩ <;> rcases hm.app with h2 | ⟨rfl, h2⟩
    · rw [(x.newV_old p v r w' (by rw [hr.N]; exact h1.lt)).1, (x.newV_old p v r w' (by rw [hr.N]; exact h2.lt)).1] at he
      exact hr.inj l m h1 h2 he
    · rw [(x.newV_old p v r w' (by rw [hr.N]; exact h1.lt)).1, ← hr.N, (x.newV_at p v r w').1] at he
      have := Own.lt hr ⟨l, h1, rfl⟩
      have := hp h2
      omega
    · rw [(x.newV_old p v r w' (l := m) (by rw [hr.N]; exact h2.lt)).1, ← hr.N, (x.newV_at p v r w').1] at he
      have := Own.lt hr ⟨m, h2, rfl⟩
      have := hp h1
      omega
    · rfl
  · intro l c hc hcl m hf
    rcases Nat.lt_trichotomy l H.length with h' | h' | h'
    · rw [getElem?_app_lt h'] at hc
      rw [(x.newV_old p v r w' (hr.lt hc)).1] at hf ⊢
      exact hr.notF l c hc hcl m hf
    · subst h'
      simp at hc
      subst hc
      rw [← hr.N, (x.newV_at p v r w').1] at hf
      have := hr.Flt _ _ hf
      have := hp hcl
      omega
    · rw [List.getElem?_eq_none (by simp; omega)] at hc
      cases hc
  · intro k m hf
    have := hr.Flt k m hf
    show k < w'.heap.size
    omega
/-- A new block of the world for a new one of the heap. -/
theorem Rel.push {x : Cx} {H : AH} (hr : Rel x H) (o : Obj) (b : AB) (w' : World) (hw : w'.heap = x.w.heap.push o) (hos : w'.os = x.w.os) (htp : w'.tape = x.w.tape) (hout : w'.output = x.w.output)
    (hb : Keeps x (x.new (x.w.heap.size, 0) w') → HoldsB (x.new (x.w.heap.size, 0) w') x.N b) :
    Mv x.N x H (x.new (x.w.heap.size, 0) w') (H ++ [b]) ∧ Rel (x.new (x.w.heap.size, 0) w') (H ++ [b]) ∧ Keeps x (x.new (x.w.heap.size, 0) w') :=
  hr.pushV _ _ _ b w' (by rw [hw]; simp) (fun k hk => by rw [hw, Array.getElem?_push, if_neg (by omega)]) hos htp hout (fun _ => Nat.le_refl _) hb

/-! ### a dead block -/
theorem set_get {H : AH} {l m : Nat} {b c : AB} (h : (H.set l b)[m]? = some c) : (l = m ∧ c = b) ∨ (l ≠ m ∧ H[m]? = some c) := by
  by_cases e : l = m
  · subst e
    rw [List.getElem?_set] at h
    simp at h
    exact .inl ⟨rfl, h.2.symm⟩
  · rw [List.getElem?_set_ne e] at h
    exact .inr ⟨e, h⟩
theorem Live.dead {H : AH} {l m : Nat} (h : Live (H.set l .dead) m) : Live H m ∧ m ≠ l := by
  obtain ⟨c, hc, hl⟩ := h
  rcases set_get hc with ⟨_, rfl⟩ | ⟨e, hc⟩
  · cases hl
  · exact ⟨⟨c, hc, hl⟩, fun h => e h.symm⟩
theorem Rel.dead {x : Cx} {H : AH} (hr : Rel x H) (l : Nat) : Rel x (H.set l .dead) ∧ Mv x.N x H x (H.set l .dead) := by
  refine ⟨⟨by rw [hr.N]; simp, fun m b hb => ?_, fun a b ha hb => hr.inj a b ha.dead.1 hb.dead.1, fun m b hb hbl => ?_, hr.Flt⟩, ?_⟩
  · rcases set_get hb with ⟨_, rfl⟩ | ⟨_, hb⟩
    · trivial
    · exact hr.block m b hb
  · rcases set_get hb with ⟨_, rfl⟩ | ⟨_, hb⟩
    · cases hbl
    · exact hr.notF m b hb hbl
  · have := Mv.refl (x := x) H (Nat.le_refl x.N)
    exact { this with own := fun k ⟨m, hm, e⟩ => .inl ⟨m, hm.dead.1, e⟩ }

/-! ### a block that is written -/
theorem Live.set {H : AH} {l m : Nat} {b : AB} (h : Live (H.set l b) m) (hl : Live H l) : Live H m := by
  by_cases e : l = m
  · exact e ▸ hl
  · obtain ⟨c, hc, h'⟩ := h
    rw [List.getElem?_set_ne e] at hc
    exact ⟨c, hc, h'⟩
theorem bsz_of {w : World} {k : Nat} {c : Array Value} {t : TypeId} {fz : Nat × Nat} (h : w.heap[k]? = some (.cells c t fz)) : bsz w k = some c.size := by unfold bsz; rw [h]

/-- A live block's place holds something else now; the other blocks of the world are as they were. -/
theorem Rel.update {x : Cx} {H : AH} (hr : Rel x H) {l : Nat} {b0 : AB} (b : AB) (hl : H[l]? = some b0) (hl0 : b0.live = true) (hn0 : b0.isRoom = false) (_hbl : b.live = true) (hbn : b.isRoom = false) (w' : World) (hs : w'.heap.size = x.w.heap.size) (ho : ∀ k, k ≠ (x.at_ l).1 → w'.heap[k]? = x.w.heap[k]?)
    (hsz : ∀ s, bsz x.w (x.at_ l).1 = some s → bsz w' (x.at_ l).1 = some s) (hos : w'.os = x.w.os) (htp : w'.tape = x.w.tape) (hout : w'.output = x.w.output)
    (hb : Keeps x { x with w := w' } → HoldsB { x with w := w' } l b) :
    Mv x.N x H { x with w := w' } (H.set l b) ∧ Rel { x with w := w' } (H.set l b) ∧ Keeps x { x with w := w' } := by
  have hlive : Live H l := ⟨_, hl, hl0⟩
  have hsz' : ∀ k s, bsz x.w k = some s → bsz w' k = some s := fun k s h => by
    by_cases e : k = (x.at_ l).1
    · subst e; exact hsz s h
    · exact bsz_same (ho k e) h
  have hcell : ∀ k m, x.F k m → ∀ i, i < m → w'.cell? ⟨k, i, none⟩ = x.w.cell? ⟨k, i, none⟩ := fun k m hf i _ => cell_block (ho k (fun e => hr.hot hl hl0 hn0 (e ▸ hf)))
  have hk : Keeps x { x with w := w' } := ⟨fun _ _ _ => ⟨rfl, rfl⟩, fun _ _ => ⟨Nat.le_refl _, id⟩, Nat.le_refl _, fun _ _ h => h, hcell, hsz'⟩
  have hb := hb hk
  refine ⟨⟨hk.at_, hk.ver, Nat.le_refl _, Nat.le_refl _, fun _ _ h => h, hcell, hsz', by rw [hs]; exact Nat.le_refl _, hos, htp, hout, fun k _ hn => ho k (fun e => hn ⟨l, hlive, e.symm⟩), ?_, fun _ _ h => .inl h⟩, ⟨by simp [hr.N], ?_, ?_, ?_, ?_⟩, hk⟩
  · rintro k ⟨m, hm, rfl⟩
    exact .inl ⟨m, hm.set hlive, rfl⟩
  · intro m c hc
    rcases set_get hc with ⟨rfl, rfl⟩ | ⟨e, hc⟩
    · exact hb
    · exact HoldsB.keeps hk (hr.lt hc) rfl (fun hcl => ho _ (fun e' => e (hr.inj l m hlive ⟨_, hc, hcl⟩ e'.symm))) (hr.block m c hc)
  · exact fun a b ha hb => hr.inj a b (ha.set hlive) (hb.set hlive)
  · intro m c hc hcl k hf
    rcases set_get hc with ⟨rfl, rfl⟩ | ⟨e, hc⟩
    · exact absurd hf (hr.hot hl hl0 hn0)
    · exact hr.notF m c hc hcl k hf
  · exact fun k m hf => by show k < w'.heap.size; rw [hs]; exact hr.Flt k m hf

end Go.Abs
