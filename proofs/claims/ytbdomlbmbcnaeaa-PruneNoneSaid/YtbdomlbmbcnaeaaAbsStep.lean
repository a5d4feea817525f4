/- Steps of a world, and the abstract heap behind them: a new block, a dead one, a written one, one that goes on under a new number. -/
import Derived.Test.YtbdomlbmbcnaeaaAbsEv
import Derived.Laws.IdiomCopy
namespace Go.Abs

/-! ### cells written -/
theorem heap_setCells_other (b : Nat) : ∀ (vs : List Value) (o : Nat) (w : World) (k : Nat), k ≠ b → (w.setCells b o vs).heap[k]? = w.heap[k]?
  | [], _, _, _, _ => rfl
  | v :: r, o, w, k, h => by
    rw [World.setCells, heap_setCells_other b r _ _ _ h]
    exact heap_setCell_other _ _ _ _ h
theorem heap_setCells_same (b : Nat) : ∀ (vs : List Value) (o : Nat) (w : World) (c : Array Value) (t : TypeId) (fz : Nat × Nat), w.heap[b]? = some (.cells c t fz) →
    ∃ c', (w.setCells b o vs).heap[b]? = some (.cells c' t fz) ∧ c'.size = c.size ∧ (∀ i, i < o → c'[i]? = c[i]?) ∧ (∀ i, o + vs.length ≤ i → c'[i]? = c[i]?) ∧ ∀ i u, vs[i]? = some u → o + i < c.size → c'[o + i]? = some u
  | [], o, w, c, t, fz, h => ⟨c, h, rfl, fun _ _ => rfl, fun _ _ => rfl, fun i u hu => by simp at hu⟩
  | v :: r, o, w, c, t, fz, h => by
    have h1 : (w.setCell ⟨b, o, none⟩ v).heap[b]? = some (.cells (c.setIfInBounds o v) t fz) := by
      simp only [World.setCell, Array.getElem?_modify, ↓reduceIte, h, Option.map_some]
      rfl
    obtain ⟨c', h2, h3, h4, h5, h6⟩ := heap_setCells_same b r (o + 1) _ _ t fz h1
    refine ⟨c', h2, by simpa using h3, fun i hi => ?_, fun i hi => ?_, fun i u hu hs => ?_⟩
    · rw [h4 i (by omega), Array.getElem?_setIfInBounds_ne (by omega)]
    · rw [h5 i (by simp at hi; omega), Array.getElem?_setIfInBounds_ne (by simp at hi; omega)]
    · cases i with
      | zero =>
        simp at hu
        subst hu
        rw [Nat.add_zero, h4 o (by omega)]
        simp at hs
        simp [hs]
      | succ i =>
        have := h6 i u (by simpa using hu) (by simp; omega)
        rwa [show o + 1 + i = o + (i + 1) by omega] at this
theorem setCells_os (b : Nat) : ∀ (vs : List Value) (o : Nat) (w : World), (w.setCells b o vs).os = w.os ∧ (w.setCells b o vs).tape = w.tape ∧ (w.setCells b o vs).output = w.output ∧ (w.setCells b o vs).heap.size = w.heap.size
  | [], _, _ => ⟨rfl, rfl, rfl, rfl⟩
  | v :: r, o, w => by
    rw [World.setCells]
    obtain ⟨h1, h2, h3, h4⟩ := setCells_os b r (o + 1) (w.setCell ⟨b, o, none⟩ v)
    exact ⟨h1, h2, h3, by rw [h4]; simp⟩

/-! ### an abstract row with cells put in -/
theorem splice_length {cs vs : List AV} {off : Nat} (h : off + vs.length ≤ cs.length) : (splice cs off vs).length = cs.length := by
  simp [splice]; omega
theorem RL.splice {x : Cx} {cs vs : List AV} {us ws : List Value} (h : RL x cs us) (hv : RL x vs ws) (off : Nat) : RL x (splice cs off vs) (us.take off ++ ws ++ us.drop (off + ws.length)) := by
  unfold Abs.splice
  rw [← hv.length]
  exact ((h.take off).append hv).append (h.drop _)
theorem splice_cells {cs vs : List AV} {off : Nat} (h1 : ∀ a ∈ cs, a.isCell = true) (h2 : ∀ a ∈ vs, a.isCell = true) : ∀ a ∈ splice cs off vs, a.isCell = true := by
  intro a ha
  simp only [splice, List.mem_append] at ha
  rcases ha with (ha | ha) | ha
  · exact h1 a (List.mem_of_mem_take ha)
  · exact h2 a ha
  · exact h1 a (List.mem_of_mem_drop ha)

/-- A state's parts that a step of the tape alone leaves. -/
theorem Keeps.drawn (x : Cx) {w : World} (h : w.heap = x.w.heap) : Keeps x { x with w := w } :=
  ⟨fun _ _ => rfl, Nat.le_refl _, fun _ h => h, fun k _ => by rw [h], fun k s hs => by unfold bsz at *; simpa [h] using hs⟩
theorem Rel.drawn {x : Cx} {H : AH} (hr : Rel x H) {w : World} (h : w.heap = x.w.heap) : Rel { x with w := w } H :=
  ⟨hr.N, fun l b hb => HoldsB.keeps (Keeps.drawn x h) (by rw [h]) (hr.block l b hb), hr.inj, hr.notF, fun k hk => by simp only [h]; exact hr.Flt k hk⟩
theorem Mv.drawn {x : Cx} {H : AH} {w : World} (h : w.heap = x.w.heap) (ho : w.os = x.w.os) (ht : w.tape = x.w.tape) (hu : w.output = x.w.output) : Mv x.N x H { x with w := w } H :=
  ⟨fun _ _ => rfl, Nat.le_refl _, Nat.le_refl _, fun _ h => h, (Keeps.drawn x h).sz, by rw [h]; exact Nat.le_refl _, ho, ht, hu, fun k _ _ => by rw [h], fun _ h => .inl h, fun _ h => .inl h⟩

/-! ### a new block -/
def Cx.new (x : Cx) (p : Nat × Nat) (w : World) : Cx := { at_ := fun l => if l = x.N then p else x.at_ l, F := x.F, N := x.N + 1, w := w }

theorem Cx.new_at (x : Cx) (p : Nat × Nat) (w : World) : (x.new p w).at_ x.N = p := by simp [Cx.new]
theorem Cx.new_old (x : Cx) (p : Nat × Nat) (w : World) {l : Nat} (h : l < x.N) : (x.new p w).at_ l = x.at_ l := by simp [Cx.new]; omega

theorem getElem?_app_lt {α : Type} {H : List α} {b : α} {l : Nat} (h : l < H.length) : (H ++ [b])[l]? = H[l]? := List.getElem?_append_left h
theorem getElem?_app_eq {α : Type} {H : List α} {b : α} : (H ++ [b])[H.length]? = some b := by simp

theorem Live.app {H : AH} {b : AB} {l : Nat} (h : Live (H ++ [b]) l) : Live H l ∨ (l = H.length ∧ b.live = true) := by
  obtain ⟨c, hc, hl⟩ := h
  rcases Nat.lt_trichotomy l H.length with h' | h' | h'
  · rw [getElem?_app_lt h'] at hc
    exact .inl ⟨c, hc, hl⟩
  · subst h'
    simp at hc
    subst hc
    exact .inr ⟨rfl, hl⟩
  · rw [List.getElem?_eq_none (by simp; omega)] at hc
    cases hc
theorem Live.lt {H : AH} {l : Nat} (h : Live H l) : l < H.length := by
  obtain ⟨c, hc, _⟩ := h
  exact (List.getElem?_eq_some_iff.1 hc).1

/-- A new block of the world for a new one of the heap. -/
theorem Rel.push {x : Cx} {H : AH} (hr : Rel x H) (o : Obj) (b : AB) (w' : World) (hw : w'.heap = x.w.heap.push o) (hos : w'.os = x.w.os) (htp : w'.tape = x.w.tape) (hout : w'.output = x.w.output)
    (hb : HoldsB (x.new (x.w.heap.size, 0) w') (x.w.heap.size, 0) b) :
    Mv x.N x H (x.new (x.w.heap.size, 0) w') (H ++ [b]) ∧ Rel (x.new (x.w.heap.size, 0) w') (H ++ [b]) ∧ Keeps x (x.new (x.w.heap.size, 0) w') := by
  have hold : ∀ k, k < x.w.heap.size → w'.heap[k]? = x.w.heap[k]? := fun k hk => by rw [hw, Array.getElem?_push, if_neg (by omega)]
  have hsz : ∀ k s, bsz x.w k = some s → bsz w' k = some s := fun k s hs => by
    have hk : k < x.w.heap.size := by
      rcases Nat.lt_or_ge k x.w.heap.size with h' | h'
      · exact h'
      · simp [bsz, Array.getElem?_eq_none h'] at hs
    unfold bsz at *
    rw [hold k hk]
    exact hs
  have hk : Keeps x (x.new (x.w.heap.size, 0) w') := ⟨fun l hl => x.new_old _ _ hl, Nat.le_succ _, fun _ h => h, fun k hf => hold k (hr.Flt k hf), hsz⟩
  refine ⟨⟨fun l hl => x.new_old _ _ hl, Nat.le_refl _, Nat.le_succ _, fun _ h => h, hsz, ?_, hos, htp, hout, fun k hk _ => hold k hk, ?_, fun k h => .inl h⟩, ⟨?_, ?_, ?_, ?_, ?_⟩, hk⟩
  · show x.w.heap.size ≤ w'.heap.size
    rw [hw]; simp
  · rintro k ⟨l, hl, rfl⟩
    rcases hl.app with h' | ⟨rfl, h'⟩
    · rw [x.new_old _ _ (by rw [hr.N]; exact h'.lt)]
      exact .inl ⟨l, h', rfl⟩
    · rw [← hr.N, x.new_at]
      exact .inr (Nat.le_refl _)
  · show x.N + 1 = _
    rw [hr.N]; simp
  · intro l c hc
    rcases Nat.lt_trichotomy l H.length with h' | h' | h'
    · rw [getElem?_app_lt h'] at hc
      rw [x.new_old _ _ (by rw [hr.N]; exact h')]
      have hb' := hr.block l c hc
      cases c with
      | dead => trivial
      | cells cs => exact HoldsB.keeps hk (hold _ (Own.lt hr ⟨l, ⟨_, hc, rfl⟩, rfl⟩)) hb'
      | map es => exact HoldsB.keeps hk (hold _ (Own.lt hr ⟨l, ⟨_, hc, rfl⟩, rfl⟩)) hb'
    · subst h'
      simp at hc
      subst hc
      rw [← hr.N, x.new_at]
      exact hb
    · rw [List.getElem?_eq_none (by simp; omega)] at hc
      cases hc
  · intro l m hl hm he
    rcases hl.app with h1 | ⟨rfl, h1⟩ <;> rcases hm.app with h2 | ⟨rfl, h2⟩
    · rw [x.new_old _ _ (by rw [hr.N]; exact h1.lt), x.new_old _ _ (by rw [hr.N]; exact h2.lt)] at he
      exact hr.inj l m h1 h2 he
    · rw [x.new_old _ _ (by rw [hr.N]; exact h1.lt), ← hr.N, x.new_at] at he
      have := Own.lt hr ⟨l, h1, rfl⟩
      simp only at he
      omega
    · have e1 : (x.new (x.w.heap.size, 0) w').at_ H.length = (x.w.heap.size, 0) := by rw [← hr.N, x.new_at]
      rw [e1, x.new_old _ _ (by rw [hr.N]; exact h2.lt)] at he
      have := Own.lt hr ⟨m, h2, rfl⟩
      simp only at he
      omega
    · rfl
  · intro l hl hf
    rcases hl.app with h1 | ⟨rfl, h1⟩
    · rw [x.new_old _ _ (by rw [hr.N]; exact h1.lt)] at hf
      exact hr.notF l h1 hf
    · rw [← hr.N, x.new_at] at hf
      exact Nat.lt_irrefl _ (hr.Flt _ hf)
  · intro k hf
    have := hr.Flt k hf
    show k < w'.heap.size
    rw [hw]
    simp
    omega

/-! ### a dead block -/
theorem Live.dead {H : AH} {l m : Nat} (h : Live (H.set l .dead) m) : Live H m ∧ m ≠ l := by
  obtain ⟨c, hc, hl⟩ := h
  by_cases e : l = m
  · subst e
    rw [List.getElem?_set] at hc
    simp at hc
    rw [← hc.2] at hl
    cases hl
  · rw [List.getElem?_set_ne e] at hc
    exact ⟨⟨c, hc, hl⟩, fun h => e h.symm⟩
theorem Rel.dead {x : Cx} {H : AH} (hr : Rel x H) (l : Nat) : Rel x (H.set l .dead) ∧ Mv x.N x H x (H.set l .dead) := by
  refine ⟨⟨by rw [hr.N]; simp, fun m b hb => ?_, fun a b ha hb => hr.inj a b ha.dead.1 hb.dead.1, fun m hm => hr.notF m hm.dead.1, hr.Flt⟩, ?_⟩
  · by_cases e : l = m
    · subst e
      rw [List.getElem?_set] at hb
      simp at hb
      rw [← hb.2]
      trivial
    · rw [List.getElem?_set_ne e] at hb
      exact hr.block m b hb
  · exact ⟨fun _ _ => rfl, Nat.le_refl _, Nat.le_refl _, fun _ h => h, fun _ _ h => h, Nat.le_refl _, rfl, rfl, rfl, fun _ _ _ => rfl, fun k ⟨m, hm, e⟩ => .inl ⟨m, hm.dead.1, e⟩, fun _ h => .inl h⟩

/-! ### a block that is written -/
theorem Live.set {H : AH} {l m : Nat} {b : AB} (h : Live (H.set l b) m) (hl : Live H l) : Live H m := by
  by_cases e : l = m
  · exact e ▸ hl
  · obtain ⟨c, hc, h'⟩ := h
    rw [List.getElem?_set_ne e] at hc
    exact ⟨c, hc, h'⟩
theorem bsz_of {w : World} {k : Nat} {c : Array Value} {t : TypeId} {fz : Nat × Nat} (h : w.heap[k]? = some (.cells c t fz)) : bsz w k = some c.size := by unfold bsz; rw [h]

/-- A live block's place holds something else now; the other blocks of the world are as they were. -/
theorem Rel.update {x : Cx} {H : AH} (hr : Rel x H) {l : Nat} (b : AB) (hl : Live H l) (hbl : b.live = true) (w' : World) (hs : w'.heap.size = x.w.heap.size) (ho : ∀ k, k ≠ (x.at_ l).1 → w'.heap[k]? = x.w.heap[k]?)
    (hsz : ∀ s, bsz x.w (x.at_ l).1 = some s → bsz w' (x.at_ l).1 = some s) (hos : w'.os = x.w.os) (htp : w'.tape = x.w.tape) (hout : w'.output = x.w.output)
    (hb : HoldsB { x with w := w' } (x.at_ l) b) :
    Mv x.N x H { x with w := w' } (H.set l b) ∧ Rel { x with w := w' } (H.set l b) ∧ Keeps x { x with w := w' } := by
  have hsz' : ∀ k s, bsz x.w k = some s → bsz w' k = some s := fun k s h => by
    by_cases e : k = (x.at_ l).1
    · subst e; exact hsz s h
    · unfold bsz at *
      rw [ho k e]
      exact h
  have hk : Keeps x { x with w := w' } := ⟨fun _ _ => rfl, Nat.le_refl _, fun _ h => h, fun k hf => ho k (fun e => hr.notF l hl (e ▸ hf)), hsz'⟩
  refine ⟨⟨fun _ _ => rfl, Nat.le_refl _, Nat.le_refl _, fun _ h => h, hsz', by rw [hs]; exact Nat.le_refl _, hos, htp, hout, fun k _ hn => ho k (fun e => hn ⟨l, hl, e.symm⟩), ?_, fun _ h => .inl h⟩, ⟨by simp [hr.N], ?_, ?_, ?_, ?_⟩, hk⟩
  · rintro k ⟨m, hm, rfl⟩
    exact .inl ⟨m, hm.set hl, rfl⟩
  · intro m c hc
    by_cases e : l = m
    · subst e
      have : c = b := by
        rw [List.getElem?_set] at hc
        simp at hc
        exact hc.2.symm
      subst this
      exact hb
    · rw [List.getElem?_set_ne e] at hc
      cases c with
      | dead => trivial
      | cells cs => exact HoldsB.keeps hk (ho _ (fun e' => e (hr.inj l m hl ⟨_, hc, rfl⟩ e'.symm))) (hr.block m _ hc)
      | map es => exact HoldsB.keeps hk (ho _ (fun e' => e (hr.inj l m hl ⟨_, hc, rfl⟩ e'.symm))) (hr.block m _ hc)
  · exact fun a b ha hb => hr.inj a b (ha.set hl) (hb.set hl)
  · exact fun m hm => hr.notF m (hm.set hl)
  · exact fun k hf => by show k < w'.heap.size; rw [hs]; exact hr.Flt k hf

end Go.Abs
