/- append, copy, make, literals of slices, bytes of strings. -/
import Derived.Test.YtmndnfpobhebjaaGreatAbnMem
import Derived.Laws.AppendOwn
namespace Go.Abs

/-- A live row goes on under a new number, in its own block of the world. -/
theorem Rel.reuse {x : Cx} {H : AH} (hr : Rel x H) {l : Nat} {b0 : AB} (hl : H[l]? = some b0) (hb0 : b0.live = true) (hn0 : b0.isRoom = false) (p : Nat × Nat) (hp : p.1 = (x.at_ l).1) (b : AB) (hbn : b.isRoom = false) (w' : World)
    (hs : w'.heap.size = x.w.heap.size) (ho : ∀ k, k ≠ (x.at_ l).1 → w'.heap[k]? = x.w.heap[k]?) (hsz : ∀ s, bsz x.w (x.at_ l).1 = some s → bsz w' (x.at_ l).1 = some s)
    (hos : w'.os = x.w.os) (htp : w'.tape = x.w.tape) (hout : w'.output = x.w.output) (hb : Keeps x (x.new p w') → HoldsB (x.new p w') x.N b) :
    Mv x.N x H (x.new p w') (H.set l .dead ++ [b]) ∧ Rel (x.new p w') (H.set l .dead ++ [b]) ∧ Keeps x (x.new p w') := by
  have hlive : Live H l := ⟨_, hl, hb0⟩
  have hsz' : ∀ k s, bsz x.w k = some s → bsz w' k = some s := fun k s h => by
    by_cases e : k = (x.at_ l).1
    · subst e; exact hsz s h
    · exact bsz_same (ho k e) h
  have hcell : ∀ k m, x.F k m → ∀ i, i < m → w'.cell? ⟨k, i, none⟩ = x.w.cell? ⟨k, i, none⟩ := fun k m hf i _ => cell_block (ho k (fun e => hr.hot hl hb0 hn0 (e ▸ hf)))
  have hk : Keeps x (x.new p w') := x.newV_keeps p 0 false w' hcell hsz'
  have hb := hb hk
  have hlen : (H.set l .dead).length = H.length := by simp
  have hold : ∀ m, m < x.N → (x.new p w').at_ m = x.at_ m := fun m hm => x.new_old _ _ hm
  have hlt : ∀ m, Live (H.set l .dead) m → m < x.N := fun m hm => by have := hm.lt; rw [hr.N]; omega
  have hnew : (x.new p w').at_ (H.set l .dead).length = p := by rw [hlen, ← hr.N, x.new_at]
  refine ⟨⟨hk.at_, hk.ver, Nat.le_refl _, Nat.le_succ _, fun _ _ h => h, hcell, hsz', by show _ ≤ w'.heap.size; omega, hos, htp, hout, fun k _ hn => ho k (fun e => hn ⟨l, hlive, e.symm⟩), ?_, fun _ _ h => .inl h⟩, ⟨?_, ?_, ?_, ?_, ?_⟩, hk⟩
  · rintro k ⟨m, hm, rfl⟩
    rcases hm.app with h' | ⟨rfl, h'⟩
    · rw [hold m (hlt m h')]
      exact .inl ⟨m, h'.dead.1, rfl⟩
    · rw [hnew, hp]
      exact .inl ⟨l, hlive, rfl⟩
  · show x.N + 1 = _
    rw [hr.N]; simp
  · intro m c hc
    rcases Nat.lt_trichotomy m (H.set l .dead).length with h' | h' | h'
    · rw [getElem?_app_lt h'] at hc
      rcases set_get hc with ⟨rfl, rfl⟩ | ⟨e, hc⟩
      · trivial
      · have hm := hr.lt hc
        exact HoldsB.keeps hk hm (x.newV_old _ _ _ _ hm).2.1 (fun hcl => ho _ (fun e' => e (hr.inj l m hlive ⟨_, hc, hcl⟩ e'.symm))) (hr.block m _ hc)
    · subst h'
      have hcb : c = b := by simpa using hc.symm
      subst hcb
      rw [hlen, ← hr.N]
      exact hb
    · rw [List.getElem?_eq_none (by simp at h' ⊢; omega)] at hc
      cases hc
  · intro a c ha hc he
    rcases ha.app with h1 | ⟨rfl, h1⟩ <;> rcases hc.app with h2 | ⟨rfl, h2⟩
    · rw [hold a (hlt a h1), hold c (hlt c h2)] at he
      exact hr.inj a c h1.dead.1 h2.dead.1 he
    · rw [hold a (hlt a h1), hnew, hp] at he
      exact absurd (hr.inj a l h1.dead.1 hlive he) h1.dead.2
    · rw [hold c (hlt c h2), hnew, hp] at he
      exact absurd (hr.inj c l h2.dead.1 hlive he.symm) h2.dead.2
    · rfl
  · intro m c hc hcl k hf
    rcases Nat.lt_trichotomy m (H.set l .dead).length with h' | h' | h'
    · rw [getElem?_app_lt h'] at hc
      rcases set_get hc with ⟨rfl, rfl⟩ | ⟨e, hc⟩
      · cases hcl
      · rw [hold m (hr.lt hc)] at hf ⊢
        exact hr.notF m c hc hcl k hf
    · subst h'
      rw [hnew, hp] at hf
      exact absurd hf (hr.hot hl hb0 hn0)
    · rw [List.getElem?_eq_none (by simp at h' ⊢; omega)] at hc
      cases hc
  · intro k m hf
    show k < w'.heap.size
    rw [hs]
    exact hr.Flt k m hf

/-- The world has more blocks; nothing else is changed. -/
theorem Rel.worldly {x : Cx} {H : AH} (hr : Rel x H) (w' : World) (hsz0 : x.w.heap.size ≤ w'.heap.size) (hold : ∀ k, k < x.w.heap.size → w'.heap[k]? = x.w.heap[k]?) (hos : w'.os = x.w.os) (htp : w'.tape = x.w.tape) (hout : w'.output = x.w.output) :
    Mv x.N x H { x with w := w' } H ∧ Rel { x with w := w' } H ∧ Keeps x { x with w := w' } := by
  have hsz : ∀ k s, bsz x.w k = some s → bsz w' k = some s := fun k s hs => bsz_same (hold k (bsz_lt hs)) hs
  have hcell : ∀ k m, x.F k m → ∀ i, i < m → w'.cell? ⟨k, i, none⟩ = x.w.cell? ⟨k, i, none⟩ := fun k m hf i _ => cell_block (hold k (hr.Flt k m hf))
  have hk : Keeps x { x with w := w' } := ⟨fun _ _ _ => ⟨rfl, rfl⟩, fun _ _ => ⟨Nat.le_refl _, id⟩, Nat.le_refl _, fun _ _ h => h, hcell, hsz⟩
  refine ⟨⟨hk.at_, hk.ver, Nat.le_refl _, Nat.le_refl _, fun _ _ h => h, hcell, hsz, hsz0, hos, htp, hout, fun k hk _ => hold k hk, fun k hk => .inl hk, fun k m h => .inl h⟩, ⟨hr.N, fun l b hb => ?_, hr.inj, hr.notF, fun k m hf => ?_⟩, hk⟩
  · exact HoldsB.keeps hk (hr.lt hb) rfl (fun hcl => hold _ (Own.lt hr ⟨l, ⟨_, hb, hcl⟩, rfl⟩)) (hr.block l b hb)
  · have := hr.Flt k m hf
    show k < w'.heap.size
    omega
/-- More is frozen. -/
def Cx.more (x : Cx) (Q : Nat → Nat → Prop) : Cx := { x with F := fun k m => x.F k m ∨ Q k m }
theorem Cx.more_keeps (x : Cx) (Q : Nat → Nat → Prop) : Keeps x (x.more Q) := ⟨fun _ _ _ => ⟨rfl, rfl⟩, fun _ _ => ⟨Nat.le_refl _, id⟩, Nat.le_refl _, fun _ _ h => .inl h, fun _ _ _ _ _ => rfl, fun _ _ h => h⟩
theorem Rel.more {x : Cx} {H : AH} (hr : Rel x H) {Q : Nat → Nat → Prop} (h1 : ∀ k m, Q k m → k < x.w.heap.size) (h2 : ∀ k m, Q k m → ∀ l b, H[l]? = some b → b.live = true → (x.at_ l).1 = k → b.isRoom = true ∧ m ≤ (x.at_ l).2) : Rel (x.more Q) H :=
  ⟨hr.N, fun l b hb => HoldsB.keeps (x.more_keeps Q) (hr.lt hb) rfl (fun _ => rfl) (hr.block l b hb), hr.inj, fun l b hb hl m hf => hf.elim (hr.notF l b hb hl m) (fun hq => h2 _ m hq l b hb hl rfl), fun k m hf => hf.elim (hr.Flt k m) (h1 k m)⟩
theorem Mv.more {n : Nat} {x y : Cx} {H H' : AH} (h : Mv n x H y H') {Q : Nat → Nat → Prop} (hQ : ∀ k m, Q k m → Own x H k ∨ x.w.heap.size ≤ k) : Mv n x H (y.more Q) H' :=
  ⟨h.at_, h.ver, h.Nx, h.N, fun k m hf => .inl (h.F k m hf), h.same, h.sz, h.size, h.os, h.tape, h.output, h.frame, h.own, fun k m hf => hf.elim (h.newF k m) (fun hq => .inr (hQ k m hq))⟩
/-- A room is another one now. -/
def Cx.roomy (x : Cx) (l : Nat) (p : Nat × Nat) (v : Nat) (r : Bool) (w : World) : Cx :=
  { x with at_ := fun k => if k = l then p else x.at_ k, ver := fun k => if k = l then v else x.ver k, rl := fun k => if k = l then r else x.rl k, w := w }
theorem Cx.roomy_same (x : Cx) (l : Nat) (p : Nat × Nat) (v : Nat) (r : Bool) (w : World) : (x.roomy l p v r w).at_ l = p ∧ (x.roomy l p v r w).ver l = v ∧ (x.roomy l p v r w).rl l = r := by simp [Cx.roomy]
theorem Cx.roomy_other (x : Cx) {l : Nat} (p : Nat × Nat) (v : Nat) (r : Bool) (w : World) {k : Nat} (h : l ≠ k) : (x.roomy l p v r w).at_ k = x.at_ k ∧ (x.roomy l p v r w).ver k = x.ver k ∧ (x.roomy l p v r w).rl k = x.rl k := by
  have : k ≠ l := fun e => h e.symm
  simp [Cx.roomy, this]
theorem Rel.room {x : Cx} {H : AH} (hr : Rel x H) {l v : Nat} {real : Bool} (hl : H[l]? = some (.room v real)) (p : Nat × Nat) (r : Bool) (w' : World) (hsz0 : x.w.heap.size ≤ w'.heap.size)
    (hold : ∀ k, k < x.w.heap.size → (real = true → k ≠ (x.at_ l).1) → w'.heap[k]? = x.w.heap[k]?) (hcell : ∀ k m, x.F k m → ∀ i, i < m → w'.cell? ⟨k, i, none⟩ = x.w.cell? ⟨k, i, none⟩) (hsz : ∀ k s, bsz x.w k = some s → bsz w' k = some s)
    (hos : w'.os = x.w.os) (htp : w'.tape = x.w.tape) (hout : w'.output = x.w.output) (hp : r = true → (real = true ∧ p.1 = (x.at_ l).1 ∧ (x.at_ l).2 ≤ p.2) ∨ x.w.heap.size ≤ p.1) (hroom : r = true → HoldsRoom { x with w := w' } p.1 p.2) :
    Mv x.N x H (x.roomy l p (v + 1) r w') (H.set l (.room (v + 1) r)) ∧ Rel (x.roomy l p (v + 1) r w') (H.set l (.room (v + 1) r)) ∧ Keeps x (x.roomy l p (v + 1) r w') := by
  obtain ⟨g1, g2, g3, g4⟩ := hr.block l _ hl
  obtain ⟨q1, q2, q3⟩ := x.roomy_same l p (v + 1) r w'
  have hver : ∀ k, x.ver k ≤ (x.roomy l p (v + 1) r w').ver k ∧ (x.ver k = 0 → (x.roomy l p (v + 1) r w').ver k = 0) := fun k => by
    by_cases e : l = k
    · subst e; rw [q2, g1]; exact ⟨by omega, fun e => by omega⟩
    · rw [(x.roomy_other p (v + 1) r w' e).2.1]; exact ⟨Nat.le_refl _, id⟩
  have hat : ∀ k, (x.roomy l p (v + 1) r w').ver k = x.ver k → (x.roomy l p (v + 1) r w').at_ k = x.at_ k ∧ (x.roomy l p (v + 1) r w').rl k = x.rl k := fun k h => by
    by_cases e : l = k
    · subst e; rw [q2, g1] at h; omega
    · exact ⟨(x.roomy_other p (v + 1) r w' e).1, (x.roomy_other p (v + 1) r w' e).2.2⟩
  have hk : Keeps x (x.roomy l p (v + 1) r w') := ⟨fun k _ h => hat k h, fun k _ => hver k, Nat.le_refl _, fun _ _ h => h, hcell, hsz⟩
  have hlive : real = true → Live H l := fun e => ⟨_, hl, e⟩
  have hoth : ∀ m, Live H m → l ≠ m → (x.at_ m).1 < x.w.heap.size ∧ (real = true → (x.at_ m).1 ≠ (x.at_ l).1) := fun m hm e => ⟨Own.lt hr ⟨m, hm, rfl⟩, fun e1 e2 => e (hr.inj l m (hlive e1) hm e2.symm)⟩
  have hL : ∀ m, Live (H.set l (.room (v + 1) r)) m → (l = m ∧ r = true) ∨ (l ≠ m ∧ Live H m) := fun m ⟨c, hc, hcl⟩ => by
    rcases set_get hc with ⟨rfl, rfl⟩ | ⟨e, hc⟩
    · exact .inl ⟨rfl, hcl⟩
    · exact .inr ⟨e, c, hc, hcl⟩
  refine ⟨⟨fun k _ h => hat k h, fun k _ => hver k, Nat.le_refl _, Nat.le_refl _, fun _ _ h => h, hcell, hsz, hsz0, hos, htp, hout, fun k hk hn => hold k hk (fun e1 e2 => hn ⟨l, hlive e1, e2.symm⟩), ?_, fun _ _ h => .inl h⟩, ⟨?_, ?_, ?_, ?_, ?_⟩, hk⟩
  · rintro k ⟨m, hm, rfl⟩
    rcases hL m hm with ⟨rfl, e⟩ | ⟨e, hm⟩
    · rw [q1]
      rcases hp e with ⟨e1, e2, _⟩ | h
      · exact .inl ⟨l, hlive e1, e2.symm⟩
      · exact .inr h
    · rw [(x.roomy_other p (v + 1) r w' e).1]
      exact .inl ⟨m, hm, rfl⟩
  · show x.N = _
    rw [hr.N]; simp
  · intro m c hc
    rcases set_get hc with ⟨rfl, rfl⟩ | ⟨e, hc⟩
    · refine ⟨q2, Nat.succ_pos _, q3, fun e => ?_⟩
      rw [q1]
      exact hroom e
    · exact HoldsB.keeps hk (hr.lt hc) (x.roomy_other p (v + 1) r w' e).2.1 (fun hcl => hold _ (hoth m ⟨c, hc, hcl⟩ e).1 (hoth m ⟨c, hc, hcl⟩ e).2) (hr.block m c hc)
  · intro a b ha hb he
    rcases hL a ha with ⟨rfl, ea⟩ | ⟨ea, ha⟩ <;> rcases hL b hb with ⟨rfl, eb⟩ | ⟨eb, hb⟩
    · rfl
    · rw [q1, (x.roomy_other p (v + 1) r w' eb).1] at he
      have := hoth b hb eb
      rcases hp ea with ⟨e1, e2, _⟩ | h
      · exact absurd (he.symm.trans e2) (this.2 e1)
      · omega
    · rw [q1, (x.roomy_other p (v + 1) r w' ea).1] at he
      have := hoth a ha ea
      rcases hp eb with ⟨e1, e2, _⟩ | h
      · exact absurd (he.trans e2) (this.2 e1)
      · omega
    · rw [(x.roomy_other p (v + 1) r w' ea).1, (x.roomy_other p (v + 1) r w' eb).1] at he
      exact hr.inj a b ha hb he
  · intro m c hc hcl k hf
    rcases set_get hc with ⟨rfl, rfl⟩ | ⟨e, hc⟩
    · refine ⟨rfl, ?_⟩
      rw [q1] at hf ⊢
      rcases hp hcl with ⟨e1, e2, e3⟩ | h
      · rw [e2] at hf
        have := (hr.notF l _ hl e1 k hf).2
        omega
      · have := hr.Flt _ _ hf
        omega
    · rw [(x.roomy_other p (v + 1) r w' e).1] at hf ⊢
      exact hr.notF m c hc hcl k hf
  · intro k m hf
    have := hr.Flt k m hf
    show k < w'.heap.size
    omega

/-- append's run, where its operands are known. -/
theorem run_append_room' {P : Program} {w : World} {t u ty e : TypeId} {d : TypeDesc} {i : TypeInfo} (ht : P.underlying t = some (.slice e)) (hu : P.underlying u = some d) (hd : ∀ k, d ≠ .int k) (hi : P.info? e = some i)
    {base : Option Addr} {n cap m : Nat} {x : Value} {news : List Value} (hm : (Builtin.lenOf x).run P w = .ok m w) (hf : (Builtin.firstCells i.size m x).run P w = .ok news.toArray w) (hroom : n + m ≤ cap) {w' : World}
    (hs : ∀ a, base = some a → (storeCells (a.add (n * i.size)) news).run P w = .ok () w') (hb : base = none → w' = w) :
    (Builtin.append_ #[t, u] ty #[.slice base n cap, x]).run P w = .ok (.slice base (n + m) cap) w' := by
  cases base with
  | none =>
    rw [hb rfl]
    simp [Builtin.append_, run_underlying ht, run_underlying hu, sizeOf, typeInfo, hi, hm, hroom, hf]
  | some a =>
    have hs' := hs a rfl
    simp [Builtin.append_, run_underlying ht, run_underlying hu, sizeOf, typeInfo, hi]
    cases d <;> first | simp [hm, hroom, hf, hs'] | exact absurd rfl (hd _)

theorem run_append_grow' {P : Program} {w : World} {t u ty e : TypeId} {d : TypeDesc} {i : TypeInfo} {z : Value} (ht : P.underlying t = some (.slice e)) (hu : P.underlying u = some d) (hd : ∀ k, d ≠ .int k) (hi : P.info? e = some i) (hz : i.zero = some z)
    {base : Option Addr} {n cap m : Nat} {x : Value} {olds news : List Value} (hm : (Builtin.lenOf x).run P w = .ok m w) (hf : (Builtin.firstCells i.size m x).run P w.drew = .ok news.toArray w.drew) (hfo : (Builtin.firstCells i.size n (.slice base n cap)).run P w.drew = .ok olds.toArray w.drew)
    (hg : cap < n + m) (h63 : n + m ≤ maxLen) (hbytes : (n + m) * i.bytes ≤ 140737488355328) :
    (Builtin.append_ #[t, u] ty #[.slice base n cap, x]).run P w = .ok (.slice (some ⟨w.heap.size, 0, none⟩) (n + m) (grownCap w (n + m) cap e))
        (w.drew.alloc (.cells (olds.toArray ++ news.toArray ++ Builtin.zeroCells z.cells (grownCap w (n + m) cap e - (n + m))) e)) := by
  have hn : ¬ (n + m ≤ cap) := by omega
  have h63' : ¬ (9223372036854775807 < ((n : Int) + (m : Int))) := by simp only [maxLen] at h63; omega
  have h48 := growslice_fits hg hbytes
  have h48' : ¬ (281474976710656 < Builtin.nextslicecap (n + m) cap * i.bytes) := by omega
  simp [Builtin.append_, run_underlying ht, run_underlying hu, sizeOf, typeInfo, hi]
  cases d <;> first
    | exact absurd rfl (hd _)
    | (simp [hm, hn, h63', h48', zeroValue, typeInfo, hi, hz, Question.forced, hf, hfo, newRow, grownCap]; congr 2; apply Array.ext'; simp [List.append_assoc]; done)
    | (simp [hm, hn, h63', h48', zeroValue, typeInfo, hi, hz, Question.forced, hf, hfo, newRow, grownCap])
end Go.Abs
