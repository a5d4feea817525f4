/- append, copy, make, literals of slices, bytes of strings. -/
import Derived.Test.YtbdomlbmbcnaeaaAbsMem
import Derived.Laws.AppendOwn
namespace Go.Abs

/-- A live row goes on under a new number, in its own block of the world. -/
theorem Rel.reuse {x : Cx} {H : AH} (hr : Rel x H) {l : Nat} {b0 : AB} (hl : H[l]? = some b0) (hb0 : b0.live = true) (p : Nat × Nat) (hp : p.1 = (x.at_ l).1) (b : AB) (w' : World)
    (hs : w'.heap.size = x.w.heap.size) (ho : ∀ k, k ≠ (x.at_ l).1 → w'.heap[k]? = x.w.heap[k]?) (hsz : ∀ s, bsz x.w (x.at_ l).1 = some s → bsz w' (x.at_ l).1 = some s)
    (hos : w'.os = x.w.os) (htp : w'.tape = x.w.tape) (hout : w'.output = x.w.output) (hb : HoldsB (x.new p w') p b) :
    Mv x.N x H (x.new p w') (H.set l .dead ++ [b]) ∧ Rel (x.new p w') (H.set l .dead ++ [b]) ∧ Keeps x (x.new p w') := by
  have hlive : Live H l := ⟨_, hl, hb0⟩
  have hsz' : ∀ k s, bsz x.w k = some s → bsz w' k = some s := fun k s h => by
    by_cases e : k = (x.at_ l).1
    · subst e; exact hsz s h
    · unfold bsz at *
      rw [ho k e]
      exact h
  have hk : Keeps x (x.new p w') := ⟨fun l hl => x.new_old _ _ hl, Nat.le_succ _, fun _ h => h, fun k hf => ho k (fun e => hr.notF l hlive (e ▸ hf)), hsz'⟩
  have hlen : (H.set l .dead).length = H.length := by simp
  have hold : ∀ m, Live (H.set l .dead) m → (x.new p w').at_ m = x.at_ m ∧ Live H m ∧ m ≠ l := fun m hm => by
    have := hm.lt
    exact ⟨x.new_old _ _ (by rw [hr.N]; omega), hm.dead.1, hm.dead.2⟩
  have hnew : (x.new p w').at_ (H.set l .dead).length = p := by rw [hlen, ← hr.N, x.new_at]
  refine ⟨⟨fun l hl => x.new_old _ _ hl, Nat.le_refl _, Nat.le_succ _, fun _ h => h, hsz', by show _ ≤ w'.heap.size; omega, hos, htp, hout, fun k _ hn => ho k (fun e => hn ⟨l, hlive, e.symm⟩), ?_, fun _ h => .inl h⟩, ⟨?_, ?_, ?_, ?_, ?_⟩, hk⟩
  · rintro k ⟨m, hm, rfl⟩
    rcases hm.app with h' | ⟨rfl, h'⟩
    · rw [(hold m h').1]
      exact .inl ⟨m, (hold m h').2.1, rfl⟩
    · rw [hnew, hp]
      exact .inl ⟨l, hlive, rfl⟩
  · show x.N + 1 = _
    rw [hr.N]; simp
  · intro m c hc
    rcases Nat.lt_trichotomy m (H.set l .dead).length with h' | h' | h'
    · rw [getElem?_app_lt h'] at hc
      rw [x.new_old _ _ (by rw [hr.N]; omega)]
      by_cases e : l = m
      · subst e
        rw [List.getElem?_set] at hc
        simp at hc
        rw [← hc.2]
        trivial
      · rw [List.getElem?_set_ne e] at hc
        cases c with
        | dead => trivial
        | cells cs => exact HoldsB.keeps hk (ho _ (fun e' => e (hr.inj l m hlive ⟨_, hc, rfl⟩ e'.symm))) (hr.block m _ hc)
        | map es => exact HoldsB.keeps hk (ho _ (fun e' => e (hr.inj l m hlive ⟨_, hc, rfl⟩ e'.symm))) (hr.block m _ hc)
    · subst h'
      have hcb : c = b := by simpa using hc.symm
      subst hcb
      rw [hnew]
      exact hb
    · rw [List.getElem?_eq_none (by simp at h' ⊢; omega)] at hc
      cases hc
  · intro a c ha hc he
    rcases ha.app with h1 | ⟨rfl, h1⟩ <;> rcases hc.app with h2 | ⟨rfl, h2⟩
    · rw [(hold a h1).1, (hold c h2).1] at he
      exact hr.inj a c (hold a h1).2.1 (hold c h2).2.1 he
    · rw [(hold a h1).1, hnew, hp] at he
      exact absurd (hr.inj a l (hold a h1).2.1 hlive he) (hold a h1).2.2
    · rw [(hold c h2).1, hnew, hp] at he
      exact absurd (hr.inj c l (hold c h2).2.1 hlive he.symm) (hold c h2).2.2
    · rfl
  · intro m hm hf
    rcases hm.app with h1 | ⟨rfl, h1⟩
    · rw [(hold m h1).1] at hf
      exact hr.notF m (hold m h1).2.1 hf
    · rw [hnew, hp] at hf
      exact hr.notF l hlive hf
  · intro k hf
    show k < w'.heap.size
    rw [hs]
    exact hr.Flt k hf

/-- append's run, where its operands are known. -/
theorem run_append_room' {P : Program} {w : World} {t u ty e : TypeId} {d : TypeDesc} {i : TypeInfo} (ht : P.underlying t = some (.slice e)) (hu : P.underlying u = some d) (hd : ∀ k, d ≠ .int k) (hi : P.info? e = some i)
    {base : Option Addr} {n cap m : Nat} {x : Value} {news : List Value} (hm : (Builtin.lenOf x).run P w = .ok m w) (hf : (Builtin.firstCells i.size m x).run P w = .ok news.toArray w) (hroom : n + m ≤ cap) {w' : World}
    (hs : ∀ a, base = some a → (storeCells (a.add (n * i.size)) news).run P w = .ok () w') (hb : base = none → w' = w) :
    (Builtin.append_ #[t, u] ty #[.slice base n cap, x]).run P w = .ok (.slice base (n + m) cap) w' := by
  cases base with
  | none =>
    rw [hb rfl]
    simp [Builtin.append_, run_underlying ht, run_underlying hu, sizeOf, typeInfo, hi, hm, hroom, hf]
  | some a =>
    have hs' := hs a rfl
    simp [Builtin.append_, run_underlying ht, run_underlying hu, sizeOf, typeInfo, hi]
    cases d <;> first | simp [hm, hroom, hf, hs'] | exact absurd rfl (hd _)

theorem run_append_grow' {P : Program} {w : World} {t u ty e : TypeId} {d : TypeDesc} {i : TypeInfo} {z : Value} (ht : P.underlying t = some (.slice e)) (hu : P.underlying u = some d) (hd : ∀ k, d ≠ .int k) (hi : P.info? e = some i) (hz : i.zero = some z)
    {base : Option Addr} {n cap m : Nat} {x : Value} {olds news : List Value} (hm : (Builtin.lenOf x).run P w = .ok m w) (hf : (Builtin.firstCells i.size m x).run P w.drew = .ok news.toArray w.drew) (hfo : (Builtin.firstCells i.size n (.slice base n cap)).run P w.drew = .ok olds.toArray w.drew)
    (hg : cap < n + m) (h63 : n + m ≤ maxLen) (hbytes : (n + m) * i.bytes ≤ 140737488355328) :
    (Builtin.append_ #[t, u] ty #[.slice base n cap, x]).run P w = .ok (.slice (some ⟨w.heap.size, 0, none⟩) (n + m) (grownCap w (n + m) cap e))
        (w.drew.alloc (.cells (olds.toArray ++ news.toArray ++ Builtin.zeroCells z.cells (grownCap w (n + m) cap e - (n + m))) e)) := by
  have hn : ¬ (n + m ≤ cap) := by omega
  have h63' : ¬ (9223372036854775807 < ((n : Int) + (m : Int))) := by simp only [maxLen] at h63; omega
  have h48 := growslice_fits hg hbytes
  have h48' : ¬ (281474976710656 < Builtin.nextslicecap (n + m) cap * i.bytes) := by omega
  simp [Builtin.append_, run_underlying ht, run_underlying hu, sizeOf, typeInfo, hi]
  cases d <;> first
    | exact absurd rfl (hd _)
    | (simp [hm, hn, h63', h48', zeroValue, typeInfo, hi, hz, Question.forced, hf, hfo, newRow, grownCap]; congr 2; apply Array.ext'; simp [List.append_assoc]; done)
    | (simp [hm, hn, h63', h48', zeroValue, typeInfo, hi, hz, Question.forced, hf, hfo, newRow, grownCap])
end Go.Abs
