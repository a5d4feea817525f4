/- Loops over maps: sound. -/
import Derived.Test.YtmndnfpobhebjaaGreatAbnMap
import Derived.Maps.RangeRun
namespace Go.Abs
theorem range_sound {P : Program} {T : TT} (hT : TyOk P T) {x : Cx} {H H' : AH} (hr : Rel x H) {t : TypeId} {a v : AV} {u : Value} (ha : R x a u) (h : arange T H t a = some (v, H')) : OutV x H H' v ((Instr.range t u).run P x.w) := by
  have fin : ∀ (src : Option Nat) (since : Nat) (hs : ∀ l, src = some l → l < x.N ∧ x.ver l = 0) (hv : v = .ptr H.length 0) (hH : H' = H ++ [.iter src since [] since])
      (hrun : (Instr.range t u).run P x.w = .ok (.pointer (some ⟨x.w.heap.size, 0, none⟩)) (x.w.alloc (.mapIter (src.map fun l => (x.at_ l).1) since #[] since))), OutV x H H' v ((Instr.range t u).run P x.w) := by
    rintro src since hs rfl rfl hrun
    have h := hr.push (.mapIter (src.map fun l => (x.at_ l).1) since #[] since) (.iter src since [] since) (x.w.alloc (.mapIter (src.map fun l => (x.at_ l).1) since #[] since)) rfl rfl rfl rfl
      (fun hk => ⟨x.new_ver _ _, by rw [x.new_at], fun l hl => ⟨(hk.place (hs l hl).1 (hs l hl).2).1, (hk.place (hs l hl).1 (hs l hl).2).2.1⟩, by
        rw [x.new_at]
        show (x.w.heap.push _)[_]? = _
        simp only [Array.getElem?_push_size]
        cases src with
        | none => rfl
        | some l => simp only [Option.map_some, x.new_old _ _ (hs l rfl).1]⟩)
    exact ⟨_, _, hrun, h.1, h.2.1, h.2.2, row_ptr _ hr.N⟩
  unfold arange at h
  split at h
  · rename_i k e hd
    cases h
    have hu := (hT.ty t (by rw [hd]; rfl)).desc
    rw [hd] at hu
    simp only [DescOk] at hu
    simp only [R] at ha
    subst ha
    exact fin none 0 (by simp) rfl rfl (by simp [Instr.range, run_underlying hu])
  · rename_i k e l hd
    simp only [Option.map_eq_some_iff] at h
    obtain ⟨⟨es, bs, clock⟩, hm, h⟩ := h
    cases h
    have hl := amap_some hm
    have hu := (hT.ty t (by rw [hd]; rfl)).desc
    rw [hd] at hu
    simp only [DescOk] at hu
    simp only [R] at ha
    obtain ⟨hN, hv0, rfl⟩ := ha
    obtain ⟨_, c, h1, _⟩ := hr.block l _ hl
    exact fin (some l) clock (by intro l' e; cases e; exact ⟨hN, hv0⟩) rfl rfl (by simp [Instr.range, run_underlying hu, getMap_run h1])
  · cases h

theorem aleft_some {H : AH} {p : Nat} {L : List (AV × AV × Nat)} {l since clock : Nat} {seen : List Nat} (h : aleft H p = some (L, some (l, since, seen, clock))) :
    ∃ es bs last, H[p]? = some (.iter (some l) since seen last) ∧ amap H l = some (es, bs, clock) ∧ (∀ b ∈ bs, b < since) ∧ since ≤ last ∧ es.length = bs.length ∧ L = ((es.zip bs).filter fun e => !seen.contains e.2).map fun e => (e.1.1, e.1.2, e.2) := by
  unfold aleft at h
  split at h
  · cases h
  · rename_i l' since' seen' last hp
    split at h
    · rename_i es bs clock' hm
      split at h
      · rename_i hc
        simp only [Bool.and_eq_true, List.all_eq_true, decide_eq_true_eq, beq_iff_eq] at hc
        cases h
        exact ⟨es, bs, last, hp, hm, hc.1.1, hc.1.2, hc.2, rfl⟩
      · cases h
    · cases h
  · cases h
theorem aleft_none {H : AH} {p : Nat} {L : List (AV × AV × Nat)} (h : aleft H p = some (L, none)) : ∃ since seen last, H[p]? = some (.iter none since seen last) ∧ L = [] := by
  unfold aleft at h
  split at h
  · rename_i s hp
    cases h
    exact ⟨_, _, _, hp, rfl⟩
  · split at h
    · split at h
      · cases h
      · cases h
    · cases h
  · cases h

/-- A step: nothing is left, or one of those that are. -/
theorem next_sound {P : Program} {x : Cx} {H : AH} (hr : Rel x H) {p : Nat} {u : Value} (ha : R x (.ptr p 0) u) {L : List (AV × AV × Nat)} {info : Option (Nat × Nat × List Nat × Nat)} (h : aleft H p = some (L, info)) (ty : TypeId) :
    (L = [] ∧ ∃ v, (Instr.next u false ty).run P x.w = .ok v x.w ∧ R x (.tup [.bool false]) v) ∨
    ∃ e l since seen clock, e ∈ L ∧ info = some (l, since, seen, clock) ∧ OutV x H (H.set p (.iter (some l) since (seen ++ [e.2.2]) clock)) (.tup [.bool true, e.1, e.2.1]) ((Instr.next u false ty).run P x.w) := by
  simp only [R] at ha
  obtain ⟨hN, hv0, rfl⟩ := ha
  cases info with
  | none =>
    obtain ⟨since, seen, last, hp, rfl⟩ := aleft_none h
    obtain ⟨_, h0, _, hb⟩ := hr.block p _ hp
    refine .inl ⟨rfl, .tuple #[.bool false], ?_, by simp only [R]; exact ⟨_, rfl, _, _, rfl, by simp [R], rfl⟩⟩
    rw [h0]
    simp only [Option.map_none] at hb
    simp [Instr.next, getObj, Sem.run, hb, Result.andThen]
  | some info =>
    obtain ⟨l, since, seen, clock⟩ := info
    obtain ⟨es, bs, last, hp, hm, hbs, hsl, hlen, rfl⟩ := aleft_some h
    obtain ⟨hvp, h0, hlN, hb⟩ := hr.block p _ hp
    simp only [Option.map_some] at hb
    obtain ⟨_, c, hc, hk, hv, hborn⟩ := hr.block l _ (amap_some hm)
    rw [h0]
    have hold : ∀ e ∈ c.toList, e.born < since := fun e he => hbs _ (by rw [← hborn]; exact List.mem_map.2 ⟨e, he, rfl⟩)
    have hlc : c.toList.length = es.length := by have := hk.length; simpa using this
    rcases run_next_at (P := P) x.w ty (x.at_ p).1 (x.at_ l).1 since last seen.toArray c clock hb hc hold hsl with ⟨hz, hrun⟩ | ⟨e, he, w1, hw1, hrun⟩
    · left
      refine ⟨?_, .tuple #[.bool false], hrun, by simp only [R]; exact ⟨_, rfl, _, _, rfl, by simp [R], rfl⟩⟩
      rw [List.map_eq_nil_iff, List.filter_eq_nil_iff]
      rintro ⟨e1, b⟩ hm1 hnb
      obtain ⟨i, hi⟩ := List.getElem?_of_mem hm1
      rw [List.getElem?_zip_eq_some] at hi
      have hib : (c.toList.map (·.born))[i]? = some b := by rw [hborn]; exact hi.2
      rw [List.getElem?_map, Option.map_eq_some_iff] at hib
      obtain ⟨e', he', hbe⟩ := hib
      have hmem : e' ∈ leftOf c seen.toArray := by
        unfold leftOf
        rw [Array.mem_filter]
        refine ⟨by simpa using List.mem_of_getElem? he', ?_⟩
        rw [hbe]
        simpa using hnb
      have := Array.size_pos_of_mem hmem
      omega
    · right
      have hmem : e ∈ c ∧ (!seen.toArray.contains e.born) = true := by
        have : e ∈ leftOf c seen.toArray := by simpa using he
        unfold leftOf at this
        exact Array.mem_filter.1 this
      obtain ⟨i, hi⟩ := List.getElem?_of_mem (show e ∈ c.toList by simpa using hmem.1)
      have hilt : i < es.length := by have := (List.getElem?_eq_some_iff.1 hi).1; omega
      have hie : es[i]? = some es[i] := List.getElem?_eq_getElem hilt
      have hib : bs[i]? = some e.born := by rw [← hborn, List.getElem?_map, hi]; rfl
      obtain ⟨kv, hkv, hkr⟩ := hk.get (i := i) (a := es[i].1) (by rw [List.getElem?_map, hie]; rfl)
      obtain ⟨vv, hvv, hvr⟩ := hv.get (i := i) (a := es[i].2) (by rw [List.getElem?_map, hie]; rfl)
      rw [List.getElem?_map, hi] at hkv hvv
      cases hkv
      cases hvv
      have hheap : w1.heap = x.w.heap ∧ w1.os = x.w.os ∧ w1.tape = x.w.tape ∧ w1.output = x.w.output := by rcases hw1 with rfl | rfl <;> exact ⟨rfl, rfl, rfl, rfl⟩
      have hlive : Live H p := ⟨_, hp, rfl⟩
      have hlt := Own.lt hr ⟨p, hlive, rfl⟩
      let w' := Go.ChangeMaps.setBlock w1 (x.at_ p).1 (.mapIter (some (x.at_ l).1) since (seen.toArray.push e.born) clock)
      have hwh : w'.heap = x.w.heap.setIfInBounds (x.at_ p).1 (.mapIter (some (x.at_ l).1) since (seen.toArray.push e.born) clock) := by
        show w1.heap.setIfInBounds _ _ = _
        rw [hheap.1]
      have hup := hr.update (.iter (some l) since (seen ++ [e.born]) clock) hp rfl rfl rfl rfl w' (by rw [hwh]; simp) (fun k hk => by rw [hwh]; exact Array.getElem?_setIfInBounds_ne (Ne.symm hk))
        (fun s hs => by unfold bsz at hs; rw [hb] at hs; cases hs) hheap.2.1 hheap.2.2.1 hheap.2.2.2 (fun _ => ⟨hvp, h0, hlN, by
          show w'.heap[_]? = _
          rw [hwh, Array.getElem?_setIfInBounds_self_of_lt hlt]
          simp⟩)
      refine ⟨(es[i].1, es[i].2, e.born), l, since, seen, clock, ?_, rfl, _, _, hrun, hup.1, hup.2.1, hup.2.2, ?_⟩
      · rw [List.mem_map]
        refine ⟨(es[i], e.born), ?_, rfl⟩
        rw [List.mem_filter]
        refine ⟨List.mem_of_getElem? (i := i) (by rw [List.getElem?_zip_eq_some]; exact ⟨hie, hib⟩), ?_⟩
        simpa using hmem.2
      · simp only [R]
        exact ⟨_, rfl, _, _, rfl, by simp [R], _, _, rfl, R.keeps hup.2.2 _ _ hkr, _, _, rfl, R.keeps hup.2.2 _ _ hvr, rfl⟩
theorem entry_sound {P : Program} {x : Cx} {H : AH} (hr : Rel x H) {a v : AV} {u : Value} (ha : R x a u) (h : aentry H a = some v) : ∃ q, (Instr.entry u).run P x.w = .ok q x.w ∧ R x v q := by
  unfold aentry at h
  split at h
  · rename_i p
    simp only [R] at ha
    obtain ⟨hN, hv0, rfl⟩ := ha
    split at h
    · rename_i l since seen stepped hp
      split at h
      · rename_i es bs clock s hm hs
        split at h
        · rename_i hcl
          simp only [Option.map_eq_some_iff] at h
          obtain ⟨⟨e1, b⟩, hf, rfl⟩ := h
          obtain ⟨hvp, h0, hlN, hb⟩ := hr.block p _ hp
          simp only [Option.map_some] at hb
          obtain ⟨_, c, hc, hk, hv, hborn⟩ := hr.block l _ (amap_some hm)
          rw [h0]
          have hback : seen.toArray.back? = some s := by rw [← hs]; simp
          -- the first entry of that stamp
          have key : ∀ (es : List (AV × AV)) (bs : List Nat) (c : List MapEntry), RL x (es.map (·.1)) (c.map (·.key)) → RL x (es.map (·.2)) (c.map (·.val)) → c.map (·.born) = bs →
              (es.zip bs).find? (fun e => e.2 == s) = some (e1, b) → ∃ e', c.find? (fun e => e.born == s) = some e' ∧ R x e1.1 e'.key ∧ R x e1.2 e'.val := by
            intro es
            induction es with
            | nil => intro bs c _ _ _ hf; simp at hf
            | cons a es ih =>
              intro bs c hk hv hborn hf
              cases c with
              | nil => simp only [List.map_nil] at hborn; subst hborn; simp at hf
              | cons e' c =>
                subst hborn
                simp only [List.map_cons, RL] at hk hv
                obtain ⟨_, _, e1', k1, k2⟩ := hk
                cases e1'
                obtain ⟨_, _, e2', v1, v2⟩ := hv
                cases e2'
                simp only [List.map_cons, List.zip_cons_cons, List.find?_cons] at hf ⊢
                cases hq : e'.born == s with
                | true =>
                  rw [hq] at hf
                  cases hf
                  exact ⟨e', rfl, k1, v1⟩
                | false =>
                  rw [hq] at hf
                  exact ih _ c k2 v2 rfl hf
          obtain ⟨e', hf', hr1, hr2⟩ := key es bs c.toList hk hv hborn hf
          have hfc : c.find? (fun e => e.born == s) = some e' := by rw [← Array.find?_toList]; exact hf'
          refine ⟨.tuple #[e'.key, e'.val], ?_, ?_⟩
          · simp [Instr.entry, getObj, Sem.run, hb, hc, Result.andThen, hback, hcl.1, hfc]
          · simp only [R]
            exact ⟨_, rfl, _, _, rfl, hr1, _, _, rfl, hr2, rfl⟩
        · cases h
      · cases h
    · cases h
  · cases h
end Go.Abs
