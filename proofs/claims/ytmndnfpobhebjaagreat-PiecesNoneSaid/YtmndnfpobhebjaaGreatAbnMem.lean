/- Operations that make blocks or write into them. -/
import Derived.Test.YtmndnfpobhebjaaGreatAbnSlice
namespace Go.Abs

theorem acell_sound {x : Cx} {a : AV} {u : Value} {cs : List AV} (ha : R x a u) (h : acell a = some cs) : RL x cs u.cells.toList ∧ ∀ c ∈ cs, c.isCell = true := by
  unfold acell at h
  split at h
  · cases h
    simp only [R] at ha
    obtain ⟨hc, vs, rfl, hl⟩ := ha
    exact ⟨by simpa [Value.cells] using hl, hc⟩
  · cases h
  · cases h
  · rename_i h1 h2 h3
    cases h
    have hc : a.isCell = true := by
      cases a <;> first | rfl | exact (h1 _ rfl).elim | exact (h2 _ rfl).elim | exact (h3 rfl).elim
    have ho := R.oneCell ha hc
    have : u.cells = #[u] := by cases u <;> first | rfl | (simp [Value.oneCell'] at ho)
    rw [this]
    exact ⟨⟨u, [], rfl, ha, rfl⟩, by simpa using hc⟩

theorem RL.oneCell {x : Cx} {as : List AV} {vs : List Value} (h : RL x as vs) (hc : ∀ a ∈ as, a.isCell = true) : ∀ v ∈ vs, v.oneCell' = true := fun v hv => by
  obtain ⟨a, ha, hr⟩ := h.mem hv
  exact R.oneCell hr (hc a ha)

/-- A new row of cells. -/
theorem Rel.row {x : Cx} {H : AH} (hr : Rel x H) {cs : List AV} {vs : List Value} (hl : RL x cs vs) (hc : ∀ a ∈ cs, a.isCell = true) (c : Array Value) (t : TypeId) (fz : Nat × Nat) (hfz : ∀ i, i < c.size → ¬ (fz.1 ≤ i ∧ i < fz.2))
    (hcv : ∀ (i : Nat) (u : Value), vs[i]? = some u → c[i]? = some u) (hsz : cs.length ≤ c.size) (w' : World) (hw : w'.heap = x.w.heap.push (.cells c t fz)) (hos : w'.os = x.w.os) (htp : w'.tape = x.w.tape) (hout : w'.output = x.w.output) :
    Mv x.N x H (x.new (x.w.heap.size, 0) w') (H ++ [.cells cs]) ∧ Rel (x.new (x.w.heap.size, 0) w') (H ++ [.cells cs]) ∧ Keeps x (x.new (x.w.heap.size, 0) w') := by
  refine hr.push _ _ w' hw hos htp hout (fun hk => ?_)
  refine ⟨x.new_ver _ _, c, t, fz, vs, ?_, hfz, RL.keeps hk _ _ hl, ?_, fun i u hu => ?_, hc⟩ <;> rw [x.new_at]
  · show w'.heap[x.w.heap.size]? = _
    rw [hw]
    simp
  · simpa using hsz
  · simpa using hcv i u hu

theorem row_ptr {x : Cx} (w' : World) {H : AH} (hN : x.N = H.length) : R (x.new (x.w.heap.size, 0) w') (.ptr H.length 0) (.pointer (some ⟨x.w.heap.size, 0, none⟩)) := by
  simp only [R]
  rw [← hN, x.new_at]
  exact ⟨Nat.lt_succ_self _, x.new_ver _ _, rfl⟩

theorem row_ref {x : Cx} {w' : World} {H : AH} (hN : x.N = H.length) {ex : Bool} {len cap sz : Nat} {c : Array Value} {t : TypeId} {fz : Nat × Nat} (hw : w'.heap = x.w.heap.push (.cells c t fz)) (h1 : len ≤ cap) (h2 : cap ≤ maxLen) (h3 : ex = true → cap = len) (h4 : cap * sz ≤ c.size) :
    R (x.new (x.w.heap.size, 0) w') (.ref ex H.length 0 len sz) (.slice (some ⟨x.w.heap.size, 0, none⟩) len cap) := by
  simp only [R]
  rw [← hN, x.new_at]
  refine ⟨Nat.lt_succ_self _, x.new_ver _ _, cap, c.size, 0, rfl, fun _ => rfl, h1, h2, h3, bsz_of (t := t) (fz := fz) ?_, by simpa using h4⟩
  show w'.heap[x.w.heap.size]? = _
  rw [hw]
  simp

/-- Cells written into a live row. -/
theorem write_sound {x : Cx} {H H' : AH} (hr : Rel x H) {l off : Nat} {cs : List AV} {vs : List Value} (hl : RL x cs vs) (hc : ∀ a ∈ cs, a.isCell = true) (h : awrite H l off cs = some H') (P : Program) :
    ∃ w', (storeCells ⟨(x.at_ l).1, (x.at_ l).2 + off, none⟩ vs).run P x.w = .ok () w' ∧ Mv x.N x H { x with w := w' } H' ∧ Rel { x with w := w' } H' ∧ Keeps x { x with w := w' } := by
  unfold awrite at h
  split at h
  · rename_i old hb
    split at h
    · rename_i hle
      cases h
      obtain ⟨hv0, c, t, fz, us, h1, h2, h3, h4, h5, h6⟩ := hr.block l _ hb
      have hvl := hl.length
      have hcell : ∀ j, j < vs.length → (x.w.cell? ⟨(x.at_ l).1, (x.at_ l).2 + off + 0 + j, none⟩).isSome = true := fun j hj => by
        rw [cell_of_row _ _ _ _ _ _ h1, Array.getElem?_eq_getElem (by omega)]
        rfl
      have hfr : ∀ j, j < vs.length → x.w.frozen? ⟨(x.at_ l).1, (x.at_ l).2 + off + 0 + j, none⟩ = false := fun j hj => by
        have := h2 ((x.at_ l).2 + off + j) (by omega)
        simp only [World.frozen?, h1]
        simpa using this
      have hst := run_storeCells_cells (P := P) (x.at_ l).1 ((x.at_ l).2 + off) vs 0 x.w hcell hfr (hl.oneCell hc)
      obtain ⟨c', g1, g2, g3, g4, g5⟩ := heap_setCells_same (x.at_ l).1 vs ((x.at_ l).2 + off + 0) x.w c t fz h1
      obtain ⟨o1, o2, o3, o4⟩ := setCells_os (x.at_ l).1 vs ((x.at_ l).2 + off + 0) x.w
      refine ⟨_, hst, ?_⟩
      refine hr.update _ hb rfl rfl rfl rfl _ o4 (fun k hk => heap_setCells_other _ _ _ _ _ hk) (fun s hs => ?_) o1 o2 o3 (fun hk => ?_)
      · rw [bsz_of h1] at hs
        rw [bsz_of g1, g2]
        exact hs
      · refine ⟨hv0, c', t, fz, us.take off ++ vs ++ us.drop (off + vs.length), g1, fun i hi => h2 i (by omega), RL.keeps hk _ _ (h3.splice hl off), by rw [splice_length hle, g2]; exact h4, fun i u hu => ?_, splice_cells h6 hc⟩
        show c'[(x.at_ l).2 + i]? = some u
        have hul := h3.length
        rw [List.append_assoc, List.getElem?_append] at hu
        have ht : (us.take off).length = off := by simp; omega
        split at hu
        · rename_i hlt
          rw [ht] at hlt
          rw [List.getElem?_take, if_pos hlt] at hu
          rw [g3 _ (by omega)]
          exact h5 i u hu
        · rename_i hge
          rw [ht] at hu hge
          rw [List.getElem?_append] at hu
          split at hu
          · rename_i hlt
            have := g5 _ u hu (by omega)
            rw [show (x.at_ l).2 + i = (x.at_ l).2 + off + 0 + (i - off) by omega]
            exact this
          · rename_i hge2
            rw [List.getElem?_drop] at hu
            rw [g4 _ (by omega)]
            have := h5 _ u hu
            rw [show off + vs.length + (i - off - vs.length) = i by omega] at this
            exact this
    · cases h
  · cases h

section
variable {P : Program} {T : TT} (hT : TyOk P T)
include hT

theorem astore_sound {x : Cx} {H H' : AH} (hr : Rel x H) {t : TypeId} {p v : AV} {pu vu : Value} (hp : R x p pu) (hv : R x v vu) (h : astore T H t p v = some H') :
    ∃ w', (Instr.storeAt t pu vu).run P x.w = .ok () w' ∧ Mv x.N x H { x with w := w' } H' ∧ Rel { x with w := w' } H' ∧ Keeps x { x with w := w' } := by
  unfold astore at h
  split at h
  · rename_i p v l off vs hcv
    split at h
    · rename_i hc
      obtain ⟨hk, hlen⟩ := hc
      obtain ⟨hl, hcc⟩ := acell_sound hv hcv
      simp only [R] at hp
      obtain ⟨_, _, rfl⟩ := hp
      obtain ⟨w', h1, h2⟩ := write_sound hr hl hcc h P
      refine ⟨w', ?_, h2⟩
      have hsz : vu.cells.size = (T t).size := by rw [← hlen, ← hl.length]; simp
      simp [Instr.storeAt, Instr.sureAddr, storeVar, TyOk.size hT hk, hsz, h1]
    · cases h
  · cases h

omit hT in
theorem box_sound {x : Cx} {H : AH} (hr : Rel x H) {t : TypeId} {v : AV} {vu : Value} (hv : R x v vu) {cs : List AV} (h : acell v = some cs) :
    ∃ w', (Instr.box t vu).run P x.w = .ok (.pointer (some ⟨x.w.heap.size, 0, none⟩)) w' ∧ Mv x.N x H (x.new (x.w.heap.size, 0) w') (H ++ [.cells cs]) ∧ Rel (x.new (x.w.heap.size, 0) w') (H ++ [.cells cs]) ∧ Keeps x (x.new (x.w.heap.size, 0) w') := by
  obtain ⟨hl, hc⟩ := acell_sound hv h
  refine ⟨x.w.alloc (.cells vu.cells t), by simp [Instr.box, newVar, newRow], ?_⟩
  refine hr.row hl hc vu.cells t (0, 0) (by simp) (fun i u hu => by simpa using hu) (by rw [← hl.length]; simp) _ rfl rfl rfl rfl

theorem alloc_sound {x : Cx} {H : AH} (hr : Rel x H) {t : TypeId} (hk : (T t).d.known = true) :
    ∃ w', (Instr.alloc t true (.tuple #[])).run P x.w = .ok (.pointer (some ⟨x.w.heap.size, 0, none⟩)) w' ∧ Mv x.N x H (x.new (x.w.heap.size, 0) w') (H ++ [.cells (T t).zero]) ∧ Rel (x.new (x.w.heap.size, 0) w') (H ++ [.cells (T t).zero]) ∧ Keeps x (x.new (x.w.heap.size, 0) w') := by
  obtain ⟨z, hz, hl⟩ := TyOk.zero hT hk x.w
  refine ⟨x.w.alloc (.cells z.cells t), by simp [Instr.alloc, hz, newVar, newRow], ?_⟩
  refine hr.row (hl x).1 (hl x).2 z.cells t (0, 0) (by simp) (fun i u hu => by simpa using hu) (by rw [← (hl x).1.length]; simp) _ rfl rfl rfl rfl
end

/-! ### rows of zeros, filled -/
theorem flat_get {α : Type} (l : List α) : ∀ (n i : Nat), (List.replicate n l).flatten[i]? = if i < n * l.length then l[i % l.length]? else none
  | 0, i => by simp
  | n + 1, i => by
    rw [List.replicate_succ, List.flatten_cons, List.getElem?_append]
    split
    · rename_i h
      rw [Nat.mod_eq_of_lt h, if_pos (by rw [Nat.add_mul]; omega)]
    · rename_i h
      rw [flat_get l n]
      have hp : i - l.length < n * l.length ↔ i < (n + 1) * l.length := by rw [Nat.add_mul]; omega
      have hmod : i % l.length = (i - l.length) % l.length := Nat.mod_eq_sub_mod (by omega)
      by_cases h2 : i < (n + 1) * l.length
      · rw [if_pos (hp.2 h2), if_pos h2, hmod]
      · rw [if_neg (fun h' => h2 (hp.1 h')), if_neg h2]

theorem zeros_row {x : Cx} {zs : List AV} {z : Array Value} (hl : RL x zs z.toList) (n : Nat) : RL x (List.replicate n zs).flatten ((Array.range (n * z.size)).map (z[· % z.size]!)).toList := by
  refine RL.of_get ?_ (fun i a v ha hv => ?_)
  · have := hl.length
    simp at this ⊢
    rw [this]
  · have hsz : z.size = zs.length := by have := hl.length; simpa using this
    rw [flat_get] at ha
    split at ha
    · rename_i hlt
      obtain ⟨u, hu, hr⟩ := hl.get ha
      have : v = u := by
        simp only [Array.toList_map, List.getElem?_map, Option.map_eq_some_iff] at hv
        obtain ⟨j, hj, rfl⟩ := hv
        rw [Array.getElem?_toList, Array.getElem?_range] at hj
        split at hj
        · cases hj
          rw [Array.getElem?_toList] at hu
          rw [hsz, getElem!_def, hu]
        · cases hj
      subst this
      exact hr
    · cases ha

theorem foldl_set (off : Nat) : ∀ (us : List Value) (k : Nat) (cells : Array Value), off + k + us.length ≤ cells.size →
    ((us.zipIdx k).foldl (fun cs (p : Value × Nat) => cs.setIfInBounds (off + p.2) p.1) cells).toList = cells.toList.take (off + k) ++ us ++ cells.toList.drop (off + k + us.length)
  | [], k, cells, h => by simp
  | u :: us, k, cells, h => by
    simp only [List.zipIdx_cons, List.foldl_cons]
    rw [foldl_set off us (k + 1) _ (by simp at h ⊢; omega)]
    simp at h
    have hp : off + k < cells.toList.length := by simp; omega
    have hA : (cells.toList.take (off + k)).length = off + k := by simp; omega
    rw [Array.toList_setIfInBounds, List.set_eq_take_append_cons_drop, if_pos hp]
    generalize hAA : cells.toList.take (off + k) = A at hA
    have h1 : (A ++ u :: cells.toList.drop (off + k + 1)).take (off + (k + 1)) = A ++ [u] := by
      rw [show off + (k + 1) = A.length + 1 by omega, List.take_length_add_append]
      simp
    have h2 : (A ++ u :: cells.toList.drop (off + k + 1)).drop (off + (k + 1) + us.length) = cells.toList.drop (off + k + (us.length + 1)) := by
      rw [show off + (k + 1) + us.length = A.length + (us.length + 1) by omega, List.drop_length_add_append]
      simp only [List.drop_succ_cons, List.drop_drop]
      congr 1
      omega
    rw [h1, h2]
    simp

theorem fill_sound {x : Cx} {pl : Nat → Option (Nat × Nat)} : ∀ (ps : List (Nat × AV)) (qs : List (Nat × Value)) (cs : List AV) (c : Array Value) (r : List AV), RL x cs c.toList → (∀ a ∈ cs, a.isCell = true) →
    ps.length = qs.length → (∀ (j : Nat) (p : Nat × AV) (q : Nat × Value), ps[j]? = some p → qs[j]? = some q → p.1 = q.1 ∧ R x p.2 q.2) → afill pl cs ps = some r → ∃ c', Instr.fill pl c qs = some c' ∧ RL x r c'.toList ∧ ∀ a ∈ r, a.isCell = true
  | [], [], cs, c, r, hl, hc, _, _, h => by
    simp only [afill, Option.some.injEq] at h
    subst h
    exact ⟨c, rfl, hl, hc⟩
  | [], _ :: _, _, _, _, _, _, hn, _, _ => by simp at hn
  | _ :: _, [], _, _, _, _, _, hn, _, _ => by simp at hn
  | (i, v) :: ps, (i', u) :: qs, cs, c, r, hl, hc, hn, hq, h => by
    obtain ⟨rfl, hr⟩ : i = i' ∧ R x v u := hq 0 (i, v) (i', u) rfl rfl
    simp only [afill] at h
    split at h
    · rename_i off size vs h1 h2
      split at h
      · rename_i hb
        obtain ⟨hvl, hvc⟩ := acell_sound hr h2
        have hcl : c.size = cs.length := by have := hl.length; simpa using this
        have hul : u.cells.size = vs.length := by have := hvl.length; simpa using this
        have hfold := foldl_set off u.cells.toList 0 c (by simp; omega)
        simp only [Nat.add_zero] at hfold
        have hfold' : (u.cells.zipIdx.foldl (fun cs (p : Value × Nat) => cs.setIfInBounds (off + p.2) p.1) c).toList = c.toList.take off ++ u.cells.toList ++ c.toList.drop (off + u.cells.toList.length) := by
          rw [← hfold, ← Array.foldl_toList, Array.toList_zipIdx]
        obtain ⟨c', g1, g2, g3⟩ := fill_sound ps qs (splice cs off vs) (u.cells.zipIdx.foldl (fun cs (p : Value × Nat) => cs.setIfInBounds (off + p.2) p.1) c) r
          (by rw [hfold']; exact hl.splice hvl off) (splice_cells hc hvc) (by simpa using hn) (fun j p q hp hq' => hq (j + 1) p q (by simpa using hp) (by simpa using hq')) h
        refine ⟨c', ?_, g2, g3⟩
        simp only [Instr.fill, h1]
        have : (u.cells.size ≠ size || off + u.cells.size > c.size) = false := by simp; omega
        rw [if_neg (by rw [this]; simp)]
        exact g1
      · cases h
    · cases h
end Go.Abs
