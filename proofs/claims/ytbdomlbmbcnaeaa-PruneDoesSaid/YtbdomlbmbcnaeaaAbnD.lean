/- The library's slices.SortFunc over rows of plain cells, by the kit's own contract. -/
import Derived.Test.YtbdomlbmbcnaeaaAbnC
import Derived.Shelf.SlSortCmp.NoneTotal
import Derived.Shelf.SlSortCmp.WholeK
namespace Go.Abs
open Go.Shelf Go.RowKit Go.Lib Go.Sort Go.Proofs
/-- What a plain cell stands for. -/
def cellV : AV → Value
  | .bool b => .bool b
  | .int k n => .int k n
  | .str s => .string ⟨s.toArray⟩
  | _ => .tuple #[]
theorem cellV_spec {x : Cx} {a : AV} {v : Value} (h : flatv a = true) : R x a v ↔ v = cellV a := by
  cases a <;> first | (cases h; done) | rfl
theorem cellVs_spec {x : Cx} : ∀ {bs : List AV} {vs : List Value}, bs.all flatv = true → (RL x bs vs ↔ vs = bs.map cellV)
  | [], vs, _ => by simp [RL]
  | a :: bs, vs, h => by
    simp only [List.all_cons, Bool.and_eq_true] at h
    simp only [RL, List.map_cons]
    constructor
    · rintro ⟨v, r, rfl, h1, h2⟩
      rw [(cellV_spec h.1).1 h1, (cellVs_spec h.2).1 h2]
    · rintro rfl
      exact ⟨_, _, rfl, (cellV_spec h.1).2 rfl, (cellVs_spec h.2).2 rfl⟩
theorem flat_cell {a : AV} (h : flatv a = true) : a.isCell = true := by cases a <;> first | (cases h; done) | rfl
theorem all_flat {α : Type} {c : α → List AV} (hc : ∀ y, (c y).all flatv = true) (l : List α) : (l.flatMap c).all flatv = true := by
  rw [List.all_eq_true]
  intro a ha
  obtain ⟨y, _, hy⟩ := List.mem_flatMap.1 ha
  exact List.all_eq_true.1 (hc y) a hy
theorem flat_len_gen {β γ : Type} {c : β → List γ} {sz : Nat} (hc : ∀ y, (c y).length = sz) : ∀ l : List β, (l.flatMap c).length = l.length * sz
  | [] => by simp
  | a :: l => by rw [List.flatMap_cons, List.length_append, flat_len_gen hc l, hc, List.length_cons, Nat.add_mul]; omega
section
variable {β : Type} [Inhabited β] {enc : β → List Value} {k : Nat}
theorem flatK_get (hk : ∀ x, (enc x).length = k) (d : Array β) (j : Nat) (hj : j < d.size * k) : (flatK enc k d)[j]? = (d.toList.flatMap enc)[j]? := by
  have h0 : 0 < k := by rcases Nat.eq_zero_or_pos k with h | h; subst h; simp at hj; exact h
  have key : ∀ (l : List β) (j : Nat), j < l.length * k → (l.flatMap enc)[j]? = some ((enc l[j / k]!)[j % k]!) := by
    intro l
    induction l with
    | nil => intro j hj; simp at hj
    | cons a l ih =>
      intro j hj
      rw [List.flatMap_cons]
      rcases Nat.lt_or_ge j k with h | h
      · rw [List.getElem?_append_left (by rw [hk]; exact h), Nat.div_eq_of_lt h, Nat.mod_eq_of_lt h]
        rw [List.getElem?_eq_getElem (by rw [hk]; exact h)]
        simp [List.getElem!_eq_getElem?_getD, hk, h]
      · rw [List.getElem?_append_right (by rw [hk]; exact h), hk, ih (j - k) (by simp only [List.length_cons, Nat.add_mul, Nat.one_mul] at hj; omega)]
        have e1 : j / k = (j - k) / k + 1 := by rw [Nat.div_eq_sub_div h0 h]
        have e2 : j % k = (j - k) % k := by rw [Nat.mod_eq_sub_mod h]
        rw [e1, e2]
        simp
  rw [key d.toList j (by simpa using hj)]
  have := get_flatK enc k d j hj
  rw [getElem!_pos _ _ (by rw [size_flatK]; exact hj)] at this
  rw [Array.getElem?_eq_getElem (by rw [size_flatK]; exact hj), this]
  congr 1
  have : d[j / k]! = d.toList[j / k]! := by
    rw [List.getElem!_eq_getElem?_getD, Array.getElem?_toList, Array.getElem!_eq_getD, Array.getD_eq_getD_getElem?]
  rw [this]
/-- The row in the world behind the sort. -/
theorem sort_heap {w : World} {b off m : Nat} {d : Array β} {os : Array Obj} {c : Array Value} {t : TypeId} {fz : Nat × Nat} (hb : w.heap[b]? = some (.cells c t fz)) :
    (sortWorldK enc k w b off m d os).heap[b]? = some (.cells (putCells id off (flatK enc k d) c) t fz) ∧ (∀ j, j < w.heap.size → j ≠ b → (sortWorldK enc k w b off m d os).heap[j]? = w.heap[j]?) ∧ w.heap.size ≤ (sortWorldK enc k w b off m d os).heap.size := by
  have hlt : b < w.heap.size := (Array.getElem?_eq_some_iff.1 hb).1
  have hsz : (putRowK enc k (Sort.ahead w m) b off d).heap.size = w.heap.size := by simp [putRowK, putRow, mapBlock, Sort.ahead]
  unfold sortWorldK
  refine ⟨?_, fun j hj hne => ?_, ?_⟩
  · rw [heap_grow_old _ _ (by rw [hsz]; exact hlt)]
    simp [putRowK, putRow, mapBlock, Sort.ahead, Array.getElem?_modify, hb, onCells]
  · rw [heap_grow_old _ _ (by rw [hsz]; exact hj)]
    simp [putRowK, putRow, mapBlock, Sort.ahead, Array.getElem?_modify, Ne.symm hne]
  · simp only [Sort.grow, Array.size_append, hsz]
    omega
theorem put_get {off : Nat} {F c : Array Value} {j : Nat} (hj : j < F.size) (hc : off + F.size ≤ c.size) : (putCells id off F c)[off + j]? = F[j]? := by
  have hlt : off + j < c.size := by omega
  unfold putCells
  rw [Array.getElem?_mapIdx, Array.getElem?_eq_getElem hlt, Option.map_some, if_pos ⟨by omega, by omega⟩, Array.getElem?_eq_getElem hj]
  simp [show off + j - off = j by omega, getElem!_pos F j hj]
theorem sort_ev {α : Type} {P : Program} {T : TT} {G : Nat → Option (List AV)} {ρ : Ren} (L : SlLaysF0.n6 P ρ) {c : α → List AV} (hc : ∀ y, (c y).length = k) (hfl : ∀ y, (c y).all flatv = true) (he : ∀ y : β, True) (val : β → α) (henc : ∀ y, enc y = (c (val y)).map cellV) (h0 : 0 < k)
    (aE : ∀ w, (isAgg (ρ.t 24)).run P w = .ok true w) (zE : ∀ w, (Go.sizeOf (ρ.t 24)).run P w = .ok k w) (cf : β → β → Int) (hO : SWO (ltOf cf)) (g : Nat) (eg : ∀ args w, (callFunc g args).run P w = .ok (.enter g args) w)
    (hcmp : ∀ (x y : β) (W : World), Calls P g #[.agg (enc x).toArray, .agg (enc y).toArray] W fun e w' => e = .returned (.int .i64 (cf x y)) ∧ ∃ q os', w' = grow (W.drewN q) os')
    (hfn : ∃ fn c, P.funcs[ρ.f 6]? = some fn ∧ fn.body = some c ∧ (fn.name == "runtime.NumGoroutine") = false)
    (hnone : ∀ (p : Option Addr) (cap : Nat) (fv : Value) (w : World), Calls P (ρ.f 6) #[.slice p 0 cap, fv] w fun e w' => e = .returned (.tuple #[]) ∧ w' = w)
    {ex : Bool} {x : Sl α} {d : Array β} (hd : d.toList.map val = x.l) (hsz : d.size < 4611686018427387904) :
    EvCall P T G (ρ.f 6) [rfv ex x 0 k, .fn g [] []] [rfb c x] (fun v H' => v = .tup [] ∧ H' = [rfb c ⟨x.nl, x.ex, (pdq (ltOf cf) d 0 d.size (Lib.bitLen d.size) true true).toList.map val⟩]) := by
  refine ⟨⟨_, _, rfl, rfl⟩, fun hT => ⟨hfn, fun X vs hr hl hG => ?_⟩⟩
  have hlen : d.size = x.l.length := by rw [← hd]; simp
  simp only [RL] at hl
  obtain ⟨sv, r, rfl, hs, fv, r2, rfl, hf, rfl⟩ := hl
  have hf' : fv = .func (.func g) #[] #[] := by
    simp only [R, RL] at hf
    obtain ⟨fs, cs, rfl, rfl, rfl⟩ := hf
    rfl
  subst hf'
  generalize hres : pdq (ltOf cf) d 0 d.size (Lib.bitLen d.size) true true = d'
  have hd' : d'.size = d.size := by
    have h := pdq_sorts (ltOf cf) hO d 0 d.size (Lib.bitLen d.size) true true (Nat.zero_le _) (Nat.le_refl _) (Or.inl rfl)
    rw [hres] at h
    exact h.1.1
  unfold rfv at hs
  simp only [R] at hs
  obtain ⟨⟨hN, hv0⟩, hs⟩ := hs
  by_cases hz : x.l = []
  · -- no element
    have hd0 : d.size = 0 := by rw [hlen, hz]; rfl
    have hd0' : d' = #[] := Array.size_eq_zero_iff.1 (by rw [hd', hd0])
    have hx : (⟨x.nl, x.ex, d'.toList.map val⟩ : Sl α) = x := by rw [hd0']; cases x; simp at hz ⊢; exact hz
    have hshape : ∃ p cap, sv = .slice p 0 cap := by
      rcases hs with ⟨_, rfl, _⟩ | ⟨_, cap, S, o, rfl, _⟩
      · exact ⟨_, _, rfl⟩
      · rw [hz]; exact ⟨_, _, rfl⟩
    obtain ⟨p, cap, rfl⟩ := hshape
    refine (hnone p cap _ X.w).mono ?_
    rintro e w' ⟨rfl, rfl⟩
    exact ⟨_, .tup [], [rfb c x], X, rfl, ⟨rfl, by rw [hx]⟩, rfl, Mv.refl _ (Nat.le_refl _), hr, by simp only [R, RL]; exact ⟨[], rfl, rfl⟩⟩
  · have hnz : (x.nl && x.l.isEmpty) = false := by cases hx : x.l with
      | nil => exact absurd hx hz
      | cons a l => simp
    have hb : rfb c x = .cells (x.l.flatMap c) := by unfold rfb; rw [if_neg (by simp [hnz])]
    rcases hs with ⟨h, _⟩ | ⟨_, cap, S, o, rfl, ho, hle, hcm, _, hS, hSc⟩
    · rw [hnz] at h; cases h
    have hpos : 0 < x.l.length := List.length_pos_iff.2 hz
    have ho := ho (by omega)
    subst ho
    obtain ⟨_, cc, t, fz, us, g1, g2, g3, g4, g5, g6⟩ := hr.block 0 _ (show [rfb c x][0]? = some (.cells (x.l.flatMap c)) by rw [hb]; rfl)
    have hus := (cellVs_spec (all_flat hfl x.l)).1 g3
    have hk : ∀ y, (enc y).length = k := fun y => by rw [henc, List.length_map, hc]
    have hflat : d.toList.flatMap enc = us := by
      rw [hus, ← hd, List.flatMap_map, List.map_flatMap]
      congr 1
      funext y
      exact henc y
    have hul : us.length = d.size * k := by rw [← hflat, flat_len_gen hk, Array.length_toList]
    have hH : HoldsK enc k X.w (X.at_ 0).1 (X.at_ 0).2 d := fun j hj => by
      rw [size_flatK] at hj
      have hju : j < us.length := by rw [hul]; exact hj
      constructor
      · rw [cell_of_row _ _ _ _ _ _ g1, g5 j us[j] (List.getElem?_eq_getElem hju)]
        have := flatK_get hk d j hj
        rw [hflat, List.getElem?_eq_getElem hju] at this
        rw [getElem!_pos _ _ (by rw [size_flatK]; exact hj)]
        rw [Array.getElem?_eq_getElem (by rw [size_flatK]; exact hj)] at this
        exact this.symm
      · have hcj : (X.at_ 0).2 + j < cc.size := by
          have := flat_len hc x.l
          rw [this, ← hlen] at g4
          omega
        simp only [World.frozen?, g1]
        simpa using g2 _ hcj
    have hblk : (X.at_ 0).1 < X.w.heap.size := (Array.getElem?_eq_some_iff.1 g1).1
    have hcon := AnyQ.slices_SortFunc_eq L k aE zE enc hk (fun y v hv => by
      rw [henc] at hv
      obtain ⟨a, ha, rfl⟩ := List.mem_map.1 hv
      have := List.all_eq_true.1 (hfl _) a ha
      cases a <;> first | (cases this; done) | rfl) cf hO g #[] (X.at_ 0).1 (X.at_ 0).2 cap d X.w eg (fun m os dk _ y z => hcmp y z _) hH hblk hsz
    rw [hres, hlen] at hcon
    refine hcon.mono ?_
    rintro e w' ⟨rfl, n, os, rfl⟩
    obtain ⟨w1, w2, w3⟩ := sort_heap (enc := enc) (k := k) (off := (X.at_ 0).2) (m := n) (d := d') (os := os) g1
    generalize hW : sortWorldK enc k X.w (X.at_ 0).1 (X.at_ 0).2 n d' os = W at *
    have hos : W.os = X.w.os ∧ W.tape = X.w.tape ∧ W.output = X.w.output := by rw [← hW]; exact ⟨rfl, rfl, rfl⟩
    -- first the row, then the new blocks
    obtain ⟨w0, e0, e1, e2, e3⟩ : ∃ w0 : World, w0.heap[(X.at_ 0).1]? = some (.cells (putCells id (X.at_ 0).2 (flatK enc k d') cc) t fz) ∧ w0.heap.size = X.w.heap.size ∧ (∀ j, j ≠ (X.at_ 0).1 → w0.heap[j]? = X.w.heap[j]?) ∧ (w0.os = X.w.os ∧ w0.tape = X.w.tape ∧ w0.output = X.w.output) :=
      ⟨{ X.w with heap := X.w.heap.set (X.at_ 0).1 (.cells (putCells id (X.at_ 0).2 (flatK enc k d') cc) t fz) hblk }, by simp, by simp, fun j hj => by simp [Array.getElem?_set, Ne.symm hj], rfl, rfl, rfl⟩
    have hcs : (putCells id (X.at_ 0).2 (flatK enc k d') cc).size = cc.size := by simp [putCells]
    have hfd : (flatK enc k d').size = us.length := by rw [size_flatK, hd', hul]
    have hcl : (d'.toList.map val).flatMap c = (d'.toList.flatMap fun y => c (val y)) := by rw [List.flatMap_map]
    have hcv : ((d'.toList.map val).flatMap c).map cellV = d'.toList.flatMap enc := by
      rw [hcl, List.map_flatMap]
      congr 1
      funext y
      exact (henc y).symm
    have hb' : rfb c (⟨x.nl, x.ex, d'.toList.map val⟩ : Sl α) = .cells ((d'.toList.map val).flatMap c) := by
      unfold rfb
      have : d'.toList ≠ [] := fun h => by
        have h1 := congrArg List.length h
        rw [Array.length_toList, hd', hlen] at h1
        have h2 : x.l.length = 0 := h1
        omega
      rw [if_neg]
      cases hq : d'.toList with
      | nil => exact absurd hq this
      | cons a l => simp
    have hup := hr.update (l := 0) (b0 := .cells (x.l.flatMap c)) (.cells ((d'.toList.map val).flatMap c)) (show [rfb c x][0]? = _ by rw [hb]; rfl) rfl rfl rfl rfl w0 e1 e2 (fun s hs => by
        rw [bsz_of g1] at hs
        rw [bsz_of e0, hcs]
        exact hs) e3.1 e3.2.1 e3.2.2 (fun _ => by
        refine ⟨hv0, _, t, fz, d'.toList.flatMap enc, e0, fun i hi => g2 i (by rw [← hcs]; exact hi), (cellVs_spec (all_flat hfl _)).2 hcv.symm, ?_, fun i u hi => ?_, fun a ha => flat_cell (List.all_eq_true.1 (all_flat hfl _) a ha)⟩
        · rw [hcs]
          have q1 := flat_len hc x.l
          have q2 := flat_len hc (d'.toList.map val)
          rw [q2, List.length_map, Array.length_toList, hd', hlen, ← q1]
          exact g4
        · have hi2 := (List.getElem?_eq_some_iff.1 hi).1
          rw [flat_len_gen hk, Array.length_toList] at hi2
          have q1 := flat_len hc x.l
          rw [put_get (by rw [size_flatK]; exact hi2) (by
            rw [hfd, hul, hlen, ← q1]
            exact g4), flatK_get hk d' i hi2]
          exact hi)
    obtain ⟨u1, u2, u3⟩ := hup
    obtain ⟨v1, v2, v3⟩ := u2.worldly W (by show w0.heap.size ≤ _; rw [e1]; exact w3) (fun j hj => by
      have hj : j < w0.heap.size := hj
      rw [e1] at hj
      show W.heap[j]? = w0.heap[j]?
      by_cases hjb : j = (X.at_ 0).1
      · subst hjb
        rw [w1]
        exact e0.symm
      · rw [e2 j hjb]
        exact w2 j hj hjb) (hos.1.trans e3.1.symm) (hos.2.1.trans e3.2.1.symm) (hos.2.2.trans e3.2.2.symm)
    refine ⟨_, .tup [], [rfb c ⟨x.nl, x.ex, d'.toList.map val⟩], { X with w := W }, rfl, ⟨rfl, rfl⟩, rfl, ?_, ?_, by simp only [R, RL]; exact ⟨[], rfl, rfl⟩⟩
    · rw [hb']
      have := u1.trans v1
      rw [hb] at this ⊢
      exact this
    · rw [hb']
      rw [hb] at v2
      exact v2
end
end Go.Abs
