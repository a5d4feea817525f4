/- make, literals, conversions between bytes and strings: sound. -/
import Derived.Test.YtmndnfpobhebjaaGreatAbnMake
import Derived.IntWalk
namespace Go.Abs

theorem bytes_back {s : List UInt8} : ∀ {cs : List AV}, cs.mapM byteOf? = some s → cs.length = s.length ∧ ∀ {x : Cx} {vs : List Value}, RL x cs vs → ∃ ns : List Int, vs = ns.map (Value.int .u8) ∧ s = ns.map fun n => UInt8.ofNat n.toNat := by
  induction s with
  | nil =>
    intro cs h
    cases cs with
    | nil => exact ⟨rfl, fun hl => ⟨[], by simpa [RL] using hl, rfl⟩⟩
    | cons c cs => simp [List.mapM_cons, Option.bind_eq_some_iff] at h
  | cons b s ih =>
    intro cs h
    cases cs with
    | nil => simp at h
    | cons c cs =>
      simp only [List.mapM_cons, Option.bind_eq_bind, Option.bind_eq_some_iff, Option.pure_def, Option.some.injEq, List.cons.injEq] at h
      obtain ⟨b', hb, s', hs, rfl, rfl⟩ := h
      obtain ⟨h1, h2⟩ := ih hs
      refine ⟨by simp [h1], fun {x vs} hl => ?_⟩
      simp only [RL] at hl
      obtain ⟨v, r, rfl, hv, hr⟩ := hl
      obtain ⟨ns, rfl, rfl⟩ := h2 hr
      unfold byteOf? at hb
      split at hb
      · rename_i n
        cases hb
        simp only [R] at hv
        subst hv
        exact ⟨n :: ns, rfl, rfl⟩
      · cases hb

theorem bytesToString_run {P : Program} {w : World} {a : Addr} {cap : Nat} (ns : List Int) (h : (loadCells a ns.length).run P w = .ok (ns.map (Value.int .u8)).toArray w) :
    (Conv.bytesToString (.slice (some a) ns.length cap)).run P w = .ok (.string ⟨(ns.map fun n => UInt8.ofNat n.toNat).toArray⟩) w := by
  unfold Conv.bytesToString
  simp only [Sem.run_bind, h, Result.andThen_ok]
  have key : ∀ (ns : List Int) (acc : ByteArray), List.foldl (fun (b : ByteArray) (a : Int) => b.push (UInt8.ofNat a.toNat)) acc ns = ⟨acc.data ++ (ns.map fun n => UInt8.ofNat n.toNat).toArray⟩ := by
    intro ns
    induction ns with
    | nil => intro acc; simp
    | cons n ns ih =>
      intro acc
      simp only [List.map_cons, List.foldl_cons, ih]
      congr 1
      apply Array.ext'
      simp [ByteArray.push]
  rw [← Array.forIn_toList]
  simp [key]

section
variable {P : Program} {T : TT} (hT : TyOk P T)
include hT

theorem zeros_known {x : Cx} {e : TypeId} (hk : (T e).d.known = true) (n : Nat) (w : World) : ∃ z : Array Value, (n * (T e).size ≠ 0 → (do pure (← zeroValue e).cells : Sem (Array Value)).run P w = .ok z w) ∧ z.size = (T e).size ∧
    RL x (List.replicate n (T e).zero).flatten ((Array.range (n * (T e).size)).map (z[· % z.size]!)).toList ∧ (∀ a ∈ (List.replicate n (T e).zero).flatten, a.isCell = true) := by
  obtain ⟨i, z, hi, hs, hb, hz, hzs, hm⟩ := (hT.ty e hk).info
  have hc := RL.closed (x := x) hm
  refine ⟨z.cells, fun _ => by simp [zeroValue, typeInfo, hi, hz], by rw [hzs, hs], ?_, fun a ha => ?_⟩
  · have := zeros_row hc.1 n
    rwa [hzs, hs] at this ⊢
  · obtain ⟨l, hl, ha⟩ := List.mem_flatten.1 ha
    rw [(List.mem_replicate.1 hl).2] at ha
    exact hc.2 a ha

theorem make_sound {x : Cx} {H H' : AH} (hr : Rel x H) {t : TypeId} {n c v : AV} {nu cu : Value} (hn : R x n nu) (hc : R x c cu) (h : amake T H t n c = some (v, H')) : OutV x H H' v ((Instr.makeSlice t nu cu).run P x.w) := by
  unfold amake at h
  split at h
  case h_2 => cases h
  rename_i e n c hd
  split at h
  case isFalse => cases h
  rename_i hb
  obtain ⟨h0, h1, h2, h3, h4⟩ := hb
  cases h
  simp only [R] at hn hc
  subst hn hc
  have hu := TyOk.desc hT hd rfl
  simp only [DescOk] at hu
  have hk := hT.sub t (by rw [hd]; rfl) e (by rw [hd]; simp [AD.subs])
  obtain ⟨i, z, hi, hs, hby, hz, hzs, hm⟩ := (hT.ty e hk).info
  have hcl := RL.closed (x := x) hm
  have hcells : ((Array.range (c.toNat * (T e).size)).map (fun k => z.cells[k % z.cells.size]!)).size = c.toNat * (T e).size := by simp
  have hrow := hr.row (cs := (List.replicate n.toNat (T e).zero).flatten) (vs := ((Array.range (n.toNat * (T e).size)).map (fun k => z.cells[k % z.cells.size]!)).toList)
    (by have := zeros_row hcl.1 n.toNat; rw [hzs, hs] at this ⊢; exact this) (fun a ha => by
      obtain ⟨l, hl, ha⟩ := List.mem_flatten.1 ha
      rw [(List.mem_replicate.1 hl).2] at ha
      exact hcl.2 a ha) ((Array.range (c.toNat * (T e).size)).map (fun k => z.cells[k % z.cells.size]!)) e (0, 0) (by simp) (fun j u hj => by
      have hlt := (List.getElem?_eq_some_iff.1 hj).1
      simp at hlt
      have hle : n.toNat * (T e).size ≤ c.toNat * (T e).size := Nat.mul_le_mul_right _ (by omega)
      simp only [Array.toList_map, List.getElem?_map, Array.getElem?_toList, Array.getElem?_map, Array.getElem?_range] at hj ⊢
      rw [if_pos hlt] at hj
      rw [if_pos (by omega)]
      exact hj) (by
      have := (RL.length (zeros_row hcl.1 n.toNat)).symm
      rw [this]
      simp [hzs, hs]
      exact Nat.mul_le_mul_right _ (by omega)) (x.w.alloc (.cells ((Array.range (c.toNat * (T e).size)).map (fun k => z.cells[k % z.cells.size]!)) e)) rfl rfl rfl rfl
  have hex : (n == c) = true → c.toNat = n.toNat := fun he => by
    have : n = c := by simpa using he
    omega
  refine ⟨_, _, ?_, hrow.1, hrow.2.1, hrow.2.2, row_ref (cap := c.toNat) hr.N rfl (by omega) (by omega) hex (by rw [hcells]; exact Nat.le_refl _)⟩
  have hbt : (i.bytes : Int) * c ≤ 281474976710656 := by
    rw [hby, Int.mul_comm]
    omega
  have hr' := run_make (P := P) x.w t e i z hu hi hz .i64 .i64 n c h0 h1 hbt (by simp only [maxLen] at h3; omega)
  rw [hs] at hr'
  exact hr'

theorem makeF_sound {x : Cx} {H H' : AH} (hr : Rel x H) {t : TypeId} {n c v : AV} {nu cu : Value} (hn : R x n nu) (hc : R x c cu) (h : amakeF T H t n c = some (v, H')) : OutV x H H' v ((Instr.makeSlice t nu cu).run P x.w) := by
  unfold amakeF at h
  split at h
  case h_2 => cases h
  rename_i e n c hd
  split at h
  case isFalse => cases h
  rename_i hb
  obtain ⟨h0, h1, h2, h3, h4⟩ := hb
  cases h
  simp only [R] at hn hc
  subst hn hc
  have hu := TyOk.desc hT hd rfl
  simp only [DescOk] at hu
  have hk := hT.sub t (by rw [hd]; rfl) e (by rw [hd]; simp [AD.subs])
  obtain ⟨i, z, hi, hs, hby, hz, hzs, hm⟩ := (hT.ty e hk).info
  have hcl := RL.closed (x := x) hm
  have hcells : ((Array.range (c.toNat * (T e).size)).map (fun k => z.cells[k % z.cells.size]!)).size = c.toNat * (T e).size := by simp
  have hrow := hr.ownRow (cs := (List.replicate n.toNat (T e).zero).flatten) (vs := ((Array.range (n.toNat * (T e).size)).map (fun k => z.cells[k % z.cells.size]!)).toList)
    (by have := zeros_row hcl.1 n.toNat; rw [hzs, hs] at this ⊢; exact this) (fun a ha => by
      obtain ⟨l, hl, ha⟩ := List.mem_flatten.1 ha
      rw [(List.mem_replicate.1 hl).2] at ha
      exact hcl.2 a ha) (c := (Array.range (c.toNat * (T e).size)).map (fun k => z.cells[k % z.cells.size]!)) (t := e) (fz := (0, 0)) (by simp) (fun j u hj => by
      have hlt := (List.getElem?_eq_some_iff.1 hj).1
      simp at hlt
      have hle : n.toNat * (T e).size ≤ c.toNat * (T e).size := Nat.mul_le_mul_right _ (by omega)
      simp only [Array.toList_map, List.getElem?_map, Array.getElem?_toList, Array.getElem?_map, Array.getElem?_range] at hj ⊢
      rw [if_pos hlt] at hj
      rw [if_pos (by omega)]
      exact hj) (n := n.toNat) (cap := c.toNat) (sz := (T e).size) (by
      have := (RL.length (zeros_row hcl.1 n.toNat)).symm
      rw [this]
      simp [hzs, hs]) (by omega) (by omega) (by rw [hcells]; exact Nat.le_refl _) (w' := x.w.alloc (.cells ((Array.range (c.toNat * (T e).size)).map (fun k => z.cells[k % z.cells.size]!)) e)) rfl rfl rfl rfl
  obtain ⟨y, ey, y1, y2, y3, y4⟩ := hrow
  refine ⟨_, y, ?_, y1, y2, y3, y4⟩
  rw [ey]
  have hbt : (i.bytes : Int) * c ≤ 281474976710656 := by
    rw [hby, Int.mul_comm]
    omega
  have hr' := run_make (P := P) x.w t e i z hu hi hz .i64 .i64 n c h0 h1 hbt (by simp only [maxLen] at h3; omega)
  rw [hs] at hr'
  exact hr'

omit hT in
theorem parts_sound {G : Nat → Option (List AV)} {x : Cx} {fr : List AV} {a : Act} (hG : GOk G x) (hl : RL x fr a.tmps.toList) {parts : Array (Nat × Operand)} {ps : List (Nat × AV)} (h : (parts.toList.mapM fun p => (aval G fr p.2).map fun v => (p.1, v)) = some ps) :
    ps.length = (parts.map fun (p : Nat × Operand) => (p.1, a.eval p.2)).toList.length ∧ ∀ (j : Nat) (p : Nat × AV) (q : Nat × Value), ps[j]? = some p → (parts.map fun (p : Nat × Operand) => (p.1, a.eval p.2)).toList[j]? = some q → p.1 = q.1 ∧ R x p.2 q.2 := by
  simp only [Array.toList_map]
  generalize parts.toList = l at h
  induction l generalizing ps with
  | nil => simp at h; subst h; simp
  | cons p l ih =>
    simp only [List.mapM_cons, Option.bind_eq_bind, Option.bind_eq_some_iff, Option.map_eq_some_iff, Option.pure_def, Option.some.injEq] at h
    obtain ⟨q, ⟨v, hv, rfl⟩, r, hr, rfl⟩ := h
    obtain ⟨h1, h2⟩ := ih hr
    refine ⟨by simp [h1], fun j p' q' hp hq => ?_⟩
    cases j with
    | zero =>
      simp at hp hq
      subst hp hq
      exact ⟨rfl, aval_sound hG hl hv⟩
    | succ j => exact h2 j p' q' (by simpa using hp) (by simpa using hq)

theorem build_struct_sound {x : Cx} {t : TypeId} {fs : List (Bool × Nat × TypeId)} (hd : (T t).d = .struct fs) {ps : List (Nat × AV)} {qs : Array (Nat × Value)} {cs : List AV} (hn : ps.length = qs.toList.length)
    (hq : ∀ (j : Nat) (p : Nat × AV) (q : Nat × Value), ps[j]? = some p → qs.toList[j]? = some q → p.1 = q.1 ∧ R x p.2 q.2)
    (h : afill (fun i => (fs[i]?).map fun f => (f.2.1, (T f.2.2).size)) (T t).zero ps = some cs) : ∃ u, (Instr.build t qs).run P x.w = .ok u x.w ∧ R x (.agg cs) u := by
  have hu := TyOk.desc hT hd rfl
  simp only [DescOk] at hu
  obtain ⟨fields, hu, rfl⟩ := hu
  obtain ⟨it, z, hit, hs, hb, hz, hzs, hzm⟩ := (hT.ty t (by rw [hd]; rfl)).info
  have hl := RL.closed (x := x) hzm
  have hall : ∀ f ∈ fields.toList, (T f.type).d.known = true := fun f hf => hT.sub t (by rw [hd]; rfl) f.type (by
    rw [hd]
    simp only [AD.subs, List.map_map, List.mem_map, Function.comp]
    exact ⟨f, hf, rfl⟩)
  have hpl : ∀ l : List Field, (∀ f ∈ l, (T f.type).d.known = true) → l.mapM (fun f => (P.info? f.type).map fun i => (f.offset, i.size)) = some (l.map fun f => (f.offset, (T f.type).size)) := by
    intro l
    induction l with
    | nil => intro _; simp
    | cons f l ih =>
      intro h
      obtain ⟨i, z, hi, hs, _⟩ := (hT.ty _ (h f (by simp))).info
      simp [List.mapM_cons, hi, hs, ih (fun g hg => h g (by simp [hg]))]
  obtain ⟨c', g1, g2, g3⟩ := fill_sound (x := x) ps qs.toList (T t).zero z.cells cs hl.1 hl.2 hn hq h
  refine ⟨.agg c', run_build (P := P) x.w t qs c' ?_, by simp only [R]; exact ⟨g3, c'.toList, by simp, g2⟩⟩
  have hfn : (fun i : Nat => ((fields.toList.map fun f => (f.name == "_", f.offset, f.type))[i]?).map fun f : Bool × Nat × TypeId => (f.2.1, (T f.2.2).size)) = fun i : Nat => ((fields.toList.map fun f => (f.offset, (T f.type).size)).toArray)[i]? := by
    funext i
    simp [Option.map_map, Function.comp_def]
  rw [hfn] at g1
  simp only [Program.built, hit, hu, hz, hpl _ hall]
  exact g1

theorem build_array_sound {x : Cx} {t e : TypeId} {n : Nat} (hd : (T t).d = .arr n e) {ps : List (Nat × AV)} {qs : Array (Nat × Value)} {cs : List AV} (hn : ps.length = qs.toList.length)
    (hq : ∀ (j : Nat) (p : Nat × AV) (q : Nat × Value), ps[j]? = some p → qs.toList[j]? = some q → p.1 = q.1 ∧ R x p.2 q.2)
    (h : afill (fun i => some (i * (T e).size, (T e).size)) (T t).zero ps = some cs) : ∃ u, (Instr.build t qs).run P x.w = .ok u x.w ∧ R x (.agg cs) u := by
  have hu := TyOk.desc hT hd rfl
  simp only [DescOk] at hu
  have hk := hT.sub t (by rw [hd]; rfl) e (by rw [hd]; simp [AD.subs])
  obtain ⟨it, z, hit, hs, hb, hz, hzs, hzm⟩ := (hT.ty t (by rw [hd]; rfl)).info
  obtain ⟨ie, _, hie, hse, _⟩ := (hT.ty e hk).info
  have hl := RL.closed (x := x) hzm
  obtain ⟨c', g1, g2, g3⟩ := fill_sound (x := x) ps qs.toList (T t).zero z.cells cs hl.1 hl.2 hn hq h
  refine ⟨.agg c', run_build (P := P) x.w t qs c' ?_, by simp only [R]; exact ⟨g3, c'.toList, by simp, g2⟩⟩
  simp only [Program.built, hit, hu, hz, hie, hse]
  exact g1

theorem buildSlice_run {x : Cx} {t e : TypeId} {n : Nat} (hd : (T t).d = .slice e) (hb : n * (T e).size ≤ 16777216) (hb2 : n ≤ 16777216) {ps : List (Nat × AV)} {qs : Array (Nat × Value)} {cs : List AV} (hn : ps.length = qs.toList.length)
    (hq : ∀ (j : Nat) (p : Nat × AV) (q : Nat × Value), ps[j]? = some p → qs.toList[j]? = some q → p.1 = q.1 ∧ R x p.2 q.2)
    (h : afill (fun i => some (i * (T e).size, (T e).size)) (List.replicate n (T e).zero).flatten ps = some cs) : ∃ c', (Instr.buildSlice t n qs).run P x.w = .ok (.slice (some ⟨x.w.heap.size, 0, none⟩) n n) (x.w.alloc (.cells c' e)) ∧ RL x cs c'.toList ∧ (∀ a ∈ cs, a.isCell = true) ∧ c'.size = n * (T e).size := by
  have hu := TyOk.desc hT hd rfl
  simp only [DescOk] at hu
  have hk := hT.sub t (by rw [hd]; rfl) e (by rw [hd]; simp [AD.subs])
  obtain ⟨z, g1, g2, g3, g4⟩ := zeros_known hT (x := x) hk n x.w
  rw [g2] at g3
  obtain ⟨c', k1, k2, k3⟩ := fill_sound (x := x) ps qs.toList _ ((Array.range (n * (T e).size)).map (fun i => z[i % (T e).size]!)) cs g3 g4 hn hq h
  have hlen : c'.size = n * (T e).size := by
    have h1 : ∀ (ps : List (Nat × Value)) (c c' : Array Value) (pl : Nat → Option (Nat × Nat)), Instr.fill pl c ps = some c' → c'.size = c.size := by
      intro ps
      induction ps with
      | nil => intro c c' pl h; simp only [Instr.fill, Option.some.injEq] at h; rw [h]
      | cons p ps ih =>
        intro c c' pl h
        simp only [Instr.fill] at h
        split at h
        · cases h
        · split at h
          · cases h
          · rw [ih _ _ _ h, ← Array.foldl_toList]
            rename_i hneg
            generalize p.2.cells.zipIdx.toList = l
            clear h hneg
            induction l generalizing c with
            | nil => rfl
            | cons a l ih2 => simp only [List.foldl_cons]; rw [ih2]; simp
    have := h1 _ _ _ _ k1
    simpa using this
  refine ⟨c', ?_, k2, k3, hlen⟩
  have hb' : ¬ (n * (T e).size > 2 ^ 24) := by omega
  by_cases h0 : n * (T e).size = 0
  · have hk1 : Instr.fill (fun i => some (i * (T e).size, (T e).size)) #[] qs.toList = some c' := by
      rw [h0] at k1
      simpa [Array.range_zero'] using k1
    simp [Instr.buildSlice, run_underlying hu, TyOk.size hT hk, h0, hk1, newRow, Array.range_zero', Cx.new]
  · have hz1 := g1 h0
    have hzv : ∃ zz, (zeroValue e).run P x.w = .ok zz x.w ∧ zz.cells = z := by
      obtain ⟨i, zz, hi, _, _, hz, _⟩ := (hT.ty e hk).info
      refine ⟨zz, by simp [zeroValue, typeInfo, hi, hz], ?_⟩
      simp [zeroValue, typeInfo, hi, hz] at hz1
      exact hz1
    obtain ⟨zz, hz2, rfl⟩ := hzv
    rw [← g2] at k1
    have hb'' : ¬ (16777216 < n * (T e).size) := by omega
    simp only [g2] at k1
    simp [Instr.buildSlice, run_underlying hu, TyOk.size hT hk, h0, hb'', hz2, g2, k1, newRow, Cx.new]
theorem buildSlice_sound {x : Cx} {H : AH} (hr : Rel x H) {t e : TypeId} {n : Nat} (hd : (T t).d = .slice e) (hb : n * (T e).size ≤ 16777216) (hb2 : n ≤ 16777216) {ps : List (Nat × AV)} {qs : Array (Nat × Value)} {cs : List AV} (hn : ps.length = qs.toList.length)
    (hq : ∀ (j : Nat) (p : Nat × AV) (q : Nat × Value), ps[j]? = some p → qs.toList[j]? = some q → p.1 = q.1 ∧ R x p.2 q.2)
    (h : afill (fun i => some (i * (T e).size, (T e).size)) (List.replicate n (T e).zero).flatten ps = some cs) : OutV x H (H ++ [.cells cs]) (.ref true H.length 0 n (T e).size) ((Instr.buildSlice t n qs).run P x.w) := by
  obtain ⟨c', hrun, k2, k3, hlen⟩ := buildSlice_run hT hd hb hb2 hn hq h
  have hrow := hr.row k2 k3 c' e (0, 0) (by simp) (fun i u hu => by simpa using hu) (by rw [← k2.length]; simp) (x.w.alloc (.cells c' e)) rfl rfl rfl rfl
  exact ⟨_, _, hrun, hrow.1, hrow.2.1, hrow.2.2, row_ref (cap := n) hr.N rfl (Nat.le_refl _) (by simp only [maxLen]; omega) (fun _ => rfl) (by rw [hlen]; exact Nat.le_refl _)⟩
/-- A slice that nobody will write to: frozen at once. -/
theorem buildSlice_frozen {x : Cx} {H : AH} (hr : Rel x H) {t e : TypeId} {n : Nat} (hd : (T t).d = .slice e) (hb : n * (T e).size ≤ 16777216) (hb2 : n ≤ 16777216) {ps : List (Nat × AV)} {qs : Array (Nat × Value)} {cs : List AV} (hn : ps.length = qs.toList.length)
    (hq : ∀ (j : Nat) (p : Nat × AV) (q : Nat × Value), ps[j]? = some p → qs.toList[j]? = some q → p.1 = q.1 ∧ R x p.2 q.2)
    (h : afill (fun i => some (i * (T e).size, (T e).size)) (List.replicate n (T e).zero).flatten ps = some cs) : OutV x H H (.lit false true cs n) ((Instr.buildSlice t n qs).run P x.w) := by
  obtain ⟨c', hrun, k2, k3, hlen⟩ := buildSlice_run hT hd hb hb2 hn hq h
  have h0 : (x.w.alloc (.cells c' e)).heap = x.w.heap.push (.cells c' e) := rfl
  have d1 : x.w.heap.size ≤ (x.w.alloc (.cells c' e)).heap.size := by rw [h0]; simp
  have d2 : ∀ k, k < x.w.heap.size → (x.w.alloc (.cells c' e)).heap[k]? = x.w.heap[k]? := fun k hk => by rw [h0, Array.getElem?_push, if_neg (by omega)]
  have d3 : (x.w.alloc (.cells c' e)).heap[x.w.heap.size]? = some (.cells c' e) := by rw [h0]; simp
  have d4 : (x.w.alloc (.cells c' e)).heap.size = x.w.heap.size + 1 := by rw [h0]; simp
  let Q : Nat → Nat → Prop := fun k q => k = x.w.heap.size ∧ q = cs.length
  obtain ⟨k1, k4, k5⟩ := hr.worldly (x.w.alloc (.cells c' e)) d1 d2 rfl rfl rfl
  have hrel := k4.more (Q := Q) (fun k q hq => by rw [hq.1]; show _ < (x.w.alloc (.cells c' e)).heap.size; omega) (fun k q hq j b hb hbl he => by
    have := Own.lt hr ⟨j, ⟨b, hb, hbl⟩, rfl⟩
    rw [hq.1] at he
    simp only at he
    omega)
  have hkeep := k5.trans (Cx.more_keeps _ Q)
  refine ⟨_, _, hrun, k1.more (Q := Q) (fun k q hq => .inr (by rw [hq.1]; exact Nat.le_refl _)), hrel, hkeep, R.frozen (Nat.le_refl _) (by simp only [maxLen]; omega) (fun _ => rfl) (RL.keeps hkeep _ _ k2) k3 (.inr (.of (.inr ⟨rfl, by rw [Nat.zero_add]⟩))) (fun i u hu => ?_)⟩
  show (x.w.alloc (.cells c' e)).cell? _ = _
  rw [cell_of_row _ _ _ _ _ _ d3, Nat.zero_add]
  simpa using hu
end
end Go.Abs
