/- Operations that leave the heap as it is. -/
import Derived.Test.YtmndnfpobhebjaaGreatAbnPure
namespace Go.Abs

/-- What an operation comes to, and that it is what the abstract one says. -/
def Out (x : Cx) (H H' : AH) (v : AV) (r : Result Next) : Prop :=
  ∃ u y, (r = .ok (.value u) y.w ∨ (r = .ok .skip y.w ∧ u = undef)) ∧ Mv x.N x H y H' ∧ Rel y H' ∧ Keeps x y ∧ R y v u

theorem Out.pure {x : Cx} {H : AH} {v : AV} {u : Value} {r : Result Next} (hr : Rel x H) (hv : R x v u) (h : r = .ok (.value u) x.w) : Out x H H v r :=
  ⟨u, x, .inl h, Mv.refl H (Nat.le_refl _), hr, Keeps.refl x, hv⟩

theorem Holds.cell {x : Cx} {b o : Nat} {cs : List AV} (h : Holds x b o cs) : ∃ vs, RL x cs vs ∧ (∀ a ∈ cs, a.isCell = true) ∧ ∀ i u, vs[i]? = some u → x.w.cell? ⟨b, o + i, none⟩ = some u := by
  obtain ⟨c, t, fz, vs, h1, h2, h3, h4, h5, h6⟩ := h
  exact ⟨vs, h3, h6, fun i u hu => by rw [cell_of_row _ _ _ _ _ _ h1]; exact h5 i u hu⟩

theorem run_value {P : Program} {s : Sem Value} {w w' : World} {u : Value} (h : s.run P w = .ok u w') : (do pure (Next.value (← s)) : Sem Next).run P w = .ok (.value u) w' := by
  simp [h]

section
variable {P : Program} {T : TT} (hT : TyOk P T)
include hT

theorem loadVar_sound {x : Cx} {t : TypeId} {cs : List AV} {vs : List Value} {b o off : Nat} {v : AV} (hl : RL x cs vs) (hc : ∀ a ∈ cs, a.isCell = true) (hcell : ∀ i u, vs[i]? = some u → x.w.cell? ⟨b, o + i, none⟩ = some u)
    (h : apart T t cs off = some v) : ∃ u, (loadVar t ⟨b, o + off, none⟩).run P x.w = .ok u x.w ∧ R x v u := by
  unfold apart at h
  split at h
  · rename_i hk
    have h1 := TyOk.isAgg hT hk x.w
    have h2 := TyOk.size hT hk x.w
    split at h
    · rename_i ha
      split at h
      · rename_i hb
        cases h
        refine ⟨.agg ((vs.drop off).take (T t).size).toArray, ?_, ?_⟩
        · have hlen : ((vs.drop off).take (T t).size).length = (T t).size := by
            have := hl.length
            simp
            omega
          have h3 := run_loadCells_list (P := P) x.w ⟨b, o + off, none⟩ ((vs.drop off).take (T t).size) (fun j u hu => by
            rw [List.getElem?_take] at hu
            split at hu
            · rw [List.getElem?_drop] at hu
              rw [Addr.add_lit, Nat.add_assoc]
              exact hcell _ _ hu
            · cases hu)
          rw [hlen] at h3
          unfold loadVar
          simp [h1, ha, h2, h3]
        · simp only [R]
          exact ⟨fun a ha => hc a (List.mem_of_mem_drop (List.mem_of_mem_take ha)), _, rfl, (hl.drop off).take _⟩
      · cases h
    · rename_i ha
      obtain ⟨u, hu, hr⟩ := hl.get h
      refine ⟨u, ?_, hr⟩
      unfold loadVar
      simp [h1, ha, hcell _ _ hu]
  · cases h

theorem aload_sound {x : Cx} {H : AH} (hr : Rel x H) {t : TypeId} {p v : AV} {u : Value} (hp : R x p u) (h : aload T H t p = some v) : ∃ q, (Instr.loadAt t u).run P x.w = .ok q x.w ∧ R x v q := by
  unfold aload at h
  split at h
  · rename_i l off
    split at h
    · rename_i cs hl
      obtain ⟨vs, h1, h2, h3⟩ := Holds.cell (hr.block l _ hl).2
      simp only [R] at hp
      obtain ⟨_, _, rfl⟩ := hp
      obtain ⟨q, h4, h5⟩ := loadVar_sound hT h1 h2 h3 h
      exact ⟨q, by simpa [Instr.loadAt, Instr.sureAddr] using h4, h5⟩
    · cases h
  · rename_i cs off
    simp only [R] at hp
    obtain ⟨b, o, vs, rfl, hf, h1, h2, h3⟩ := hp
    obtain ⟨q, h4, h5⟩ := loadVar_sound hT h1 h2 h3 h
    exact ⟨q, by simpa [Instr.loadAt, Instr.sureAddr] using h4, h5⟩
  · cases h

theorem fieldPlace_sound {t : TypeId} (hk : (T t).d.known = true) (f : Field) (hf : f.type = t) (hs : (T t).size ≠ 0) (b o : Nat) (w : World) : (fieldPlace ⟨b, o, none⟩ f).run P w = .ok ⟨b, o + f.offset, none⟩ w := by
  subst hf
  unfold fieldPlace
  simp [TyOk.size hT hk w, hs, Addr.add_lit]

theorem fieldAddr_sound {x : Cx} {s : TypeId} {f : Nat} {fs : List (Bool × Nat × TypeId)} {g : Bool × Nat × TypeId} (hd : (T s).d = .struct fs) (hg : fs[f]? = some g) (hz : (T g.2.2).size ≠ 0) (b o : Nat) :
    (Instr.fieldAt s (.pointer (some ⟨b, o, none⟩)) f).run P x.w = .ok (.pointer (some ⟨b, o + g.2.1, none⟩)) x.w := by
  have hu := TyOk.desc hT hd rfl
  simp only [DescOk] at hu
  obtain ⟨fields, hu, rfl⟩ := hu
  rw [List.getElem?_map, Option.map_eq_some_iff] at hg
  obtain ⟨fd, h1, rfl⟩ := hg
  rw [Array.getElem?_toList] at h1
  have hk := hT.sub s (by rw [hd]; rfl) fd.type (by
    rw [hd]
    simp only [AD.subs, List.map_map, List.mem_map, Function.comp]
    exact ⟨fd, by rw [← Array.getElem?_toList] at h1; exact List.mem_of_getElem? h1, rfl⟩)
  have := fieldPlace_sound hT hk fd rfl hz b o x.w
  simp [Instr.fieldAt, run_underlying hu, h1, Instr.sureAddr, this]

theorem field_sound {x : Cx} {t : TypeId} {f : Nat} {fs : List (Bool × Nat × TypeId)} {g : Bool × Nat × TypeId} (hd : (T t).d = .struct fs) (hg : fs[f]? = some g) {cs : List AV} {u : Value} {v : AV} (hp : R x (.agg cs) u) (h : apart T g.2.2 cs g.2.1 = some v) :
    ∃ q, (Instr.field t u f).run P x.w = .ok q x.w ∧ R x v q := by
  have hu := TyOk.desc hT hd rfl
  simp only [DescOk] at hu
  obtain ⟨fields, hu, rfl⟩ := hu
  rw [List.getElem?_map, Option.map_eq_some_iff] at hg
  obtain ⟨fd, h1, rfl⟩ := hg
  rw [Array.getElem?_toList] at h1
  simp only [R] at hp
  obtain ⟨hc, vs, rfl, hl⟩ := hp
  obtain ⟨q, h2, h3⟩ := part_sound hT hl hc h x.w
  exact ⟨q, by simp [Instr.field, run_underlying hu, h1, asAgg, h2], h3⟩

theorem indexAddr_sound {x : Cx} {t : TypeId} {a i v : AV} {u k : Value} (ha : R x a u) (hi : R x i k) (h : aindexAddr T t a i = some v) : ∃ q, (Instr.indexAt t u k).run P x.w = .ok q x.w ∧ R x v q := by
  unfold aindexAddr at h
  split at h
  · rename_i kk i
    simp only [R] at hi
    subst hi
    split at h
    · rename_i e ex l off len sz hd
      split at h
      · rename_i hc
        obtain ⟨hs, h0, h1⟩ := hc
        cases h
        have hu := TyOk.desc hT hd rfl
        simp only [DescOk] at hu
        have hk := hT.sub t (by rw [hd]; rfl) e (by rw [hd]; simp [AD.subs])
        simp only [R] at ha
        obtain ⟨hl, hv0, cap, S, o, rfl, ho, hle, _⟩ := ha
        have ho := ho (by omega)
        subst ho
        refine ⟨.pointer (some ⟨(x.at_ l).1, (x.at_ l).2 + (off + i.toNat * sz), none⟩), ?_, ?_⟩
        · simp [Instr.indexAt, asIntOf, run_underlying hu, TyOk.size hT hk, h0, h1, Addr.add_lit, hs, Nat.add_assoc]
        · simpa [R] using ⟨hl, hv0⟩
      · cases h
    · rename_i e nl ex cs len hd
      split at h
      · rename_i hc
        obtain ⟨h0, h1, h2, h3⟩ := hc
        cases h
        have hu := TyOk.desc hT hd rfl
        simp only [DescOk] at hu
        have hk := hT.sub t (by rw [hd]; rfl) e (by rw [hd]; simp [AD.subs])
        simp only [R] at ha
        rcases ha with ⟨_, _, rfl, rfl⟩ | ⟨_, b, o, cap, vs, rfl, hle, hmx, hex, hl, hcl, hf, hcell⟩
        · omega
        · have hf' : x.Fz b (o + cs.length) := by
            rcases hf with rfl | hf
            · have : 0 < len * (T e).size := Nat.mul_pos (by omega) h3
              simp at h2
              omega
            · exact hf
          refine ⟨.pointer (some ⟨b, o + i.toNat * (T e).size, none⟩), ?_, ?_⟩
          · simp [Instr.indexAt, asIntOf, run_underlying hu, TyOk.size hT hk, h0, h1, Addr.add_lit]
          · simp only [R]
            exact ⟨b, o, vs, rfl, hf', hl, hcl, hcell⟩
      · cases h
    · rename_i e l0 ver nl cs len sz0 hd
      split at h
      · rename_i hc
        obtain ⟨h0, h1, h2, h3⟩ := hc
        cases h
        have hu := TyOk.desc hT hd rfl
        simp only [DescOk] at hu
        have hk := hT.sub t (by rw [hd]; rfl) e (by rw [hd]; simp [AD.subs])
        have ha := ha.weak
        simp only [AV.weak, R] at ha
        rcases ha with ⟨_, _, rfl, rfl⟩ | ⟨_, b, o, cap, vs, rfl, hle, hmx, hex, hl, hcl, hf, hcell⟩
        · omega
        · have hf' : x.Fz b (o + cs.length) := by
            rcases hf with rfl | hf
            · have : 0 < len * (T e).size := Nat.mul_pos (by omega) h3
              simp at h2
              omega
            · exact hf
          refine ⟨.pointer (some ⟨b, o + i.toNat * (T e).size, none⟩), ?_, ?_⟩
          · simp [Instr.indexAt, asIntOf, run_underlying hu, TyOk.size hT hk, h0, h1, Addr.add_lit]
          · simp only [R]
            exact ⟨b, o, vs, rfl, hf', hl, hcl, hcell⟩
      · cases h
    · rename_i n e l off hd
      split at h
      · rename_i hc
        obtain ⟨h0, h1⟩ := hc
        cases h
        have hu := TyOk.desc hT hd rfl
        simp only [DescOk] at hu
        have hk := hT.sub t (by rw [hd]; rfl) e (by rw [hd]; simp [AD.subs])
        simp only [R] at ha
        obtain ⟨hl, hv0, rfl⟩ := ha
        refine ⟨.pointer (some ⟨(x.at_ l).1, (x.at_ l).2 + (off + i.toNat * (T e).size), none⟩), ?_, ?_⟩
        · simp [Instr.indexAt, Instr.sureAddr, asIntOf, run_underlying hu, TyOk.size hT hk, h0, h1, Addr.add_lit, Nat.add_assoc]
        · simpa [R] using ⟨hl, hv0⟩
      · cases h
    · rename_i n e cs off hd
      split at h
      · rename_i hc
        obtain ⟨h0, h1⟩ := hc
        cases h
        have hu := TyOk.desc hT hd rfl
        simp only [DescOk] at hu
        have hk := hT.sub t (by rw [hd]; rfl) e (by rw [hd]; simp [AD.subs])
        simp only [R] at ha
        obtain ⟨b, o, vs, rfl, hf, h3, h4, h5⟩ := ha
        refine ⟨.pointer (some ⟨b, o + (off + i.toNat * (T e).size), none⟩), ?_, ?_⟩
        · simp [Instr.indexAt, Instr.sureAddr, asIntOf, run_underlying hu, TyOk.size hT hk, h0, h1, Addr.add_lit, Nat.add_assoc]
        · simp only [R]
          exact ⟨b, o, vs, rfl, hf, h3, h4, h5⟩
      · cases h
    · cases h
  · cases h

theorem index_sound {x : Cx} {t : TypeId} {a i v : AV} {u k : Value} (ha : R x a u) (hi : R x i k) (h : aindex T t a i = some v) : ∃ q, (Instr.index t u k).run P x.w = .ok q x.w ∧ R x v q := by
  unfold aindex at h
  split at h
  · rename_i kk i
    simp only [R] at hi
    subst hi
    split at h
    · rename_i s hd
      split at h
      · rename_i h0
        simp only [Option.map_eq_some_iff] at h
        obtain ⟨b, hb, rfl⟩ := h
        have hu := TyOk.desc hT hd rfl
        simp only [DescOk] at hu
        simp only [R] at ha
        subst ha
        obtain ⟨hlt, hb'⟩ := List.getElem?_eq_some_iff.1 hb
        refine ⟨.int .u8 b.toNat, ?_, rfl⟩
        have hbs : (⟨s.toArray⟩ : ByteArray)[i.toNat]? = some b := by
          have hlt' : i.toNat < ByteArray.size ⟨s.toArray⟩ := by simpa [ByteArray.size] using hlt
          rw [getElem?_pos (⟨s.toArray⟩ : ByteArray) i.toNat hlt']
          exact congrArg some hb'
        simp [Instr.index, asIntOf, run_underlying hu, h0, hbs]
      · cases h
    · rename_i n e cs hd
      split at h
      · rename_i hc
        obtain ⟨h0, h1⟩ := hc
        have hu := TyOk.desc hT hd rfl
        simp only [DescOk] at hu
        have hk := hT.sub t (by rw [hd]; rfl) e (by rw [hd]; simp [AD.subs])
        simp only [R] at ha
        obtain ⟨hcl, vs, rfl, hl⟩ := ha
        obtain ⟨q, h2, h3⟩ := part_sound hT hl hcl h x.w
        exact ⟨q, by simp [Instr.index, asIntOf, run_underlying hu, TyOk.size hT hk, h0, h1, h2], h3⟩
      · cases h
    · cases h
  · cases h
end
end Go.Abs
