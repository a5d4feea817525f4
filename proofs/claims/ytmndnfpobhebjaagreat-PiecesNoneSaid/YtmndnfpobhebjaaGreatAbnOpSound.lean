/- Each operation is what the abstract one says. -/
import Derived.Test.YtmndnfpobhebjaaGreatAbnBuiltin
namespace Go.Abs

theorem Out.of_val {x : Cx} {H : AH} {v : AV} {P : Program} {s : Sem Value} (hr : Rel x H) (h : ∃ q, s.run P x.w = .ok q x.w ∧ R x v q) : Out x H H v ((do Pure.pure (Next.value (← s)) : Sem Next).run P x.w) := by
  obtain ⟨q, h1, h2⟩ := h
  exact Out.of_value ⟨q, x, h1, Mv.refl H (Nat.le_refl _), hr, Keeps.refl x, h2⟩

theorem optM_sound {G : Nat → Option (List AV)} {x : Cx} {fr : List AV} {a : Act} (hG : GOk G x) (hl : RL x fr a.tmps.toList) {o : Option Operand} {v : Option AV} (h : o.mapM (aval G fr) = some v) : RO x v (o.map a.eval) := by
  cases o with
  | none => simp at h; subst h; trivial
  | some o =>
    simp only [Option.mapM_some, Option.map_eq_map, Option.map_eq_some_iff] at h
    obtain ⟨w, hw, rfl⟩ := h
    exact aval_sound hG hl hw

section
variable {P : Program} {T : TT} (hT : TyOk P T)
include hT

theorem aop_sound {G : Nat → Option (List AV)} {x : Cx} {H H' : AH} {fr : List AV} {a : Act} (hr : Rel x H) (hG : GOk G x) (hl : RL x fr a.tmps.toList) (o : Oper) {v : AV} (h : aop T G fr H o.op = some (v, H')) :
    Out x H H' v ((execOp a.eval o).run P x.w) := by
  obtain ⟨dst, op, ty, pos, after, guard⟩ := o
  simp only at h
  unfold execOp
  simp only
  unfold aop at h
  split at h
  · -- move
    rename_i o
    simp only [Option.map_eq_some_iff] at h
    obtain ⟨u, hu, h⟩ := h
    cases h
    exact Out.pure hr (aval_sound hG hl hu) rfl
  · rename_i o
    simp only [Option.map_eq_some_iff] at h
    obtain ⟨u, hu, h⟩ := h
    cases h
    exact Out.pure hr (aval_sound hG hl hu) rfl
  · -- pick
    rename_i c p q
    split at h
    · rename_i t pv qv ht hp hq
      cases h
      have hc := aval_sound hG hl ht
      simp only [R] at hc
      cases t with
      | true => exact Out.pure hr (aval_sound hG hl hp) (by simp [hc, asBool])
      | false => exact Out.pure hr (aval_sound hG hl hq) (by simp [hc, asBool])
    · cases h
  · -- alloc
    rename_i e
    split at h
    · rename_i hk
      cases h
      obtain ⟨w', h1, h2, h3, h4⟩ := alloc_sound hT hr hk
      exact Out.of_value ⟨_, _, h1, h2, h3, h4, row_ptr w' hr.N⟩
    · cases h
  · -- box
    rename_i e o
    simp only [Option.map_eq_some_iff, Option.bind_eq_some_iff] at h
    obtain ⟨cs, ⟨u, hu, hc⟩, h⟩ := h
    cases h
    obtain ⟨w', h1, h2, h3, h4⟩ := box_sound (P := P) (t := e) hr (aval_sound hG hl hu) hc
    exact Out.of_value ⟨_, _, h1, h2, h3, h4, row_ptr w' hr.N⟩
  · -- build
    rename_i t parts
    split at h
    · rename_i ps hps
      obtain ⟨p1, p2⟩ := parts_sound hG hl hps
      split at h
      · rename_i fs hd
        simp only [Option.map_eq_some_iff] at h
        obtain ⟨cs, hcs, h⟩ := h
        cases h
        exact Out.of_val hr (build_struct_sound hT hd p1 p2 hcs)
      · rename_i n e hd
        simp only [Option.map_eq_some_iff] at h
        obtain ⟨cs, hcs, h⟩ := h
        cases h
        exact Out.of_val hr (build_array_sound hT hd p1 p2 hcs)
      · cases h
    · cases h
  · -- buildSlice
    rename_i t n parts
    split at h
    · rename_i ps hps
      obtain ⟨p1, p2⟩ := parts_sound hG hl hps
      split at h
      · rename_i e hd
        split at h
        · rename_i hb
          simp only [Option.map_eq_some_iff] at h
          obtain ⟨cs, hcs, h⟩ := h
          cases h
          exact Out.of_value (buildSlice_sound hT hr hd hb.1 hb.2 p1 p2 hcs)
        · cases h
      · cases h
    · cases h
  · -- load
    rename_i t p
    simp only [Option.map_eq_some_iff, Option.bind_eq_some_iff] at h
    obtain ⟨q, ⟨u, hu, hq⟩, h⟩ := h
    cases h
    exact Out.of_val hr (aload_sound hT hr (aval_sound hG hl hu) hq)
  · -- store
    rename_i t p q
    split at h
    · rename_i pv qv hp hq
      simp only [Option.map_eq_some_iff] at h
      obtain ⟨H1, hs, h⟩ := h
      cases h
      obtain ⟨w', h1, h2, h3, h4⟩ := astore_sound hT hr (aval_sound hG hl hp) (aval_sound hG hl hq) hs
      refine ⟨undef, _, .inr ⟨?_, rfl⟩, h2, h3, h4, by simp only [R]; exact ⟨[], rfl, rfl⟩⟩
      simp [h1]
    · cases h
  · -- nilCheck
    rename_i o
    split at h
    · cases h
    · cases h
    · cases h
    · cases h
    · cases h
    · rename_i u h1 h2 h3 h4 hu
      cases h
      have hv := aval_sound hG hl hu
      refine Out.pure hr hv ?_
      dsimp only
      generalize a.eval o = q at hv ⊢
      cases v with
      | bool | int | str | nilmap => simp only [R] at hv; subst hv; rfl
      | nilptr => exact (h1 rfl).elim
      | nilif => exact (h2 rfl).elim
      | nilfn => exact (h3 rfl).elim
      | ptr | map => simp only [R] at hv; obtain ⟨_, _, rfl⟩ := hv; rfl
      | lptr => simp only [R] at hv; obtain ⟨_, _, _, rfl, _⟩ := hv; rfl
      | lit => simp only [R] at hv; rcases hv with ⟨_, rfl, _⟩ | ⟨_, _, _, _, _, rfl, _⟩ <;> rfl
      | ref => simp only [R] at hv; obtain ⟨_, _, _, _, _, rfl, _⟩ := hv; rfl
      | own => have hv := hv.weak; simp only [AV.weak, R] at hv; rcases hv with ⟨_, rfl, _⟩ | ⟨_, _, _, _, _, rfl, _⟩ <;> rfl
      | any => exact (h4 rfl).elim
      | fn => simp only [R] at hv; obtain ⟨_, _, rfl, _⟩ := hv; rfl
      | iface => simp only [R] at hv; obtain ⟨_, rfl, _⟩ := hv; rfl
      | agg => simp only [R] at hv; obtain ⟨_, _, rfl, _⟩ := hv; rfl
      | tup => simp only [R] at hv; obtain ⟨_, rfl, _⟩ := hv; rfl
  · -- binOp
    rename_i op t p q ty'
    split at h
    · rename_i pv qv hp hq
      simp only [Option.map_eq_some_iff] at h
      obtain ⟨r, hs, h⟩ := h
      cases h
      exact Out.of_val hr (abin_sound hT (aval_sound hG hl hp) (aval_sound hG hl hq) hs p q x.w)
    · cases h
  · -- unOp
    rename_i op t p
    simp only [Option.map_eq_some_iff, Option.bind_eq_some_iff] at h
    obtain ⟨q, ⟨u, hu, hq⟩, h⟩ := h
    cases h
    exact Out.of_val hr (aun_sound (aval_sound hG hl hu) hq P x.w)
  · -- convert
    rename_i s d p
    simp only [Option.bind_eq_some_iff] at h
    obtain ⟨u, hu, h⟩ := h
    exact Out.of_value (convert_sound hT hr (aval_sound hG hl hu) h)
  · -- makeFunc
    rename_i f first caps
    split at h
    · rename_i fs cs hf hc
      cases h
      have h1 := args_sound hG hl hf
      have h2 := args_sound hG hl hc
      refine Out.of_val hr ⟨.func (.func f) (first.map a.eval) (caps.map a.eval), rfl, ?_⟩
      simp only [R]
      exact ⟨(first.map a.eval).toList, (caps.map a.eval).toList, by rw [Array.toArray_toList, Array.toArray_toList], by simpa using h1, by simpa using h2⟩
    · cases h
  · -- makeSlice
    rename_i t n c
    split at h
    · rename_i nv cv hn hc
      exact Out.of_value (make_sound hT hr (aval_sound hG hl hn) (aval_sound hG hl hc) h)
    · cases h
  · -- slice
    rename_i t p lo hi mx
    split at h
    · rename_i pv lov hiv mxv hp hlo hhi hmx
      simp only [Option.map_eq_some_iff] at h
      obtain ⟨q, hq, h⟩ := h
      cases h
      exact Out.of_val hr (aslice_sound hT hr (aval_sound hG hl hp) (optM_sound hG hl hlo) (optM_sound hG hl hhi) (optM_sound hG hl hmx) hq)
    · cases h
  · -- fieldAddr
    rename_i s p f
    split at h
    · rename_i fs hd
      split at h
      · rename_i g l o hg hp
        split at h
        · cases h
        · rename_i hz
          cases h
          have hv := aval_sound hG hl hp
          simp only [R] at hv
          obtain ⟨hN, hv0, hv⟩ := hv
          refine Out.of_val hr ⟨.pointer (some ⟨(x.at_ l).1, (x.at_ l).2 + o + g.2.1, none⟩), ?_, ?_⟩
          · rw [hv]; exact fieldAddr_sound hT hd hg hz _ _
          · simp only [R, Nat.add_assoc]
            exact ⟨hN, hv0, trivial⟩
      · rename_i g cs o hg hp
        split at h
        · cases h
        · rename_i hz
          cases h
          have hv := aval_sound hG hl hp
          simp only [R] at hv
          obtain ⟨b, o', vs, hv, k1, k2, k3, k4⟩ := hv
          refine Out.of_val hr ⟨.pointer (some ⟨b, o' + o + g.2.1, none⟩), ?_, ?_⟩
          · rw [hv]; exact fieldAddr_sound hT hd hg hz _ _
          · simp only [R]
            exact ⟨b, o', vs, by rw [Nat.add_assoc], k1, k2, k3, k4⟩
      · cases h
    · cases h
  · -- field
    rename_i t p f
    split at h
    · rename_i fs hd
      split at h
      · rename_i g cs hg hp
        simp only [Option.map_eq_some_iff] at h
        obtain ⟨q, hq, h⟩ := h
        cases h
        exact Out.of_val hr (field_sound hT hd hg (aval_sound hG hl hp) hq)
      · cases h
    · cases h
  · -- indexAddr
    rename_i t p i
    split at h
    · rename_i pv iv hp hi
      simp only [Option.map_eq_some_iff] at h
      obtain ⟨q, hq, h⟩ := h
      cases h
      exact Out.of_val hr (indexAddr_sound hT (aval_sound hG hl hp) (aval_sound hG hl hi) hq)
    · cases h
  · -- index
    rename_i t p i
    split at h
    · rename_i pv iv hp hi
      simp only [Option.map_eq_some_iff] at h
      obtain ⟨q, hq, h⟩ := h
      cases h
      exact Out.of_val hr (index_sound hT (aval_sound hG hl hp) (aval_sound hG hl hi) hq)
    · cases h
  · -- extract
    rename_i p i
    split at h
    · rename_i cs hp
      simp only [Option.map_eq_some_iff] at h
      obtain ⟨q, hq, h⟩ := h
      cases h
      have hv := aval_sound hG hl hp
      simp only [R] at hv
      obtain ⟨vs, hv, hlv⟩ := hv
      obtain ⟨u, hu, hru⟩ := hlv.get hq
      refine Out.of_val hr ⟨u, ?_, hru⟩
      rw [hv]
      simp [Instr.extract, hu]
    · cases h
  · -- makeMap
    cases h
    obtain ⟨w', h1, h2, h3, h4, h5⟩ := makeMap_sound (P := P) hr ‹TypeId›
    simp only [Option.map_none]
    exact Out.of_value ⟨_, _, h1, h2, h3, h4, h5⟩
  · -- range
    simp only [Option.bind_eq_some_iff] at h
    obtain ⟨a, ha, h⟩ := h
    exact Out.of_value (range_sound hT hr (aval_sound hG hl ha) h)
  · -- entry
    simp only [Option.map_eq_some_iff, Option.bind_eq_some_iff] at h
    obtain ⟨q, ⟨a, ha, hq⟩, h⟩ := h
    cases h
    exact Out.of_val hr (entry_sound hr (aval_sound hG hl ha) hq)
  · -- lookup
    rename_i t m k ok
    split at h
    · rename_i mv kv hm hk
      simp only [Option.map_eq_some_iff] at h
      obtain ⟨q, hq, h⟩ := h
      cases h
      exact Out.of_val hr (lookup_sound hT hr (aval_sound hG hl hm) (aval_sound hG hl hk) hq)
    · cases h
  · -- mapUpdate
    rename_i t m k v
    split at h
    · rename_i mv kv vv hm hk hv
      simp only [Option.map_eq_some_iff] at h
      obtain ⟨H1, hs, h⟩ := h
      cases h
      obtain ⟨y, h1, h2, h3, h4⟩ := update_sound hT hr (aval_sound hG hl hm) (aval_sound hG hl hk) (aval_sound hG hl hv) hs
      refine ⟨undef, y, .inr ⟨?_, rfl⟩, h2, h3, h4, by simp only [R]; exact ⟨[], rfl, rfl⟩⟩
      simp [h1]
    · cases h
  · -- insert
    rename_i t m k v
    split at h
    · rename_i mv kv vv hm hk hv
      simp only [Option.map_eq_some_iff] at h
      obtain ⟨H1, hs, h⟩ := h
      cases h
      obtain ⟨y, h1, h2, h3, h4⟩ := update_sound hT hr (aval_sound hG hl hm) (aval_sound hG hl hk) (aval_sound hG hl hv) hs
      refine ⟨undef, y, .inr ⟨?_, rfl⟩, h2, h3, h4, by simp only [R]; exact ⟨[], rfl, rfl⟩⟩
      simp [h1]
    · cases h
  · -- builtins
    rename_i b args ts
    simp only [Option.bind_eq_some_iff] at h
    obtain ⟨as, has, h⟩ := h
    have h1 := args_sound hG hl has
    refine (?_ : Out x H H' v (Sem.run P (do let d ← resolve a.eval { callee := .builtin b, args := args, argTypes := ts } ty; invoke d.target d.args) x.w))
    simp only [resolve, Sem.run_bind, Sem.run_pure, Result.andThen_ok, invoke]
    exact builtin_sound hT hr (by simpa using h1) h
  · cases h
theorem aalt_sound {G : Nat → Option (List AV)} {x : Cx} {H H' : AH} {fr : List AV} {a : Act} (hr : Rel x H) (hG : GOk G x) (hl : RL x fr a.tmps.toList) (o : Oper) {j : Nat} {v : AV} (h : aalt T G fr H j o.op = some (v, H')) : Out x H H' v ((execOp a.eval o).run P x.w) := by
  obtain ⟨dst, op, ty, pos, after, guard⟩ := o
  simp only at h
  unfold execOp
  unfold aalt at h
  split at h
  · rename_i t len parts
    simp only [Option.map_eq_some_iff, Prod.mk.injEq] at h
    obtain ⟨v', h, rfl, rfl⟩ := h
    simp only
    unfold afrozen at h
    split at h
    · rename_i ps hps
      obtain ⟨p1, p2⟩ := parts_sound hG hl hps
      split at h
      · rename_i e hd
        split at h
        · rename_i hb
          simp only [Option.map_eq_some_iff] at h
          obtain ⟨cs, hcs, h⟩ := h
          cases h
          exact Out.of_value (buildSlice_frozen hT hr hd hb.1 hb.2 p1 p2 hcs)
        · cases h
      · cases h
    · cases h
  · rename_i args ts
    split at h
    · rename_i t u s y hts has
      have h1 := args_sound hG hl has
      simp only [RL] at h1
      obtain ⟨su, r1, e1, hs, yu, r2, e2, hy, e3⟩ := h1
      have hts' : ts = #[t, u] := by apply Array.ext'; simpa using hts
      have hargs : (args.map a.eval) = #[su, yu] := by apply Array.ext'; rw [Array.toList_map, e1, e2, e3]
      refine (?_ : Out x H H' v (Sem.run P (do let d ← resolve a.eval { callee := .builtin .append, args := args, argTypes := ts } ty; invoke d.target d.args) x.w))
      simp only [resolve, Sem.run_bind, Sem.run_pure, Result.andThen_ok, invoke]
      rw [hargs, hts']
      exact Out.of_value (appendF_sound hT hr hs hy h)
    · cases h
  · rename_i s d y
    simp only [Option.bind_eq_some_iff] at h
    obtain ⟨yv, hy, h⟩ := h
    exact Out.of_value (convertF_sound hT hr (aval_sound hG hl hy) h)
  · rename_i t n c
    split at h
    · rename_i nv cv hn hc
      exact Out.of_value (makeF_sound hT hr (aval_sound hG hl hn) (aval_sound hG hl hc) h)
    · cases h
  · cases h
end
end Go.Abs
