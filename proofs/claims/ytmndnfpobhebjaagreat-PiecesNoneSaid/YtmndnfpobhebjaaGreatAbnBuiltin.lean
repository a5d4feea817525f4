/- The builtins: sound. -/
import Derived.Test.YtmndnfpobhebjaaGreatAbnIter
namespace Go.Abs

theorem Out.of_value {x : Cx} {H H' : AH} {v : AV} {P : Program} {s : Sem Value} (h : OutV x H H' v (s.run P x.w)) : Out x H H' v ((do Pure.pure (Next.value (← s)) : Sem Next).run P x.w) := by
  obtain ⟨u, y, h1, h2⟩ := h
  exact ⟨u, y, .inl (run_value h1), h2⟩

section
variable {P : Program} {T : TT} (hT : TyOk P T)
include hT

theorem len_sound {x : Cx} {H H' : AH} (hr : Rel x H) {t ty : TypeId} {a v : AV} {u : Value} (ha : R x a u) (h : abuiltin T H .len #[t] [a] = some (v, H')) : OutV x H H' v ((Builtin.len_ #[t] ty #[u]).run P x.w) := by
  simp only [abuiltin] at h
  split at h
  · rename_i s hd
    cases h
    have hu := TyOk.desc hT hd rfl
    simp only [DescOk] at hu
    simp only [R] at ha
    subst ha
    have hsz : ByteArray.size ⟨s.toArray⟩ = s.length := by simp [ByteArray.size]
    exact OutV.pure hr rfl (by simp [Builtin.len_, run_underlying hu, goInt, hsz])
  · rename_i e nl ex cs n hd
    cases h
    have hu := TyOk.desc hT hd rfl
    simp only [DescOk] at hu
    simp only [R] at ha
    rcases ha with ⟨_, rfl, _, rfl⟩ | ⟨_, b, o, cap, vs, rfl, _⟩
    · exact OutV.pure hr rfl (by simp [Builtin.len_, run_underlying hu, goInt])
    · exact OutV.pure hr rfl (by simp [Builtin.len_, run_underlying hu, goInt])
  · rename_i e l0 ver nl cs n sz0 hd
    cases h
    have hu := TyOk.desc hT hd rfl
    simp only [DescOk] at hu
    have ha := ha.weak
    simp only [AV.weak, R] at ha
    rcases ha with ⟨_, rfl, _, rfl⟩ | ⟨_, b, o, cap, vs, rfl, _⟩
    · exact OutV.pure hr rfl (by simp [Builtin.len_, run_underlying hu, goInt])
    · exact OutV.pure hr rfl (by simp [Builtin.len_, run_underlying hu, goInt])
  · rename_i e ex l off n sz hd
    cases h
    have hu := TyOk.desc hT hd rfl
    simp only [DescOk] at hu
    simp only [R] at ha
    obtain ⟨_, _, cap, S, o, rfl, _⟩ := ha
    exact OutV.pure hr rfl (by simp [Builtin.len_, run_underlying hu, goInt])
  · rename_i n e hd
    cases h
    have hu := TyOk.desc hT hd rfl
    simp only [DescOk] at hu
    exact OutV.pure hr rfl (by simp [Builtin.len_, run_underlying hu, goInt])
  · rename_i k e hd
    simp only [Option.map_eq_some_iff] at h
    obtain ⟨v', hv, h⟩ := h
    cases h
    exact maplen_sound hT hr hd ha hv
  · cases h

theorem clear_sound {x : Cx} {H H' : AH} (hr : Rel x H) {t ty : TypeId} {a v : AV} {u : Value} (ha : R x a u) (h : abuiltin T H .clear #[t] [a] = some (v, H')) : OutV x H H' v ((Builtin.clear_ #[t] ty #[u]).run P x.w) := by
  simp only [abuiltin] at h
  split at h
  · rename_i e nl ex cs hd
    cases h
    have hu := TyOk.desc hT hd rfl
    simp only [DescOk] at hu
    simp only [R] at ha
    rcases ha with ⟨_, rfl, _⟩ | ⟨_, b, o, cap, vs, rfl, _⟩
    · exact OutV.pure (u := .tuple #[]) hr (by simp only [R]; exact ⟨[], rfl, rfl⟩) (by simp [Builtin.clear_, run_underlying hu])
    · exact OutV.pure (u := .tuple #[]) hr (by simp only [R]; exact ⟨[], rfl, rfl⟩) (by simp [Builtin.clear_, run_underlying hu])
  · rename_i e ex l off n sz hd
    have hu := TyOk.desc hT hd rfl
    simp only [DescOk] at hu
    have hk := hT.sub t (by rw [hd]; rfl) e (by rw [hd]; simp [AD.subs])
    simp only [R] at ha
    obtain ⟨hN, _, cap, S, o, rfl, ho, hle, _⟩ := ha
    split at h
    · rename_i hc
      obtain ⟨hsz, hn⟩ := hc
      subst hsz
      simp only [Option.map_eq_some_iff] at h
      obtain ⟨H1, hw, h⟩ := h
      cases h
      have ho' := ho (by omega)
      subst ho'
      obtain ⟨i, z, hi, hs, hb, hz, hzs, hm⟩ := (hT.ty e hk).info
      have hcl := RL.closed (x := x) hm
      have hzr := zeros_row hcl.1 n
      obtain ⟨w', g1, g2, g3, g4⟩ := write_sound hr hzr (fun a ha => by
        obtain ⟨l, hl, ha⟩ := List.mem_flatten.1 ha
        rw [(List.mem_replicate.1 hl).2] at ha
        exact hcl.2 a ha) hw P
      refine ⟨.tuple #[], _, ?_, g2, g3, g4, by simp only [R]; exact ⟨[], rfl, rfl⟩⟩
      have hzv : (zeroValue e).run P x.w = .ok z x.w := by simp [zeroValue, typeInfo, hi, hz]
      obtain ⟨n', rfl⟩ : ∃ n', n = n' + 1 := ⟨n - 1, by omega⟩
      have g1' : (storeCells ⟨(x.at_ l).1, (x.at_ l).2 + off, none⟩ (Builtin.zeroCells z.cells (n' + 1)).toList).run P x.w = .ok () w' := g1
      simp [Builtin.clear_, run_underlying hu, hzv, g1']
    · split at h
      · rename_i h0
        cases h
        subst h0
        exact OutV.pure (u := .tuple #[]) hr (by simp only [R]; exact ⟨[], rfl, rfl⟩) (by simp [Builtin.clear_, run_underlying hu])
      · cases h
  · cases h

omit hT in
theorem args_sound {G : Nat → Option (List AV)} {x : Cx} {fr : List AV} {a : Act} (hG : GOk G x) (hl : RL x fr a.tmps.toList) : ∀ {os : List Operand} {as : List AV}, os.mapM (aval G fr) = some as → RL x as (os.map a.eval)
  | [], as, h => by simp at h; subst h; simp [RL]
  | o :: os, as, h => by
    simp only [List.mapM_cons, Option.bind_eq_bind, Option.bind_eq_some_iff, Option.pure_def, Option.some.injEq] at h
    obtain ⟨v, hv, r, hr, rfl⟩ := h
    exact ⟨_, _, rfl, aval_sound hG hl hv, args_sound hG hl hr⟩

theorem builtin_sound {x : Cx} {H H' : AH} (hr : Rel x H) {b : Builtin} {ts : Array TypeId} {ty : TypeId} {cs : Array Bool} {as : List AV} {us : Array Value} {v : AV} (ha : RL x as us.toList) (h : abuiltin T H b ts as = some (v, H')) :
    Out x H H' v ((Go.builtin b ts ty cs us).run P x.w) := by
  have h0 := h
  unfold abuiltin at h
  split at h
  · rename_i t a hts
    obtain rfl : ts = #[t] := by apply Array.ext'; simpa using hts
    simp only [RL] at ha
    obtain ⟨u, r, e, hu, rfl⟩ := ha
    obtain rfl : us = #[u] := by apply Array.ext'; simpa using e
    exact Out.of_value (len_sound hT hr hu h0)
  · rename_i t u s a hts
    obtain rfl : ts = #[t, u] := by apply Array.ext'; simpa using hts
    simp only [RL] at ha
    obtain ⟨su, r, e, hs, au, r', e', ha, rfl⟩ := ha
    obtain rfl : us = #[su, au] := by apply Array.ext'; rw [e, e']
    exact Out.of_value (append_sound hT hr hs ha h)
  · rename_i t u s a hts
    obtain rfl : ts = #[t, u] := by apply Array.ext'; simpa using hts
    simp only [RL] at ha
    obtain ⟨su, r, e, hs, au, r', e', ha, rfl⟩ := ha
    obtain rfl : us = #[su, au] := by apply Array.ext'; rw [e, e']
    exact Out.of_value (copy_sound hT hr hs ha h)
  · rename_i k p k' q
    split at h
    · rename_i hk
      subst hk
      cases h
      simp only [RL] at ha
      obtain ⟨su, r, e, hs, au, r', e', ha, rfl⟩ := ha
      simp only [R] at hs ha
      subst hs ha
      rw [e'] at e
      refine Out.of_value (OutV.pure (u := .int k (if q < p then q else p)) hr (by simp only [R]) ?_)
      simp [Builtin.min_, e, Builtin.min2]
    · cases h
  · rename_i k p k' q
    split at h
    · rename_i hk
      subst hk
      cases h
      simp only [RL] at ha
      obtain ⟨su, r, e, hs, au, r', e', ha, rfl⟩ := ha
      simp only [R] at hs ha
      subst hs ha
      rw [e'] at e
      refine Out.of_value (OutV.pure (u := .int k (if q > p then q else p)) hr (by simp only [R]) ?_)
      simp [Builtin.max_, e, Builtin.max2]
    · cases h
  · rename_i t u s a hts
    obtain rfl : ts = #[t, u] := by apply Array.ext'; simpa using hts
    simp only [RL] at ha
    obtain ⟨su, r, e, hs, au, r', e', ha, rfl⟩ := ha
    obtain rfl : us = #[su, au] := by apply Array.ext'; rw [e, e']
    simp only [Option.map_eq_some_iff] at h
    obtain ⟨H1, hd, h⟩ := h
    cases h
    exact Out.of_value (delete_sound hT hr hs ha hd)
  · rename_i t a hts
    obtain rfl : ts = #[t] := by apply Array.ext'; simpa using hts
    simp only [RL] at ha
    obtain ⟨u, r, e, hu, rfl⟩ := ha
    obtain rfl : us = #[u] := by apply Array.ext'; simpa using e
    exact Out.of_value (clear_sound hT hr hu h0)
  · cases h
end
end Go.Abs
