/- Slices of slices and of strings; lengths; the first cells. -/
import Derived.Test.YtmndnfpobhebjaaGreatAbnSoundA
import Derived.Laws.Slices
namespace Go.Abs

theorem extract_bytes (s : List UInt8) (l h : Nat) : (⟨s.toArray⟩ : ByteArray).extract l h = ⟨((s.take h).drop l).toArray⟩ := by
  apply ByteArray.ext
  rw [ByteArray.data_extract]
  apply Array.ext'
  simp [List.drop_take]

end Go.Abs
namespace Go.Abs
theorem bound_sound {P : Program} {w : World} {k : IntKind} {n : Int} {y l : Nat} (h0 : 0 ≤ n) (hl : n.toNat = l) (hy : l ≤ y) (c : BoundsCode) : (Instr.sliceBound (.int k n) y c).run P w = .ok l w := by
  unfold Instr.sliceBound
  have h1 : n ≤ (y : Int) := by omega
  simp [asIntOf, h0, h1, hl]

theorem numOf_sound {x : Cx} {v : AV} {u : Value} {l : Nat} (hr : R x v u) (h : numOf v = some l) : ∃ k n, u = .int k n ∧ 0 ≤ n ∧ n.toNat = l := by
  unfold numOf at h
  split at h
  · rename_i k n
    split at h
    · rename_i h0
      cases h
      simp only [R] at hr
      exact ⟨k, n, hr, h0, rfl⟩
    · cases h
  · cases h

/-- An optional bound. -/
def RO (x : Cx) : Option AV → Option Value → Prop
  | some a, some v => R x a v
  | none, none => True
  | _, _ => False

theorem bounds_sound {P : Program} {x : Cx} {isSlice : Bool} {len cap : Nat} {lo hi mx : Option AV} {lo' hi' mx' : Option Value} (h1 : RO x lo lo') (h2 : RO x hi hi') (h3 : RO x mx mx')
    {l h m : Nat} (hl : boundOf lo 0 = some l) (hh : boundOf hi len = some h) (hm : boundOf mx cap = some m)
    (hlh : l ≤ h) (hhm : h ≤ m) (hmc : m ≤ cap) (hfull : mx.isSome = true → hi.isSome = true) (w : World) : (Instr.sliceBounds isSlice len cap lo' hi' mx').run P w = .ok (l, h, m) w := by
  unfold Instr.sliceBounds
  cases mx with
  | some mv =>
    cases mx' with
    | none => exact h3.elim
    | some mu =>
      obtain ⟨k3, n3, rfl, a3, b3⟩ := numOf_sound h3 hm
      cases hi with
      | none => simp at hfull
      | some hv =>
        cases hi' with
        | none => exact h2.elim
        | some hu =>
          obtain ⟨k2, n2, rfl, a2, b2⟩ := numOf_sound h2 hh
          cases lo with
          | none =>
            cases lo' with
            | some _ => exact h1.elim
            | none =>
              cases hl
              simp [bound_sound a3 b3 hmc, bound_sound a2 b2 hhm]
          | some lv =>
            cases lo' with
            | none => exact h1.elim
            | some lu =>
              obtain ⟨k1, n1, rfl, a1, b1⟩ := numOf_sound h1 hl
              simp [bound_sound a3 b3 hmc, bound_sound a2 b2 hhm, bound_sound a1 b1 hlh]
  | none =>
    cases mx' with
    | some _ => exact h3.elim
    | none =>
      cases hm
      cases hi with
      | none =>
        cases hi' with
        | some _ => exact h2.elim
        | none =>
          cases hh
          cases lo with
          | none =>
            cases lo' with
            | some _ => exact h1.elim
            | none =>
              cases hl
              simp
          | some lv =>
            cases lo' with
            | none => exact h1.elim
            | some lu =>
              obtain ⟨k1, n1, rfl, a1, b1⟩ := numOf_sound h1 hl
              simp [bound_sound a1 b1 hlh]
      | some hv =>
        cases hi' with
        | none => exact h2.elim
        | some hu =>
          obtain ⟨k2, n2, rfl, a2, b2⟩ := numOf_sound h2 hh
          cases lo with
          | none =>
            cases lo' with
            | some _ => exact h1.elim
            | none =>
              cases hl
              simp [bound_sound a2 b2 hhm]
          | some lv =>
            cases lo' with
            | none => exact h1.elim
            | some lu =>
              obtain ⟨k1, n1, rfl, a1, b1⟩ := numOf_sound h1 hl
              simp [bound_sound a2 b2 hhm, bound_sound a1 b1 hlh]

section
variable {P : Program} {T : TT} (hT : TyOk P T)
include hT

/-- A part of a frozen slice. -/
theorem lit_part {x : Cx} {nl ex : Bool} {cs : List AV} {len : Nat} {u : Value} (ha : R x (.lit nl ex cs len) u) {t e : TypeId} (hd : (T t).d = .slice e) {lo hi mx : Option Value} {l h m : Nat} (hlh : l ≤ h) (hhm : h ≤ m) (hhl : h ≤ len) (hcs : h * (T e).size ≤ cs.length)
    (hb : ∀ cap, len ≤ cap → (ex = true → cap = len) → m ≤ cap → (Instr.sliceBounds true len cap lo hi mx).run P x.w = .ok (l, h, if mx.isSome then m else cap) x.w) (hm : m ≤ len) :
    ∃ q, (Instr.sliceAt t u lo hi mx).run P x.w = .ok q x.w ∧ R x (.lit nl (if mx.isSome then m == h else ex && h == len) ((cs.take (h * (T e).size)).drop (l * (T e).size)) (h - l)) q := by
  have hu := TyOk.desc hT hd rfl
  simp only [DescOk] at hu
  have hk := hT.sub t (by rw [hd]; rfl) e (by rw [hd]; simp [AD.subs])
  simp only [R] at ha
  rcases ha with ⟨rfl, rfl, rfl, rfl⟩ | ⟨rfl, b, o, cap, vs, rfl, hle, hmx, hex, hl, hcl, hf, hcell⟩
  · have h0 : h = 0 := by omega
    have l0 : l = 0 := by omega
    subst h0 l0
    have := hb 0 (Nat.le_refl _) (fun _ => rfl) (by omega)
    refine ⟨.slice none 0 0, ?_, ?_⟩
    · have hm0 : (if mx.isSome = true then m else 0) = 0 := by split <;> omega
      simp [Instr.sliceAt, Instr.slice, run_underlying hu, this, TyOk.size hT hk, hm0]
    · simp [R]
  · have hb' := hb cap hle hex (by omega)
    generalize hM : (if mx.isSome = true then m else cap) = M at hb'
    have hMh : h ≤ M := by rw [← hM]; split <;> omega
    refine ⟨.slice (some ⟨b, if M = l then o else o + l * (T e).size, none⟩) (h - l) (M - l), ?_, ?_⟩
    · simp only [Instr.sliceAt, Instr.slice, Sem.run_bind, run_underlying hu, Result.andThen_ok, hb', TyOk.size hT hk, Sem.run_pure]
      congr 2
      by_cases e1 : M = l <;> simp [e1, Addr.add_lit]
    · simp only [R]
      refine .inr ⟨trivial, b, _, _, (vs.take (h * (T e).size)).drop (l * (T e).size), rfl, by omega, by rw [← hM] at hMh ⊢; split <;> omega, fun he => ?_, (hl.take _).drop _, fun a ha => hcl a (List.mem_of_mem_take (List.mem_of_mem_drop ha)), ?_, fun i u hu => ?_⟩
      · rw [← hM]
        by_cases hq : mx.isSome = true
        · simp only [hq, if_true] at he ⊢
          have : m = h := by simpa using he
          omega
        · simp only [hq, if_false, Bool.false_eq_true] at he ⊢
          simp only [Bool.and_eq_true, beq_iff_eq] at he
          have := hex he.1
          omega
      · rcases hf with rfl | hf
        · left; simp
        · rcases Nat.lt_or_ge (l * (T e).size) (h * (T e).size) with hlt | hge
          · have hne : M ≠ l := by
              intro e1
              have : h = l := by omega
              subst this
              omega
            rw [if_neg hne]
            refine .inr (hf.le ?_)
            simp
            omega
          · left
            simp
            omega
      · rw [List.getElem?_drop, List.getElem?_take] at hu
        split at hu
        · rename_i hlt
          have hlt' : l * (T e).size < h * (T e).size := by omega
          have hne : M ≠ l := by
            intro e1
            have : h = l := by omega
            subst this
            omega
          rw [if_neg hne, Nat.add_assoc]
          exact hcell _ _ hu
        · cases hu

theorem ref_part {x : Cx} {ex : Bool} {bl off len sz : Nat} {u : Value} (ha : R x (.ref ex bl off len sz) u) {t e : TypeId} (hd : (T t).d = .slice e) (hs : (T e).size = sz) {lo hi mx : Option Value} {l h m : Nat} (hlh : l ≤ h) (hhm : h ≤ m) (hhl : h ≤ len)
    (hb : ∀ cap, len ≤ cap → (ex = true → cap = len) → m ≤ cap → (Instr.sliceBounds true len cap lo hi mx).run P x.w = .ok (l, h, if mx.isSome then m else cap) x.w) (hm : m ≤ len) :
    ∃ q, (Instr.sliceAt t u lo hi mx).run P x.w = .ok q x.w ∧ R x (.ref (if mx.isSome then m == h else ex && h == len) bl (off + l * sz) (h - l) sz) q := by
  have hu := TyOk.desc hT hd rfl
  simp only [DescOk] at hu
  have hk := hT.sub t (by rw [hd]; rfl) e (by rw [hd]; simp [AD.subs])
  simp only [R] at ha
  obtain ⟨hN, hv0, cap, S, o, rfl, ho, hle, hmx, hex, hS, hSc⟩ := ha
  have hb' := hb cap hle hex (by omega)
  generalize hM : (if mx.isSome = true then m else cap) = M at hb'
  have hMh : h ≤ M := by rw [← hM]; split <;> omega
  have hMc : M ≤ cap := by rw [← hM]; split <;> omega
  refine ⟨.slice (some ⟨(x.at_ bl).1, if M = l then o else o + l * sz, none⟩) (h - l) (M - l), ?_, ?_⟩
  · simp only [Instr.sliceAt, Instr.slice, Sem.run_bind, run_underlying hu, Result.andThen_ok, hb', TyOk.size hT hk, Sem.run_pure, hs]
    congr 2
    by_cases e1 : M = l <;> simp [e1, Addr.add_lit]
  · simp only [R]
    refine ⟨hN, hv0, M - l, S, _, rfl, fun hp => ?_, by omega, by omega, fun he => ?_, hS, ?_⟩
    · rw [if_neg (by omega), ho (by omega)]
      omega
    · rw [← hM]
      by_cases hq : mx.isSome = true
      · simp only [hq, if_true] at he ⊢
        have : m = h := by simpa using he
        omega
      · simp only [hq, if_false, Bool.false_eq_true] at he ⊢
        simp only [Bool.and_eq_true, beq_iff_eq] at he
        have := hex he.1
        omega
    · have h1 : l * sz + (M - l) * sz ≤ cap * sz := by
        rw [← Nat.add_mul]
        exact Nat.mul_le_mul_right _ (by omega)
      omega
end

section
variable {P : Program} {T : TT} (hT : TyOk P T)
include hT
theorem aslice_sound {x : Cx} {H : AH} (hr : Rel x H) {t : TypeId} {a v : AV} {u : Value} {lo hi mx : Option AV} {lo' hi' mx' : Option Value} (ha : R x a u) (h1 : RO x lo lo') (h2 : RO x hi hi') (h3 : RO x mx mx') (h : aslice T H t a lo hi mx = some v) :
    ∃ q, (Instr.sliceAt t u lo' hi' mx').run P x.w = .ok q x.w ∧ R x v q := by
  have hso : mx'.isSome = mx.isSome := by cases mx <;> cases mx' <;> first | rfl | exact h3.elim
  unfold aslice at h
  split at h
  · rename_i s hd
    split at h
    · rename_i l h' hl hh
      split at h
      · rename_i hc
        cases h
        have hu := TyOk.desc hT hd rfl
        simp only [DescOk] at hu
        simp only [R] at ha
        subst ha
        cases mx' with
        | some _ => exact h3.elim
        | none =>
          have hsz : ByteArray.size ⟨s.toArray⟩ = s.length := by simp [ByteArray.size]
          have hb := bounds_sound (P := P) (x := x) (isSlice := false) (len := s.length) (cap := s.length) h1 h2 h3 hl hh (show boundOf none s.length = some s.length from rfl) hc.1 hc.2 (Nat.le_refl _) (by simp) x.w
          refine ⟨.string ⟨((s.take h').drop l).toArray⟩, ?_, rfl⟩
          simp [Instr.sliceAt, Instr.slice, run_underlying hu, hsz, hb, extract_bytes]
      · cases h
    · cases h
  · rename_i e nl ex cs len hd
    split at h
    · rename_i l h' m hl hh hm
      split at h
      · rename_i hc
        cases h
        obtain ⟨c1, c2, c3, c4, c5⟩ := hc
        have := lit_part hT ha hd (lo := lo') (hi := hi') (mx := mx') c1 c2 (by omega) c4 (fun cap hcap hex hmc => ?_) c3
        · rw [hso] at this; exact this
        · cases mx with
          | some mv =>
            rw [hso]
            exact bounds_sound h1 h2 h3 hl hh (by simpa [boundOf] using hm) c1 c2 hmc c5 x.w
          | none =>
            rw [hso]
            simp only [boundOf, Option.some.injEq] at hm
            subst hm
            exact bounds_sound h1 h2 h3 hl hh (show boundOf none cap = some cap from rfl) c1 (by omega) (Nat.le_refl _) (by simp) x.w
      · cases h
    · cases h
  · rename_i e l0 ver nl cs len sz0 hd
    split at h
    · rename_i l h' m hl hh hm
      split at h
      · rename_i hc
        cases h
        obtain ⟨c1, c2, c3, c4, c5⟩ := hc
        have := lit_part hT ha.weak hd (lo := lo') (hi := hi') (mx := mx') c1 c2 (by omega) c4 (fun cap hcap hex hmc => ?_) c3
        · rw [hso] at this; exact this
        · cases mx with
          | some mv =>
            rw [hso]
            exact bounds_sound h1 h2 h3 hl hh (by simpa [boundOf] using hm) c1 c2 hmc c5 x.w
          | none =>
            rw [hso]
            simp only [boundOf, Option.some.injEq] at hm
            subst hm
            exact bounds_sound h1 h2 h3 hl hh (show boundOf none cap = some cap from rfl) c1 (by omega) (Nat.le_refl _) (by simp) x.w
      · cases h
    · cases h
  · rename_i e ex b off len sz hd
    split at h
    · rename_i l h' m hl hh hm
      split at h
      · rename_i hc
        cases h
        obtain ⟨c1, c2, c3, c4, c5⟩ := hc
        have := ref_part hT ha hd c4 (lo := lo') (hi := hi') (mx := mx') c1 c2 (by omega) (fun cap hcap hex hmc => ?_) c3
        · rw [hso] at this; exact this
        · cases mx with
          | some mv =>
            rw [hso]
            exact bounds_sound h1 h2 h3 hl hh (by simpa [boundOf] using hm) c1 c2 hmc c5 x.w
          | none =>
            rw [hso]
            simp only [boundOf, Option.some.injEq] at hm
            subst hm
            exact bounds_sound h1 h2 h3 hl hh (show boundOf none cap = some cap from rfl) c1 (by omega) (Nat.le_refl _) (by simp) x.w
      · cases h
    · cases h
  · rename_i n e b off hd
    split at h
    · rename_i cs l h' hb' hl hh
      split at h
      · rename_i hc
        cases h
        obtain ⟨c1, c2, c3, c4⟩ := hc
        have hu := TyOk.desc hT hd rfl
        simp only [DescOk] at hu
        have hk := hT.sub t (by rw [hd]; rfl) e (by rw [hd]; simp [AD.subs])
        simp only [R] at ha
        obtain ⟨hN, hv0, rfl⟩ := ha
        cases mx' with
        | some _ => exact h3.elim
        | none =>
          have hb := bounds_sound (P := P) (x := x) (isSlice := false) (len := n) (cap := n) h1 h2 h3 hl hh (show boundOf none n = some n from rfl) c3 c4 (Nat.le_refl _) (by simp) x.w
          obtain ⟨_, c, ty, fz, vs, hc1, hc2, hc3, hc4, hc5, hc6⟩ := hr.block b _ hb'
          refine ⟨.slice (some ⟨(x.at_ b).1, if n = l then (x.at_ b).2 + off else (x.at_ b).2 + off + l * (T e).size, none⟩) (h' - l) (n - l), ?_, ?_⟩
          · simp only [Instr.sliceAt, Sem.run_bind, run_underlying hu, Result.andThen_ok, Instr.sureAddr, Sem.run_pure, hb, TyOk.size hT hk]
            congr 2
            by_cases e1 : n = l <;> simp [e1, Addr.add_lit]
          · simp only [R]
            refine ⟨hN, hv0, n - l, c.size, _, rfl, fun hp => ?_, by omega, by omega, fun he => ?_, bsz_of hc1, ?_⟩
            · rw [if_neg (by omega)]; omega
            · have : h' = n := by simpa using he
              omega
            · have h5 : l * (T e).size + (n - l) * (T e).size ≤ n * (T e).size := by
                rw [← Nat.add_mul]
                exact Nat.mul_le_mul_right _ (by omega)
              omega
      · cases h
    · cases h
  · cases h
end

/-- The length. -/
theorem alen_sound {P : Program} {x : Cx} {a : AV} {u : Value} {n : Nat} (ha : R x a u) (h : alen a = some n) (w : World) : (Builtin.lenOf u).run P w = .ok n w := by
  unfold alen at h
  split at h
  · cases h
    simp only [R] at ha
    rcases ha with ⟨_, rfl, _, rfl⟩ | ⟨_, b, o, cap, vs, rfl, _⟩ <;> simp [Builtin.lenOf]
  · cases h
    have ha := ha.weak
    simp only [AV.weak, R] at ha
    rcases ha with ⟨_, rfl, _, rfl⟩ | ⟨_, b, o, cap, vs, rfl, _⟩ <;> simp [Builtin.lenOf]
  · cases h
    simp only [R] at ha
    obtain ⟨_, _, cap, S, o, rfl, _⟩ := ha
    simp [Builtin.lenOf]
  · cases h
    simp only [R] at ha
    subst ha
    simp [Builtin.lenOf, ByteArray.size]
  · cases h

/-- The first n elements' cells; in any world that has the same heap. -/
theorem acells_sound {P : Program} {x : Cx} {H : AH} (hr : Rel x H) {a : AV} {u : Value} {n sz : Nat} {cs : List AV} (ha : R x a u) (h : acells H (n * sz) a = some cs) (hstr : ∀ s, a = .str s → sz = 1) (hn : ∀ len, alen a = some len → n ≤ len) :
    ∃ vs, RL x cs vs ∧ (∀ c ∈ cs, c.isCell = true) ∧ vs.length = n * sz ∧ ∀ w : World, w.heap = x.w.heap → (Builtin.firstCells sz n u).run P w = .ok vs.toArray w := by
  unfold acells at h
  split at h
  · rename_i nl ex cs' len
    split at h
    · rename_i hn'
      cases h
      simp only [R] at ha
      rcases ha with ⟨rfl, rfl, rfl, rfl⟩ | ⟨rfl, b, o, cap, vs, rfl, hle, hmx, hex, hl, hcl, hf, hcell⟩
      · have h0 : n * sz = 0 := by simpa using hn'
        exact ⟨[], by simp [RL], by simp, by simp [h0], fun w hw => by simp [Builtin.firstCells]⟩
      · have hlen : (vs.take (n * sz)).length = n * sz := by have := hl.length; simp; omega
        refine ⟨vs.take (n * sz), hl.take _, fun a ha => hcl a (List.mem_of_mem_take ha), hlen, fun w hw => ?_⟩
        refine run_firstCells_some w sz n ⟨b, o, none⟩ _ _ _ hlen (fun j v hj => ?_)
        rw [List.getElem?_take] at hj
        split at hj
        · rw [Addr.add_lit]
          have := hcell _ _ hj
          simp only [World.cell?] at this ⊢
          rw [hw]
          exact this
        · cases hj
    · cases h
  · rename_i l0 ver nl cs' len sz0
    split at h
    · rename_i hn'
      cases h
      have ha := ha.weak
      simp only [AV.weak, R] at ha
      rcases ha with ⟨rfl, rfl, rfl, rfl⟩ | ⟨rfl, b, o, cap, vs, rfl, hle, hmx, hex, hl, hcl, hf, hcell⟩
      · have h0 : n * sz = 0 := by simpa using hn'
        exact ⟨[], by simp [RL], by simp, by simp [h0], fun w hw => by simp [Builtin.firstCells]⟩
      · have hlen : (vs.take (n * sz)).length = n * sz := by have := hl.length; simp; omega
        refine ⟨vs.take (n * sz), hl.take _, fun a ha => hcl a (List.mem_of_mem_take ha), hlen, fun w hw => ?_⟩
        refine run_firstCells_some w sz n ⟨b, o, none⟩ _ _ _ hlen (fun j v hj => ?_)
        rw [List.getElem?_take] at hj
        split at hj
        · rw [Addr.add_lit]
          have := hcell _ _ hj
          simp only [World.cell?] at this ⊢
          rw [hw]
          exact this
        · cases hj
    · cases h
  · rename_i ex l off len sz'
    split at h
    · rename_i cs' hl'
      split at h
      · rename_i hn2
        cases h
        obtain ⟨vs, h1, h2, h3⟩ := Holds.cell (hr.block l _ hl').2
        simp only [R] at ha
        obtain ⟨hN, _, cap, S, o, rfl, ho, hle, hmx, hex, hS, hSc⟩ := ha
        have hlen : ((vs.drop off).take (n * sz)).length = n * sz := by have := h1.length; simp; omega
        refine ⟨(vs.drop off).take (n * sz), (h1.drop _).take _, fun a ha => h2 a (List.mem_of_mem_drop (List.mem_of_mem_take ha)), hlen, fun w hw => ?_⟩
        refine run_firstCells_some w sz n ⟨(x.at_ l).1, o, none⟩ _ _ _ hlen (fun j v hj => ?_)
        rw [List.getElem?_take] at hj
        split at hj
        · rename_i hlt
          rw [List.getElem?_drop] at hj
          have hn' := hn len rfl
          have : 0 < n := by
            rcases Nat.eq_zero_or_pos n with h0 | h0
            · subst h0; simp at hlt
            · exact h0
          rw [Addr.add_lit, ho (by omega)]
          have := h3 _ _ hj
          simp only [World.cell?] at this ⊢
          rw [hw, Nat.add_assoc]
          exact this
        · cases hj
      · cases h
    · cases h
  · rename_i s
    split at h
    · rename_i hn'
      cases h
      have := hstr s rfl
      subst this
      simp only [R] at ha
      subst ha
      rw [Nat.mul_one] at hn' ⊢
      refine ⟨(s.take n).map fun b => .int .u8 b.toNat, ?_, (by
        intro c hc
        obtain ⟨b, _, rfl⟩ := List.mem_map.1 hc
        rfl), by simp; omega, fun w hw => ?_⟩
      · refine RL.of_get (by simp) (fun i a v ha hv => ?_)
        rw [List.getElem?_map, Option.map_eq_some_iff] at ha hv
        obtain ⟨p, hp, rfl⟩ := ha
        obtain ⟨q, hq, rfl⟩ := hv
        rw [hp] at hq
        cases hq
        simp [R]
      · simp only [Builtin.firstCells, extract_bytes]
        simp
    · cases h
  · cases h
end Go.Abs
