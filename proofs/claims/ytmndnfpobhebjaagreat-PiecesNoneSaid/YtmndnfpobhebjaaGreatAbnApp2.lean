/- append, copy, make, slice literals, bytes and strings: sound. -/
import Derived.Test.YtmndnfpobhebjaaGreatAbnApp
namespace Go.Abs

/-- What an operation that hands back a value comes to. -/
def OutV (x : Cx) (H H' : AH) (v : AV) (r : Result Value) : Prop := ∃ u y, r = .ok u y.w ∧ Mv x.N x H y H' ∧ Rel y H' ∧ Keeps x y ∧ R y v u

theorem OutV.pure {x : Cx} {H : AH} {v : AV} {u : Value} {r : Result Value} (hr : Rel x H) (hv : R x v u) (h : r = .ok u x.w) : OutV x H H v r := ⟨u, x, h, Mv.refl H (Nat.le_refl _), hr, Keeps.refl x, hv⟩

theorem feeds_str {sz : Nat} {a : AV} (h : feeds sz a = true) : ∀ s, a = .str s → sz = 1 := fun s e => by subst e; simpa [feeds] using h

section
variable {P : Program} {T : TT} (hT : TyOk P T)
include hT

theorem row_desc {t : TypeId} (h : (T t).d.row = true) : ∃ d, P.underlying t = some d ∧ ∀ k, d ≠ .int k := by
  cases hd : (T t).d <;> rw [hd] at h <;> simp only [AD.row] at h <;> first | (cases h; done) | skip
  · have := TyOk.desc hT hd rfl
    exact ⟨_, this, fun k e => by cases e⟩
  · have := TyOk.desc hT hd rfl
    exact ⟨_, this, fun k e => by cases e⟩

omit hT in
/-- The frozen cells of a new row. -/
theorem R.frozen {x : Cx} {cs : List AV} {vs : List Value} {b o len cap : Nat} {ex : Bool} (h1 : len ≤ cap) (h2 : cap ≤ maxLen) (h3 : ex = true → cap = len) (hl : RL x cs vs) (hc : ∀ a ∈ cs, a.isCell = true) (hf : cs = [] ∨ x.Fz b (o + cs.length)) (hcell : ∀ i u, vs[i]? = some u → x.w.cell? ⟨b, o + i, none⟩ = some u) :
    R x (.lit false ex cs len) (.slice (some ⟨b, o, none⟩) len cap) := by
  simp only [R]
  exact .inr ⟨trivial, b, o, cap, vs, rfl, h1, h2, h3, hl, hc, hf, hcell⟩
/-- What 'append' comes to where the room does not do. -/
theorem grow_run {x : Cx} {sT xT ty e : TypeId} (hd : (T sT).d = .slice e) (hrow : (T xT).d.row = true) {n m cap : Nat} {base : Option Addr} {au : Value} {ovs nvs : List Value}
    (hml : (Builtin.lenOf au).run P x.w = .ok m x.w) (n3 : nvs.length = m * (T e).size) (o3 : ovs.length = n * (T e).size)
    (n4 : ∀ w : World, w.heap = x.w.heap → (Builtin.firstCells (T e).size m au).run P w = .ok nvs.toArray w) (o4 : ∀ w : World, w.heap = x.w.heap → (Builtin.firstCells (T e).size n (.slice base n cap)).run P w = .ok ovs.toArray w)
    (hf : fitsMore T e n m) (hg : cap < n + m) : ∃ g c, (Builtin.append_ #[sT, xT] ty #[.slice base n cap, au]).run P x.w = .ok (.slice (some ⟨x.w.heap.size, 0, none⟩) (n + m) g) (x.w.drew.alloc (.cells c e)) ∧ n + m ≤ g ∧ g ≤ maxLen ∧ c.size = g * (T e).size ∧ ∀ (j : Nat) (u : Value), (ovs ++ nvs)[j]? = some u → c[j]? = some u := by
  obtain ⟨d, hud, hdk⟩ := row_desc hT hrow
  have hu := TyOk.desc hT hd rfl
  simp only [DescOk] at hu
  have hk := hT.sub sT (by rw [hd]; rfl) e (by rw [hd]; simp [AD.subs])
  obtain ⟨i, z, hi, hsz, hby, hz, hzs, hzm⟩ := (hT.ty e hk).info
  obtain ⟨_, h63, hbytes⟩ := hf
  have hr1 := run_append_grow' (P := P) (w := x.w) (ty := ty) (base := base) (n := n) (cap := cap) (olds := ovs) (news := nvs) hu hud hdk hi hz hml (by rw [hsz]; exact n4 _ rfl) (by rw [hsz]; exact o4 _ rfl) hg h63 (by rw [hby]; exact hbytes)
  have hge := grownCap_ge x.w (n + m) cap e
  have hlm := grownCap_le_maxLen x.w (n + m) cap e h63
  generalize grownCap x.w (n + m) cap e = g at hr1 hge hlm
  refine ⟨g, _, hr1, hge, hlm, ?_, fun j u hj => ?_⟩
  · have : (Builtin.zeroCells z.cells (g - (n + m))).size = (g - (n + m)) * (T e).size := by simp [Builtin.zeroCells, hzs, hsz]
    simp only [Array.size_append, List.size_toArray, this, o3, n3, ← Nat.add_mul]
    congr 1
    omega
  · have hlt := (List.getElem?_eq_some_iff.1 hj).1
    rw [Array.getElem?_append, if_pos (by simpa using hlt)]
    simpa using hj
omit hT in
theorem drew_alloc {w : World} {o : Obj} : w.heap.size ≤ (w.drew.alloc o).heap.size ∧ (∀ k, k < w.heap.size → (w.drew.alloc o).heap[k]? = w.heap[k]?) ∧ (w.drew.alloc o).heap[w.heap.size]? = some o ∧ (w.drew.alloc o).heap.size = w.heap.size + 1 := by
  have h : (w.drew.alloc o).heap = w.heap.push o := rfl
  rw [h]
  refine ⟨by simp, fun k hk => ?_, by simp, by simp⟩
  rw [Array.getElem?_push, if_neg (by omega)]

theorem append_own {x : Cx} {H : AH} (hr : Rel x H) {sT xT ty e : TypeId} (hd : (T sT).d = .slice e) (hrow : (T xT).d.row = true) {l ver n m : Nat} {nl real : Bool} {cs new : List AV} {a : AV} {su au : Value} (hs : R x (.own l ver nl cs n (T e).size) su) (ha : R x a au) (hm : alen a = some m) (hfeed : feeds (T e).size a = true)
    (hnw : acells H (m * (T e).size) a = some new) (hroom : roomAt H l ver = some real) (hfit : fitsMore T e n m) :
    OutV x H (H.set l (.room (ver + 1) (real || !(m == 0)))) (.own l (ver + 1) (nl && m == 0) (cs ++ new) (n + m) (T e).size) ((Builtin.append_ #[sT, xT] ty #[su, au]).run P x.w) := by
  obtain ⟨d, hud, hdk⟩ := row_desc hT hrow
  have hu := TyOk.desc hT hd rfl
  simp only [DescOk] at hu
  have hk := hT.sub sT (by rw [hd]; rfl) e (by rw [hd]; simp [AD.subs])
  obtain ⟨i, z, hi, hsz, hby, hz, hzs, hzm⟩ := (hT.ty e hk).info
  have hl : H[l]? = some (.room ver real) := by
    unfold roomAt at hroom
    split at hroom
    · rename_i v r hv
      split at hroom
      · rename_i e1; cases hroom; rw [hv, e1]
      · cases hroom
    · cases hroom
  obtain ⟨g1, g2, g3, g4⟩ := hr.block l _ hl
  have hs0 := hs
  simp only [R] at hs
  obtain ⟨⟨hlN, hv0, hvl, hcl⟩, hs⟩ := hs
  obtain ⟨nvs, n1, n2, n3, n4⟩ := acells_sound (P := P) hr ha hnw (feeds_str hfeed) (fun len hl => by rw [hm] at hl; cases hl; exact Nat.le_refl _)
  have hml := alen_sound (P := P) ha hm x.w
  have hnl : new.length = m * (T e).size := by rw [← n1.length, n3]
  have oc : acells H (n * (T e).size) (.own l ver nl cs n (T e).size) = some cs := by simp [acells, hcl, List.take_of_length_le]
  obtain ⟨ovs, o1, o2, o3, o4⟩ := acells_sound (P := P) hr hs0 oc (fun q e' => by cases e') (fun len hl => by cases hl; exact Nat.le_refl _)
  have hlen : (cs ++ new).length = (n + m) * (T e).size := by rw [List.length_append, hcl, hnl, Nat.add_mul]
  have hcells : ∀ a ∈ cs ++ new, a.isCell = true := fun a ha => (List.mem_append.1 ha).elim (o2 a) (n2 a)
  -- a new row
  have hgrow : ∀ base cap, su = .slice base n cap → cap < n + m → m ≠ 0 → OutV x H (H.set l (.room (ver + 1) (real || !(m == 0)))) (.own l (ver + 1) (nl && m == 0) (cs ++ new) (n + m) (T e).size) ((Builtin.append_ #[sT, xT] ty #[su, au]).run P x.w) := by
    rintro base cap rfl hg hm0
    obtain ⟨g, c, hrun, c1, c2, c3, c4⟩ := grow_run hT (ty := ty) hd hrow hml n3 o3 n4 o4 hfit hg
    obtain ⟨d1, d2, d3, d4⟩ := drew_alloc (w := x.w) (o := .cells c e)
    have hrm : (real || !(m == 0)) = true := by simp [hm0]
    have hnl0 : (nl && m == 0) = false := by simp [hm0]
    rw [hrm, hnl0]
    have hec : (n + m) * (T e).size ≤ c.size := by rw [c3]; exact Nat.mul_le_mul_right _ c1
    obtain ⟨k1, k2, k3⟩ := hr.room hl (x.w.heap.size, (n + m) * (T e).size) true _ d1 (fun k hk _ => d2 k hk) (fun k m hf i _ => cell_block (d2 k (hr.Flt k m hf))) (fun k s hs => bsz_same (d2 k (bsz_lt hs)) hs) rfl rfl rfl (fun _ => .inr (Nat.le_refl _))
      (fun _ => ⟨c, e, (0, 0), d3, by simp, hec⟩)
    let Q : Nat → Nat → Prop := fun k q => k = x.w.heap.size ∧ q = (n + m) * (T e).size
    obtain ⟨q1, q2, q3⟩ := x.roomy_same l (x.w.heap.size, (n + m) * (T e).size) (ver + 1) true (x.w.drew.alloc (.cells c e))
    have hrel := k2.more (Q := Q) (fun k q hq => by rw [hq.1]; show _ < (x.w.drew.alloc (.cells c e)).heap.size; omega) (fun k q hq j b hb hbl he => by
      rcases set_get hb with ⟨rfl, rfl⟩ | ⟨ne, hb⟩
      · rw [q1, hq.2]; exact ⟨rfl, Nat.le_refl _⟩
      · rw [(x.roomy_other _ _ _ _ ne).1, hq.1] at he
        have := Own.lt hr ⟨j, ⟨b, hb, hbl⟩, rfl⟩
        omega)
    have hkeep := k3.trans (Cx.more_keeps _ Q)
    refine ⟨_, _, hrun, k1.more (Q := Q) (fun k q hq => .inr (by rw [hq.1]; exact Nat.le_refl _)), hrel, hkeep, ?_⟩
    simp only [R]
    refine ⟨⟨hlN, Nat.succ_pos _, Nat.le_of_eq q2.symm, hlen⟩, .inr ⟨trivial, x.w.heap.size, 0, g, ovs ++ nvs, rfl, c1, c2, RL.keeps hkeep _ _ (o1.append n1), hcells, .inr (.of (.inr ⟨rfl, by rw [hlen, Nat.zero_add]⟩)), fun j u hj => ?_, fun _ => .inr ⟨q3, ?_, g * (T e).size, ?_, ?_⟩⟩⟩
    · show (x.w.drew.alloc (.cells c e)).cell? _ = _
      rw [cell_of_row _ _ _ _ _ _ d3, Nat.zero_add]
      exact c4 j u hj
    · refine q1.trans ?_
      rw [hlen, Nat.zero_add]
    · show bsz (x.w.drew.alloc (.cells c e)) _ = _
      rw [bsz_of d3, c3]
    · omega
  by_cases hm0 : m = 0
  · -- nothing is appended
    subst hm0
    have hnil : nvs = [] := List.length_eq_zero_iff.1 (by rw [n3]; simp)
    have hnn : new = [] := by rw [hnil] at n1; simpa using n1.length.symm
    subst hnil hnn
    have hrm : (real || !(0 == 0)) = real := by simp
    have hnl0 : (nl && (0 : Nat) == 0) = nl := by simp
    rw [hrm, hnl0, List.append_nil, Nat.add_zero]
    obtain ⟨k1, k2, k3⟩ := hr.room hl (x.at_ l) real x.w (Nat.le_refl _) (fun _ _ _ => rfl) (fun _ _ _ _ _ => rfl) (fun _ _ h => h) rfl rfl rfl (fun e => .inl ⟨e, rfl, Nat.le_refl _⟩) (fun e => g4 e)
    obtain ⟨q1, q2, q3⟩ := x.roomy_same l (x.at_ l) (ver + 1) real x.w
    have hshape : ∃ base cap, su = .slice base n cap ∧ n ≤ cap := by
      rcases hs with ⟨_, rfl, _, rfl⟩ | ⟨_, b, o, cap, vs, rfl, hle, _⟩
      · exact ⟨_, _, rfl, Nat.le_refl _⟩
      · exact ⟨_, _, rfl, hle⟩
    refine ⟨su, _, ?_, k1, k2, k3, ?_⟩
    · obtain ⟨base, cap, rfl, hle⟩ := hshape
      exact run_append_room' (ty := ty) (base := base) (n := n) (cap := cap) hu hud hdk hi hml (by rw [hsz]; exact n4 x.w rfl) (by omega) (w' := x.w) (fun a _ => by simp [storeCells]) (fun _ => rfl)
    · have := R.keeps k3 _ _ hs0
      simp only [R] at this ⊢
      refine ⟨⟨hlN, Nat.succ_pos _, by rw [q2]; exact Nat.le_refl _, hcl⟩, ?_⟩
      rcases this.2 with h | ⟨h0, b, o, cap, vs, h1, h2, h3, h4, h5, h6, h7, _⟩
      · exact .inl h
      · refine .inr ⟨h0, b, o, cap, vs, h1, h2, h3, h4, h5, h6, h7, fun _ => ?_⟩
        rcases hs with ⟨hh, _⟩ | ⟨_, b', o', cap', vs', e', _, _, _, _, _, _, ht⟩
        · rw [h0] at hh; cases hh
        · rw [h1] at e'
          cases e'
          rcases ht g1 with ht | ⟨t1, t2, S, t3, t4⟩
          · exact .inl ht
          · exact .inr ⟨q3.trans (g3.symm.trans t1), q1.trans t2, S, t3, t4⟩
  · rcases hs with ⟨hh, rfl, rfl, rfl⟩ | ⟨hnl0, b, o, cap, vs, rfl, hle, hcm, hvs, hvc, hff, hcell, ht⟩
    · exact hgrow none 0 rfl (by omega) hm0
    · rcases Nat.lt_or_ge cap (n + m) with hg | hroom'
      · exact hgrow _ cap rfl hg hm0
      · -- in place
        rcases ht g1 with ht | ⟨t1, t2, S, t3, t4⟩
        · omega
        have hreal : real = true := g3.symm.trans t1
        subst hreal
        obtain ⟨c, t, fz, h1, h2, h3⟩ := g4 rfl
        rw [t2] at h1 h3
        simp only at h1 h3
        rw [bsz_of h1] at t3
        cases t3
        have hmul : (n + m) * (T e).size ≤ cap * (T e).size := Nat.mul_le_mul_right _ hroom'
        rw [Nat.add_mul] at hmul
        have hcellw : ∀ j, j < nvs.length → (x.w.cell? ⟨b, o + n * (T e).size + 0 + j, none⟩).isSome = true := fun j hj => by
          rw [cell_of_row _ _ _ _ _ _ h1, Array.getElem?_eq_getElem (by omega)]
          rfl
        have hfr : ∀ j, j < nvs.length → x.w.frozen? ⟨b, o + n * (T e).size + 0 + j, none⟩ = false := fun j hj => by
          have := h2 (o + n * (T e).size + 0 + j) (by omega)
          simp only [World.frozen?, h1]
          simpa using this
        have hst := run_storeCells_cells (P := P) b (o + n * (T e).size) nvs 0 x.w hcellw hfr (n1.oneCell n2)
        obtain ⟨c', k1, k2, k3, k4, k5⟩ := heap_setCells_same b nvs (o + n * (T e).size + 0) x.w c t fz h1
        obtain ⟨q1, q2, q3, q4⟩ := setCells_os b nvs (o + n * (T e).size + 0) x.w
        have hrun := run_append_room' (ty := ty) (base := some ⟨b, o, none⟩) (n := n) (cap := cap) hu hud hdk hi hml (by rw [hsz]; exact n4 x.w rfl) hroom'
          (w' := x.w.setCells b (o + n * (T e).size + 0) nvs) (fun a ha => by cases ha; rw [Addr.add_lit, hsz]; exact hst) (fun h => by cases h)
        generalize hW : x.w.setCells b (o + n * (T e).size + 0) nvs = W at *
        have hoth : ∀ k, k ≠ b → W.heap[k]? = x.w.heap[k]? := fun k hk => by rw [← hW]; exact heap_setCells_other _ _ _ _ _ hk
        have hFb : ∀ q, x.F b q → q ≤ o + n * (T e).size := fun q hq => by
          have := (hr.notF l _ hl rfl q (by rw [t2]; exact hq)).2
          rw [t2] at this
          simp only at this
          omega
        have hcellF : ∀ k q, x.F k q → ∀ i, i < q → W.cell? ⟨k, i, none⟩ = x.w.cell? ⟨k, i, none⟩ := fun k q hf i hi => by
          by_cases e : k = b
          · subst e
            rw [cell_of_row _ _ _ _ _ _ h1, cell_of_row _ _ _ _ _ _ k1]
            exact k3 i (by have := hFb q hf; omega)
          · exact cell_block (hoth k e)
        have hbs : ∀ k s, bsz x.w k = some s → bsz W k = some s := fun k s hs => by
          by_cases e : k = b
          · subst e
            rw [bsz_of h1] at hs
            rw [bsz_of k1, k2]
            exact hs
          · exact bsz_same (hoth k e) hs
        have hnl0' : (nl && m == 0) = false := by simp [hnl0]
        have hrm : (true || !(m == 0)) = true := rfl
        rw [hrm, hnl0']
        have hend : o + (cs ++ new).length = o + n * (T e).size + m * (T e).size := by rw [hlen, Nat.add_mul]; omega
        obtain ⟨r1, r2, r3⟩ := hr.room hl (b, o + (cs ++ new).length) true W (by omega) (fun k _ hk => hoth k (by have := hk rfl; rw [t2] at this; exact this)) hcellF hbs q1 q2 q3
          (fun _ => .inl ⟨rfl, by rw [t2], by rw [t2]; simp only; rw [hend]; omega⟩) (fun _ => ⟨c', t, fz, k1, fun i hi => h2 i (by omega), by rw [k2, hend]; omega⟩)
        let Q : Nat → Nat → Prop := fun k q => k = b ∧ q = o + (cs ++ new).length
        obtain ⟨s1, s2, s3⟩ := x.roomy_same l (b, o + (cs ++ new).length) (ver + 1) true W
        have hlive : Live H l := ⟨_, hl, rfl⟩
        have hbl : (x.at_ l).1 = b := by rw [t2]
        have hrel := r2.more (Q := Q) (fun k q hq => by rw [hq.1]; show b < W.heap.size; rw [q4]; exact heap_lt h1) (fun k q hq j bb hb hbl' he => by
          rcases set_get hb with ⟨rfl, rfl⟩ | ⟨ne, hb⟩
          · rw [s1, hq.2]; exact ⟨rfl, Nat.le_refl _⟩
          · rw [(x.roomy_other _ _ _ _ ne).1, hq.1] at he
            exact absurd (hr.inj l j hlive ⟨bb, hb, hbl'⟩ (by rw [hbl, he])) ne)
        have hkeep := r3.trans (Cx.more_keeps _ Q)
        refine ⟨_, _, hrun, r1.more (Q := Q) (fun k q hq => .inl ⟨l, hlive, by rw [hq.1, hbl]⟩), hrel, hkeep, ?_⟩
        simp only [R]
        refine ⟨⟨hlN, Nat.succ_pos _, Nat.le_of_eq s2.symm, hlen⟩, .inr ⟨trivial, b, o, cap, ovs ++ nvs, rfl, hroom', hcm, RL.keeps hkeep _ _ (o1.append n1), hcells, .inr (.of (.inr ⟨rfl, rfl⟩)), fun j u hj => ?_, fun _ => .inr ⟨s3, ?_, c'.size, ?_, ?_⟩⟩⟩
        · show W.cell? _ = _
          rw [cell_of_row _ _ _ _ _ _ k1]
          rw [List.getElem?_append] at hj
          split at hj
          · rename_i hlt
            rw [k3 _ (by omega)]
            have hvo : vs = ovs := by
              have w1 := o4 x.w rfl
              have w2 := run_firstCells_some (P := P) x.w (T e).size n ⟨b, o, none⟩ n cap vs (by rw [hvs.length, hcl]) (fun j v hj => by rw [Addr.add_lit]; exact hcell j v hj)
              rw [w2] at w1
              simpa using w1
            rw [← hvo] at hj
            have := hcell j u hj
            rw [cell_of_row _ _ _ _ _ _ h1] at this
            exact this
          · rename_i hge
            have hlt := (List.getElem?_eq_some_iff.1 hj).1
            have := k5 _ u hj (by omega)
            rw [show o + j = o + n * (T e).size + 0 + (j - ovs.length) by omega]
            exact this
        · exact s1
        · show bsz W _ = _
          rw [bsz_of k1]
        · rw [k2]; omega
theorem append_sound {x : Cx} {H H' : AH} (hr : Rel x H) {sT xT ty : TypeId} {s a v : AV} {su au : Value} (hs : R x s su) (ha : R x a au) (h : aappend T H sT xT s a = some (v, H')) :
    OutV x H H' v ((Builtin.append_ #[sT, xT] ty #[su, au]).run P x.w) := by
  unfold aappend at h
  split at h
  case h_2 => cases h
  rename_i e hd
  split at h
  case isFalse => cases h
  rename_i hc
  obtain ⟨hrow, hfeed, hns⟩ := hc
  split at h
  · -- with room of its own
    rename_i l ver nl cs n sz
    split at h
    · rename_i m hm
      split at h
      · rename_i new real hnw hroom
        split at h
        · rename_i hc2
          obtain ⟨hfit, rfl⟩ := hc2
          cases h
          exact append_own hT hr hd hrow hs ha hm hfeed hnw hroom hfit
        · cases h
      · cases h
    · cases h
  · rename_i hnown
    split at h
    case h_2 => cases h
    rename_i n m hn hm
    split at h
    case h_2 => cases h
    rename_i old new ho hnw
    obtain ⟨d, hud, hdk⟩ := row_desc hT hrow
    have hu := TyOk.desc hT hd rfl
    simp only [DescOk] at hu
    have hk := hT.sub sT (by rw [hd]; rfl) e (by rw [hd]; simp [AD.subs])
    obtain ⟨i, z, hi, hsz, hby, hz, hzs, hzm⟩ := (hT.ty e hk).info
    obtain ⟨ovs, o1, o2, o3, o4⟩ := acells_sound (P := P) hr hs ho (fun q e' => by subst e'; cases hns) (fun len hl => by rw [hn] at hl; cases hl; exact Nat.le_refl _)
    obtain ⟨nvs, n1, n2, n3, n4⟩ := acells_sound (P := P) hr ha hnw (feeds_str hfeed) (fun len hl => by rw [hm] at hl; cases hl; exact Nat.le_refl _)
    have hml := alen_sound (P := P) ha hm x.w
    have hshape : ∃ base cap, su = .slice base n cap ∧ n ≤ cap := by
      cases s <;> simp only [alen] at hn <;> first | (cases hn; done) | skip
      · cases hns
      · cases hn
        simp only [R] at hs
        rcases hs with ⟨_, rfl, _, rfl⟩ | ⟨_, b, o, cap, vs, rfl, hle, _⟩
        · exact ⟨_, _, rfl, Nat.le_refl _⟩
        · exact ⟨_, _, rfl, hle⟩
      · cases hn
        simp only [R] at hs
        obtain ⟨_, _, cap, S, o, rfl, _, hle, _⟩ := hs
        exact ⟨_, _, rfl, hle⟩
      · exact absurd rfl (hnown _ _ _ _ _ _)
    obtain ⟨base, cap, rfl, hcap⟩ := hshape
    split at h
    · -- nothing is appended
      rename_i h0
      subst h0
      cases h
      have hnil : nvs = [] := List.length_eq_zero_iff.1 (by rw [n3]; simp)
      subst hnil
      refine OutV.pure hr hs ?_
      have := run_append_room' (ty := ty) (base := base) (n := n) (cap := cap) hu hud hdk hi hml (by rw [hsz]; exact n4 x.w rfl) (by omega) (w' := x.w) (fun a _ => by simp [storeCells]) (fun _ => rfl)
      simpa using this
    · rename_i hm0
      split at h
      case isFalse => cases h
      rename_i hfit
      -- a new row
      have hgrow : cap < n + m → OutV x H (H ++ [.cells (old ++ new)]) (.ref false H.length 0 (n + m) (T e).size) ((Builtin.append_ #[sT, xT] ty #[.slice base n cap, au]).run P x.w) := by
        intro hg
        obtain ⟨g, c, hrun, c1, c2, c3, c4⟩ := grow_run hT (ty := ty) hd hrow hml n3 o3 n4 o4 hfit hg
        have hrow := hr.row (o1.append n1) (fun a ha => (List.mem_append.1 ha).elim (o2 a) (n2 a)) c e (0, 0) (by simp) c4 (by
            rw [c3, List.length_append, ← o1.length, ← n1.length, o3, n3, ← Nat.add_mul]
            exact Nat.mul_le_mul_right _ c1) (x.w.drew.alloc (.cells c e)) rfl rfl rfl rfl
        exact ⟨_, _, hrun, hrow.1, hrow.2.1, hrow.2.2, row_ref hr.N rfl c1 c2 (by simp) (by rw [c3]; exact Nat.le_refl _)⟩
      obtain ⟨hp, h63, hbytes⟩ := hfit
      split at h
      · -- a frozen slice without spare room
        rename_i nl cs len
        cases h
        refine hgrow ?_
        simp only [R] at hs
        rcases hs with ⟨_, hs, _⟩ | ⟨_, b, o, cap', vs, hs, _, _, hex, _⟩
        · cases hs; omega
        · cases hs
          have := hex trivial
          simp only [alen] at hn
          cases hn
          omega
      · rename_i l off len sz
        split at h
        · cases h
          refine hgrow ?_
          simp only [R] at hs
          obtain ⟨_, _, cap', S, o, hs, _, _, _, hex, _⟩ := hs
          cases hs
          have := hex trivial
          simp only [alen] at hn
          cases hn
          omega
        · cases h
      · rename_i l off len sz
        split at h
        case isFalse => cases h
        rename_i hsz'
        subst hsz'
        cases h
        simp only [alen, Option.some.injEq] at hn
        subst hn
        rcases Nat.lt_or_ge cap (len + m) with hg | hroom
        · -- it grows
          obtain ⟨u, y, e1, e2, e3, e4, e5⟩ := hgrow hg
          have hlt : l < H.length := by
            simp only [R] at hs
            rw [← hr.N]; exact hs.1
          have hset : (H ++ [AB.cells (old ++ new)]).set l .dead = H.set l .dead ++ [AB.cells (old ++ new)] := List.set_append_left _ _ hlt
          have hd1 := e3.dead l
          rw [hset] at hd1
          exact ⟨u, y, e1, e2.trans (hd1.2.mono e2.N), hd1.1, e4, e5⟩
        · -- in place
          simp only [acells] at ho
          split at ho
          case h_2 => cases ho
          rename_i cs hlc
          split at ho
          case isFalse => cases ho
          rename_i hoff
          cases ho
          obtain ⟨_, c, t, fz, us, g1, g2, g3, g4, g5, g6⟩ := hr.block l _ hlc
          simp only [R] at hs
          obtain ⟨hN, _, cap', S, o, hs, hoo, hle, hcm, hex, hS, hSc⟩ := hs
          cases hs
          have ho' := hoo (by omega)
          subst ho'
          rw [bsz_of g1] at hS
          cases hS
          have hmul : len * (T e).size + m * (T e).size ≤ cap * (T e).size := by rw [← Nat.add_mul]; exact Nat.mul_le_mul_right _ hroom
          have hcell : ∀ j, j < nvs.length → (x.w.cell? ⟨(x.at_ l).1, (x.at_ l).2 + off + len * (T e).size + 0 + j, none⟩).isSome = true := fun j hj => by
            rw [cell_of_row _ _ _ _ _ _ g1, Array.getElem?_eq_getElem (by omega)]
            rfl
          have hfr : ∀ j, j < nvs.length → x.w.frozen? ⟨(x.at_ l).1, (x.at_ l).2 + off + len * (T e).size + 0 + j, none⟩ = false := fun j hj => by
            have := g2 ((x.at_ l).2 + off + len * (T e).size + 0 + j) (by omega)
            simp only [World.frozen?, g1]
            simpa using this
          have hst := run_storeCells_cells (P := P) (x.at_ l).1 ((x.at_ l).2 + off + len * (T e).size) nvs 0 x.w hcell hfr (n1.oneCell n2)
          obtain ⟨c', k1, k2, k3, k4, k5⟩ := heap_setCells_same (x.at_ l).1 nvs ((x.at_ l).2 + off + len * (T e).size + 0) x.w c t fz g1
          obtain ⟨q1, q2, q3, q4⟩ := setCells_os (x.at_ l).1 nvs ((x.at_ l).2 + off + len * (T e).size + 0) x.w
          have hrun := run_append_room' (ty := ty) (base := some ⟨(x.at_ l).1, (x.at_ l).2 + off, none⟩) (n := len) (cap := cap) hu hud hdk hi hml (by rw [hsz]; exact n4 x.w rfl) hroom
            (w' := x.w.setCells (x.at_ l).1 ((x.at_ l).2 + off + len * (T e).size + 0) nvs) (fun a ha => by cases ha; rw [Addr.add_lit, hsz]; exact hst) (fun h => by cases h)
          generalize hW : x.w.setCells (x.at_ l).1 ((x.at_ l).2 + off + len * (T e).size + 0) nvs = W at *
          have hoth : ∀ k, k ≠ (x.at_ l).1 → W.heap[k]? = x.w.heap[k]? := fun k hk => by rw [← hW]; exact heap_setCells_other _ _ _ _ _ hk
          have hsame : ∀ s, bsz x.w (x.at_ l).1 = some s → bsz W (x.at_ l).1 = some s := fun s hs => by
            rw [bsz_of g1] at hs
            rw [bsz_of k1, k2]
            exact hs
          have hre := hr.reuse hlc rfl rfl ((x.at_ l).1, (x.at_ l).2 + off) rfl (.cells ((cs.drop off).take (len * (T e).size) ++ new)) rfl W q4 hoth hsame q1 q2 q3 (fun hk => by
            have hul := g3.length
            have hol : ((us.drop off).take (len * (T e).size)).length = len * (T e).size := by simp; omega
            refine ⟨x.new_ver _ _, c', t, fz, (us.drop off).take (len * (T e).size) ++ nvs, by rw [x.new_at]; exact k1, fun i hi => g2 i (by omega), RL.keeps hk _ _ (((g3.drop off).take _).append n1), ?_, fun i u hi' => ?_, fun a ha => ?_⟩
            · rw [List.length_append, ← ((g3.drop off).take (len * (T e).size)).length, hol, ← n1.length, n3, k2]
              rw [x.new_at]
              show (x.at_ l).2 + off + _ ≤ _
              omega
            · rw [x.new_at]
              show c'[(x.at_ l).2 + off + i]? = some u
              rw [List.getElem?_append] at hi'
              split at hi'
              · rename_i hlt
                rw [hol] at hlt
                rw [List.getElem?_take, if_pos hlt, List.getElem?_drop] at hi'
                rw [k3 _ (by omega), Nat.add_assoc]
                exact g5 _ u hi'
              · rename_i hge
                rw [hol] at hge hi'
                have hlt := (List.getElem?_eq_some_iff.1 hi').1
                have := k5 _ u hi' (by omega)
                rw [show (x.at_ l).2 + off + i = (x.at_ l).2 + off + len * (T e).size + 0 + (i - len * (T e).size) by omega]
                exact this
            · rcases List.mem_append.1 ha with h | h
              · exact g6 a (List.mem_of_mem_drop (List.mem_of_mem_take h))
              · exact n2 a h)
          refine ⟨_, _, hrun, hre.1, hre.2.1, hre.2.2, ?_⟩
          simp only [R]
          rw [← hr.N, x.new_at]
          refine ⟨Nat.lt_succ_self _, x.new_ver _ _, cap, c.size, _, rfl, fun _ => rfl, hroom, hcm, by simp, ?_, by show (x.at_ l).2 + off + 0 + _ ≤ _; omega⟩
          show bsz W (x.at_ l).1 = _
          rw [bsz_of k1, k2]
      · cases h

/-- 'append' to what has no spare room: what comes is never written to. -/
theorem appendF_sound {x : Cx} {H H' : AH} (hr : Rel x H) {own : Bool} {sT xT ty : TypeId} {s a v : AV} {su au : Value} (hs : R x s su) (ha : R x a au) (h : aappendF T H own sT xT s a = some (v, H')) :
    OutV x H H' v ((Builtin.append_ #[sT, xT] ty #[su, au]).run P x.w) := by
  unfold aappendF at h
  split at h
  case h_2 => cases h
  rename_i e hd
  split at h
  case isFalse => cases h
  rename_i hc
  obtain ⟨hrow, hfeed⟩ := hc
  split at h
  case h_2 => cases h
  rename_i nl cs n m hm
  split at h
  case h_2 => cases h
  rename_i new hnw
  split at h
  case isFalse => cases h
  rename_i hc2
  obtain ⟨hfit, hcl⟩ := hc2
  obtain ⟨d, hud, hdk⟩ := row_desc hT hrow
  have hu := TyOk.desc hT hd rfl
  simp only [DescOk] at hu
  have hk := hT.sub sT (by rw [hd]; rfl) e (by rw [hd]; simp [AD.subs])
  obtain ⟨i, z, hi, hsz, hby, hz, hzs, hzm⟩ := (hT.ty e hk).info
  have oc : acells H (n * (T e).size) (.lit nl true cs n) = some cs := by simp [acells, hcl, List.take_of_length_le]
  obtain ⟨ovs, o1, o2, o3, o4⟩ := acells_sound (P := P) hr hs oc (fun q e' => by cases e') (fun len hl => by cases hl; exact Nat.le_refl _)
  obtain ⟨nvs, n1, n2, n3, n4⟩ := acells_sound (P := P) hr ha hnw (feeds_str hfeed) (fun len hl => by rw [hm] at hl; cases hl; exact Nat.le_refl _)
  have hml := alen_sound (P := P) ha hm x.w
  have hnl : new.length = m * (T e).size := by rw [← n1.length, n3]
  have hlen : (cs ++ new).length = (n + m) * (T e).size := by rw [List.length_append, hcl, hnl, Nat.add_mul]
  have hcells : ∀ a ∈ cs ++ new, a.isCell = true := fun a ha => (List.mem_append.1 ha).elim (o2 a) (n2 a)
  have hshape : ∃ base, su = .slice base n n := by
    have hs' := hs
    simp only [R] at hs'
    rcases hs' with ⟨_, rfl, _, rfl⟩ | ⟨_, b, o, cap, vs, rfl, hle, _, hex, _⟩
    · exact ⟨_, rfl⟩
    · rw [hex trivial]; exact ⟨_, rfl⟩
  obtain ⟨base, rfl⟩ := hshape
  by_cases hm0 : m = 0
  · subst hm0
    have hnil : nvs = [] := List.length_eq_zero_iff.1 (by rw [n3]; simp)
    have hnn : new = [] := by rw [hnil] at n1; simpa using n1.length.symm
    subst hnil hnn
    have hrun := run_append_room' (ty := ty) (base := base) (n := n) (cap := n) hu hud hdk hi hml (by rw [hsz]; exact n4 x.w rfl) (by omega) (w' := x.w) (fun a _ => by simp [storeCells]) (fun _ => rfl)
    rw [Nat.add_zero] at hrun
    cases own with
    | false =>
      cases h
      have : (nl && (0 : Nat) == 0) = nl := by simp
      rw [this]
      simp only [List.append_nil, Nat.add_zero]
      exact OutV.pure hr hs hrun
    | true =>
      cases h
      have : (nl && (0 : Nat) == 0) = nl := by simp
      rw [this]
      simp only [List.append_nil, Nat.add_zero]
      obtain ⟨k1, k2, k3⟩ := hr.pushV (0, 0) 1 false (.room 1 false) x.w (Nat.le_refl _) (fun _ _ => rfl) rfl rfl rfl (fun e => by cases e) (fun _ => ⟨(x.newV_at _ _ _ _).2.1, Nat.one_pos, (x.newV_at _ _ _ _).2.2, fun e => by cases e⟩)
      have hr0 : (!((0 : Nat) == 0)) = false := rfl
      rw [hr0]
      refine ⟨_, x.newV (0, 0) 1 false x.w, hrun, k1, k2, k3, ?_⟩
      have h9 := R.keeps k3 _ _ hs
      simp only [R] at h9 ⊢
      refine ⟨⟨by rw [← hr.N]; exact Nat.lt_succ_self _, Nat.one_pos, by rw [← hr.N, (x.newV_at _ _ _ _).2.1]; exact Nat.le_refl _, hcl⟩, ?_⟩
      rcases h9 with h | ⟨h0, b, o, cap, vs, h1, h2, h3, h4, h5, h6, h7, h8⟩
      · exact .inl h
      · exact .inr ⟨h0, b, o, cap, vs, h1, h2, h3, h5, h6, h7, h8, fun _ => .inl (h4 trivial)⟩
  · obtain ⟨g, c, hrun, c1, c2, c3, c4⟩ := grow_run hT (ty := ty) (base := base) (cap := n) hd hrow hml n3 o3 n4 o4 hfit (by omega)
    obtain ⟨d1, d2, d3, d4⟩ := drew_alloc (w := x.w) (o := .cells c e)
    have hnl0 : (nl && m == 0) = false := by simp [hm0]
    have hex0 : (m == 0) = false := by simp [hm0]
    have hec : (n + m) * (T e).size ≤ c.size := by rw [c3]; exact Nat.mul_le_mul_right _ c1
    let Q : Nat → Nat → Prop := fun k q => k = x.w.heap.size ∧ q = (n + m) * (T e).size
    have hcell : ∀ (j : Nat) (u : Value), (ovs ++ nvs)[j]? = some u → (x.w.drew.alloc (.cells c e)).cell? ⟨x.w.heap.size, 0 + j, none⟩ = some u := fun j u hj => by
      rw [cell_of_row _ _ _ _ _ _ d3, Nat.zero_add]
      exact c4 j u hj
    cases own with
    | false =>
      simp only [Bool.false_eq_true, if_false, Option.some.injEq, Prod.mk.injEq] at h
      obtain ⟨rfl, rfl⟩ := h
      rw [hnl0, hex0]
      obtain ⟨k1, k2, k3⟩ := hr.worldly (x.w.drew.alloc (.cells c e)) d1 d2 rfl rfl rfl
      have hrel := k2.more (Q := Q) (fun k q hq => by rw [hq.1]; show _ < (x.w.drew.alloc (.cells c e)).heap.size; omega) (fun k q hq j b hb hbl he => by
        have := Own.lt hr ⟨j, ⟨b, hb, hbl⟩, rfl⟩
        rw [hq.1] at he
        simp only at he
        omega)
      have hkeep := k3.trans (Cx.more_keeps _ Q)
      exact ⟨_, _, hrun, k1.more (Q := Q) (fun k q hq => .inr (by rw [hq.1]; exact Nat.le_refl _)), hrel, hkeep, R.frozen c1 c2 (fun e => by cases e) (RL.keeps hkeep _ _ (o1.append n1)) hcells (.inr (.of (.inr ⟨rfl, by rw [hlen, Nat.zero_add]⟩))) hcell⟩
    | true =>
      simp only [if_true, Option.some.injEq, Prod.mk.injEq] at h
      obtain ⟨rfl, rfl⟩ := h
      rw [hnl0, hex0]
      obtain ⟨k1, k2, k3⟩ := hr.pushV (x.w.heap.size, (n + m) * (T e).size) 1 true (.room 1 true) (x.w.drew.alloc (.cells c e)) d1 d2 rfl rfl rfl (fun _ => Nat.le_refl _) (fun _ => ⟨(x.newV_at _ _ _ _).2.1, Nat.one_pos, (x.newV_at _ _ _ _).2.2, fun _ => by rw [(x.newV_at _ _ _ _).1]; exact ⟨c, e, (0, 0), d3, by simp, hec⟩⟩)
      have hrel := k2.more (Q := Q) (fun k q hq => by rw [hq.1]; show _ < (x.w.drew.alloc (.cells c e)).heap.size; omega) (fun k q hq j b hb hbl he => by
        rcases Nat.lt_trichotomy j H.length with h' | h' | h'
        · rw [getElem?_app_lt h'] at hb
          rw [(x.newV_old _ _ _ _ (hr.lt hb)).1, hq.1] at he
          have := Own.lt hr ⟨j, ⟨b, hb, hbl⟩, rfl⟩
          omega
        · subst h'
          have : b = .room 1 true := by simpa using hb.symm
          subst this
          rw [← hr.N, (x.newV_at _ _ _ _).1, hq.2]
          exact ⟨rfl, Nat.le_refl _⟩
        · rw [List.getElem?_eq_none (by simp; omega)] at hb
          cases hb)
      have hkeep := k3.trans (Cx.more_keeps _ Q)
      obtain ⟨w1, w2, w3⟩ := x.newV_at (x.w.heap.size, (n + m) * (T e).size) 1 true (x.w.drew.alloc (.cells c e))
      refine ⟨_, _, hrun, k1.more (Q := Q) (fun k q hq => .inr (by rw [hq.1]; exact Nat.le_refl _)), hrel, hkeep, ?_⟩
      simp only [R]
      have hN : H.length = x.N := hr.N.symm
      rw [hN]
      refine ⟨⟨Nat.lt_succ_self _, Nat.one_pos, ?_, hlen⟩, .inr ⟨trivial, x.w.heap.size, 0, g, ovs ++ nvs, rfl, c1, c2, RL.keeps hkeep _ _ (o1.append n1), hcells, .inr (.of (.inr ⟨rfl, by rw [hlen, Nat.zero_add]⟩)), hcell, fun _ => .inr ⟨?_, ?_, g * (T e).size, ?_, by omega⟩⟩⟩
      · exact Nat.le_of_eq w2.symm
      · exact w3
      · refine w1.trans ?_
        rw [hlen, Nat.zero_add]
      · show bsz (x.w.drew.alloc (.cells c e)) _ = _
        rw [bsz_of d3, c3]
end
/-- A new row that has room of its own, and is never written to where it is. -/
theorem Rel.ownRow {x : Cx} {H : AH} (hr : Rel x H) {cs : List AV} {vs : List Value} (hl : RL x cs vs) (hc : ∀ a ∈ cs, a.isCell = true) {c : Array Value} {t : TypeId} {fz : Nat × Nat} (hfz : ∀ i, i < c.size → ¬ (fz.1 ≤ i ∧ i < fz.2))
    (hcv : ∀ (i : Nat) (u : Value), vs[i]? = some u → c[i]? = some u) {n cap sz : Nat} (hlen : cs.length = n * sz) (h1 : n ≤ cap) (h2 : cap ≤ maxLen) (hsz : cap * sz ≤ c.size) {w' : World} (hw : w'.heap = x.w.heap.push (.cells c t fz)) (hos : w'.os = x.w.os) (htp : w'.tape = x.w.tape) (hout : w'.output = x.w.output) :
    ∃ y : Cx, y.w = w' ∧ Mv x.N x H y (H ++ [.room 1 true]) ∧ Rel y (H ++ [.room 1 true]) ∧ Keeps x y ∧ R y (.own H.length 1 false cs n sz) (.slice (some ⟨x.w.heap.size, 0, none⟩) n cap) := by
  have d1 : x.w.heap.size ≤ w'.heap.size := by rw [hw]; simp
  have d2 : ∀ k, k < x.w.heap.size → w'.heap[k]? = x.w.heap[k]? := fun k hk => by rw [hw, Array.getElem?_push, if_neg (by omega)]
  have d3 : w'.heap[x.w.heap.size]? = some (.cells c t fz) := by rw [hw]; simp
  have d4 : w'.heap.size = x.w.heap.size + 1 := by rw [hw]; simp
  have hle : cs.length ≤ c.size := by rw [hlen]; exact Nat.le_trans (Nat.mul_le_mul_right _ h1) hsz
  obtain ⟨w1, w2, w3⟩ := x.newV_at (x.w.heap.size, cs.length) 1 true w'
  obtain ⟨k1, k2, k3⟩ := hr.pushV (x.w.heap.size, cs.length) 1 true (.room 1 true) w' d1 d2 hos htp hout (fun _ => Nat.le_refl _) (fun _ => ⟨w2, Nat.one_pos, w3, fun _ => by rw [w1]; exact ⟨c, t, fz, d3, hfz, hle⟩⟩)
  let Q : Nat → Nat → Prop := fun k q => k = x.w.heap.size ∧ q = cs.length
  have hrel := k2.more (Q := Q) (fun k q hq => by rw [hq.1]; show _ < w'.heap.size; omega) (fun k q hq j b hb hbl he => by
    rcases Nat.lt_trichotomy j H.length with h' | h' | h'
    · rw [getElem?_app_lt h'] at hb
      rw [(x.newV_old _ _ _ _ (hr.lt hb)).1, hq.1] at he
      have := Own.lt hr ⟨j, ⟨b, hb, hbl⟩, rfl⟩
      omega
    · subst h'
      have : b = .room 1 true := by simpa using hb.symm
      subst this
      rw [← hr.N, w1, hq.2]
      exact ⟨rfl, Nat.le_refl _⟩
    · rw [List.getElem?_eq_none (by simp; omega)] at hb
      cases hb)
  have hkeep := k3.trans (Cx.more_keeps _ Q)
  refine ⟨_, rfl, k1.more (Q := Q) (fun k q hq => .inr (by rw [hq.1]; exact Nat.le_refl _)), hrel, hkeep, ?_⟩
  simp only [R]
  have hN : H.length = x.N := hr.N.symm
  rw [hN]
  refine ⟨⟨Nat.lt_succ_self _, Nat.one_pos, Nat.le_of_eq w2.symm, hlen⟩, .inr ⟨trivial, x.w.heap.size, 0, cap, vs, rfl, h1, h2, RL.keeps hkeep _ _ hl, hc, .inr (.of (.inr ⟨rfl, by rw [Nat.zero_add]⟩)), fun i u hu => ?_, fun _ => .inr ⟨w3, w1.trans (by rw [Nat.zero_add]), c.size, bsz_of d3, by omega⟩⟩⟩
  show w'.cell? _ = _
  rw [cell_of_row _ _ _ _ _ _ d3, Nat.zero_add]
  exact hcv i u hu
end Go.Abs
