/- append, copy, make, slice literals, bytes and strings: sound. -/
import Derived.Test.YtbdomlbmbcnaeaaAbsApp
namespace Go.Abs

/-- What an operation that hands back a value comes to. -/
def OutV (x : Cx) (H H' : AH) (v : AV) (r : Result Value) : Prop := ∃ u y, r = .ok u y.w ∧ Mv x.N x H y H' ∧ Rel y H' ∧ Keeps x y ∧ R y v u

theorem OutV.pure {x : Cx} {H : AH} {v : AV} {u : Value} {r : Result Value} (hr : Rel x H) (hv : R x v u) (h : r = .ok u x.w) : OutV x H H v r := ⟨u, x, h, Mv.refl H (Nat.le_refl _), hr, Keeps.refl x, hv⟩

theorem feeds_str {sz : Nat} {a : AV} (h : feeds sz a = true) : ∀ s, a = .str s → sz = 1 := fun s e => by subst e; simpa [feeds] using h

section
variable {P : Program} {T : TT} (hT : TyOk P T)
include hT

theorem row_desc {t : TypeId} (h : (T t).d.row = true) : ∃ d, P.underlying t = some d ∧ ∀ k, d ≠ .int k := by
  cases hd : (T t).d <;> rw [hd] at h <;> simp only [AD.row] at h <;> first | (cases h; done) | skip
  · have := TyOk.desc hT hd rfl
    exact ⟨_, this, fun k e => by cases e⟩
  · have := TyOk.desc hT hd rfl
    exact ⟨_, this, fun k e => by cases e⟩

theorem append_sound {x : Cx} {H H' : AH} (hr : Rel x H) {sT xT ty : TypeId} {s a v : AV} {su au : Value} (hs : R x s su) (ha : R x a au) (h : aappend T H sT xT s a = some (v, H')) :
    OutV x H H' v ((Builtin.append_ #[sT, xT] ty #[su, au]).run P x.w) := by
  unfold aappend at h
  split at h
  case h_2 => cases h
  rename_i e hd
  split at h
  case isFalse => cases h
  rename_i hc
  obtain ⟨hrow, hfeed, hns⟩ := hc
  obtain ⟨d, hud, hdk⟩ := row_desc hT hrow
  have hu := TyOk.desc hT hd rfl
  simp only [DescOk] at hu
  have hk := hT.sub sT (by rw [hd]; rfl) e (by rw [hd]; simp [AD.subs])
  obtain ⟨i, z, hi, hsz, hby, hz, hzs, hzm⟩ := (hT.ty e hk).info
  split at h
  case h_2 => cases h
  rename_i n m hn hm
  split at h
  case h_2 => cases h
  rename_i old new ho hnw
  obtain ⟨ovs, o1, o2, o3, o4⟩ := acells_sound (P := P) hr hs ho (fun q e' => by subst e'; cases hns) (fun len hl => by rw [hn] at hl; cases hl; exact Nat.le_refl _)
  obtain ⟨nvs, n1, n2, n3, n4⟩ := acells_sound (P := P) hr ha hnw (feeds_str hfeed) (fun len hl => by rw [hm] at hl; cases hl; exact Nat.le_refl _)
  have hml := alen_sound (P := P) ha hm x.w
  have hshape : ∃ base cap, su = .slice base n cap ∧ n ≤ cap := by
    cases s <;> simp only [alen] at hn <;> first | (cases hn; done) | skip
    · cases hns
    · cases hn
      simp only [R] at hs
      rcases hs with ⟨_, rfl, _, rfl⟩ | ⟨_, b, o, cap, vs, rfl, hle, _⟩
      · exact ⟨_, _, rfl, Nat.le_refl _⟩
      · exact ⟨_, _, rfl, hle⟩
    · cases hn
      simp only [R] at hs
      obtain ⟨_, cap, S, o, rfl, _, hle, _⟩ := hs
      exact ⟨_, _, rfl, hle⟩
  obtain ⟨base, cap, rfl, hcap⟩ := hshape
  split at h
  · -- nothing is appended
    rename_i h0
    subst h0
    cases h
    have hnil : nvs = [] := List.length_eq_zero_iff.1 (by rw [n3]; simp)
    subst hnil
    refine OutV.pure hr hs ?_
    have := run_append_room' (ty := ty) (base := base) (n := n) (cap := cap) hu hud hdk hi hml (by rw [hsz]; exact n4 x.w rfl) (by omega) (w' := x.w) (fun a _ => by simp [storeCells]) (fun _ => rfl)
    simpa using this
  · rename_i hm0
    split at h
    case isFalse => cases h
    rename_i hb
    obtain ⟨hp, h63, hbytes⟩ := hb
    -- a new row
    have hgrow : cap < n + m → OutV x H (H ++ [.cells (old ++ new)]) (.ref false H.length 0 (n + m) (T e).size) ((Builtin.append_ #[sT, xT] ty #[.slice base n cap, au]).run P x.w) := by
      intro hg
      have hr1 := run_append_grow' (P := P) (w := x.w) (ty := ty) (base := base) (n := n) (cap := cap) (olds := ovs) (news := nvs) hu hud hdk hi hz hml (by rw [hsz]; exact n4 _ rfl) (by rw [hsz]; exact o4 _ rfl) hg h63 (by rw [hby]; exact hbytes)
      have hge := grownCap_ge x.w (n + m) cap e
      have hlm := grownCap_le_maxLen x.w (n + m) cap e h63
      generalize grownCap x.w (n + m) cap e = g at hr1 hge hlm
      have hcsz : (ovs.toArray ++ nvs.toArray ++ Builtin.zeroCells z.cells (g - (n + m))).size = g * (T e).size := by
        have : (Builtin.zeroCells z.cells (g - (n + m))).size = (g - (n + m)) * (T e).size := by simp [Builtin.zeroCells, hzs, hsz]
        simp only [Array.size_append, List.size_toArray, this, o3, n3, ← Nat.add_mul]
        congr 1
        omega
      have hrow := hr.row (o1.append n1) (fun a ha => by
          rcases List.mem_append.1 ha with h | h
          · exact o2 a h
          · exact n2 a h) (ovs.toArray ++ nvs.toArray ++ Builtin.zeroCells z.cells (g - (n + m))) e (0, 0) (by simp) (fun j u hj => by
          have hlt := (List.getElem?_eq_some_iff.1 hj).1
          rw [Array.getElem?_append, if_pos (by simpa using hlt)]
          simpa using hj) (by
          rw [hcsz, List.length_append, ← o1.length, ← n1.length, o3, n3, ← Nat.add_mul]
          exact Nat.mul_le_mul_right _ hge) (x.w.drew.alloc (.cells (ovs.toArray ++ nvs.toArray ++ Builtin.zeroCells z.cells (g - (n + m))) e)) rfl rfl rfl rfl
      exact ⟨_, _, hr1, hrow.1, hrow.2.1, hrow.2.2, row_ref hr.N rfl hge hlm (by simp) (by rw [hcsz]; exact Nat.le_refl _)⟩
    split at h
    · -- a frozen slice without spare room
      rename_i nl cs len
      cases h
      refine hgrow ?_
      simp only [R] at hs
      rcases hs with ⟨_, hs, _⟩ | ⟨_, b, o, cap', vs, hs, _, _, hex, _⟩
      · cases hs; omega
      · cases hs
        have := hex trivial
        simp only [alen] at hn
        cases hn
        omega
    · rename_i l off len sz
      split at h
      · cases h
        refine hgrow ?_
        simp only [R] at hs
        obtain ⟨_, cap', S, o, hs, _, _, _, hex, _⟩ := hs
        cases hs
        have := hex trivial
        simp only [alen] at hn
        cases hn
        omega
      · cases h
    · rename_i l off len sz
      split at h
      case isFalse => cases h
      rename_i hsz'
      subst hsz'
      cases h
      simp only [alen, Option.some.injEq] at hn
      subst hn
      rcases Nat.lt_or_ge cap (len + m) with hg | hroom
      · -- it grows
        obtain ⟨u, y, e1, e2, e3, e4, e5⟩ := hgrow hg
        have hlt : l < H.length := by
          simp only [R] at hs
          rw [← hr.N]; exact hs.1
        have hset : (H ++ [AB.cells (old ++ new)]).set l .dead = H.set l .dead ++ [AB.cells (old ++ new)] := List.set_append_left _ _ hlt
        have hd1 := e3.dead l
        rw [hset] at hd1
        exact ⟨u, y, e1, e2.trans (hd1.2.mono e2.N), hd1.1, e4, e5⟩
      · -- in place
        simp only [acells] at ho
        split at ho
        case h_2 => cases ho
        rename_i cs hlc
        split at ho
        case isFalse => cases ho
        rename_i hoff
        cases ho
        obtain ⟨c, t, fz, us, g1, g2, g3, g4, g5, g6⟩ := hr.block l _ hlc
        simp only [R] at hs
        obtain ⟨hN, cap', S, o, hs, hoo, hle, hcm, hex, hS, hSc⟩ := hs
        cases hs
        have ho' := hoo (by omega)
        subst ho'
        rw [bsz_of g1] at hS
        cases hS
        have hmul : len * (T e).size + m * (T e).size ≤ cap * (T e).size := by rw [← Nat.add_mul]; exact Nat.mul_le_mul_right _ hroom
        have hcell : ∀ j, j < nvs.length → (x.w.cell? ⟨(x.at_ l).1, (x.at_ l).2 + off + len * (T e).size + 0 + j, none⟩).isSome = true := fun j hj => by
          rw [cell_of_row _ _ _ _ _ _ g1, Array.getElem?_eq_getElem (by omega)]
          rfl
        have hfr : ∀ j, j < nvs.length → x.w.frozen? ⟨(x.at_ l).1, (x.at_ l).2 + off + len * (T e).size + 0 + j, none⟩ = false := fun j hj => by
          have := g2 ((x.at_ l).2 + off + len * (T e).size + 0 + j) (by omega)
          simp only [World.frozen?, g1]
          simpa using this
        have hst := run_storeCells_cells (P := P) (x.at_ l).1 ((x.at_ l).2 + off + len * (T e).size) nvs 0 x.w hcell hfr (n1.oneCell n2)
        obtain ⟨c', k1, k2, k3, k4, k5⟩ := heap_setCells_same (x.at_ l).1 nvs ((x.at_ l).2 + off + len * (T e).size + 0) x.w c t fz g1
        obtain ⟨q1, q2, q3, q4⟩ := setCells_os (x.at_ l).1 nvs ((x.at_ l).2 + off + len * (T e).size + 0) x.w
        have hrun := run_append_room' (ty := ty) (base := some ⟨(x.at_ l).1, (x.at_ l).2 + off, none⟩) (n := len) (cap := cap) hu hud hdk hi hml (by rw [hsz]; exact n4 x.w rfl) hroom
          (w' := x.w.setCells (x.at_ l).1 ((x.at_ l).2 + off + len * (T e).size + 0) nvs) (fun a ha => by cases ha; rw [Addr.add_lit, hsz]; exact hst) (fun h => by cases h)
        generalize hW : x.w.setCells (x.at_ l).1 ((x.at_ l).2 + off + len * (T e).size + 0) nvs = W at *
        have hoth : ∀ k, k ≠ (x.at_ l).1 → W.heap[k]? = x.w.heap[k]? := fun k hk => by rw [← hW]; exact heap_setCells_other _ _ _ _ _ hk
        have hsame : ∀ s, bsz x.w (x.at_ l).1 = some s → bsz W (x.at_ l).1 = some s := fun s hs => by
          rw [bsz_of g1] at hs
          rw [bsz_of k1, k2]
          exact hs
        have hre := hr.reuse hlc rfl ((x.at_ l).1, (x.at_ l).2 + off) rfl (.cells ((cs.drop off).take (len * (T e).size) ++ new)) W q4 hoth hsame q1 q2 q3 (by
          have hk : Keeps x (x.new ((x.at_ l).1, (x.at_ l).2 + off) W) := ⟨fun l hl => x.new_old _ _ hl, Nat.le_succ _, fun _ h => h, fun k hf => hoth k (fun e => hr.notF l ⟨_, hlc, rfl⟩ (e ▸ hf)), fun k s hs => by
            by_cases e : k = (x.at_ l).1
            · subst e; exact hsame s hs
            · show bsz W k = _
              unfold bsz at *
              rw [hoth k e]
              exact hs⟩
          have hul := g3.length
          have hol : ((us.drop off).take (len * (T e).size)).length = len * (T e).size := by simp; omega
          refine ⟨c', t, fz, (us.drop off).take (len * (T e).size) ++ nvs, k1, fun i hi => g2 i (by omega), RL.keeps hk _ _ (((g3.drop off).take _).append n1), ?_, fun i u hi' => ?_, fun a ha => ?_⟩
          · rw [List.length_append, ← ((g3.drop off).take (len * (T e).size)).length, hol, ← n1.length, n3, k2]
            show (x.at_ l).2 + off + _ ≤ _
            omega
          · show c'[(x.at_ l).2 + off + i]? = some u
            rw [List.getElem?_append] at hi'
            split at hi'
            · rename_i hlt
              rw [hol] at hlt
              rw [List.getElem?_take, if_pos hlt, List.getElem?_drop] at hi'
              rw [k3 _ (by omega), Nat.add_assoc]
              exact g5 _ u hi'
            · rename_i hge
              rw [hol] at hge hi'
              have hlt := (List.getElem?_eq_some_iff.1 hi').1
              have := k5 _ u hi' (by omega)
              rw [show (x.at_ l).2 + off + i = (x.at_ l).2 + off + len * (T e).size + 0 + (i - len * (T e).size) by omega]
              exact this
          · rcases List.mem_append.1 ha with h | h
            · exact g6 a (List.mem_of_mem_drop (List.mem_of_mem_take h))
            · exact n2 a h)
        refine ⟨_, _, hrun, hre.1, hre.2.1, hre.2.2, ?_⟩
        simp only [R]
        rw [← hr.N, x.new_at]
        refine ⟨Nat.lt_succ_self _, cap, c.size, _, rfl, fun _ => rfl, hroom, hcm, by simp, ?_, by show (x.at_ l).2 + off + 0 + _ ≤ _; omega⟩
        show bsz W (x.at_ l).1 = _
        rw [bsz_of k1, k2]
    · cases h
end
end Go.Abs
