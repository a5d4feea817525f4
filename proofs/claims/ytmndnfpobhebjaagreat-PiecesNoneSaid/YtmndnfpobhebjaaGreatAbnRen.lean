/- Places of the abstract heap get other numbers; what nobody reaches is left behind. -/
import Derived.Test.YtmndnfpobhebjaaGreatAbnWf
namespace Go.Abs
mutual
def AV.ren (r : Nat → Nat) : AV → AV
  | .ptr l o => .ptr (r l) o
  | .ref e l o n s => .ref e (r l) o n s
  | .map l => .map (r l)
  | .lptr cs o => .lptr (rens r cs) o
  | .lit n e cs l => .lit n e (rens r cs) l
  | .agg cs => .agg (rens r cs)
  | .tup cs => .tup (rens r cs)
  | .fn f a b => .fn f (rens r a) (rens r b)
  | .iface t v => .iface t (v.ren r)
  | .own l v n cs len sz => .own (r l) v n (rens r cs) len sz
  | v => v
def rens (r : Nat → Nat) : List AV → List AV
  | [] => []
  | a :: l => a.ren r :: rens r l
end
mutual
/-- The places that a value names. -/
def AV.refs : AV → List Nat
  | .ptr l _ | .ref _ l _ _ _ | .map l => [l]
  | .own l _ _ cs _ _ => l :: refss cs
  | .lptr cs _ | .lit _ _ cs _ | .agg cs | .tup cs => refss cs
  | .fn _ a b => refss a ++ refss b
  | .iface _ v => v.refs
  | _ => []
def refss : List AV → List Nat
  | [] => []
  | a :: l => a.refs ++ refss l
end
def AB.refs : AB → List Nat
  | .cells cs => refss cs
  | .map es _ _ => refss (es.map (·.1)) ++ refss (es.map (·.2))
  | .iter (some l) _ _ _ => [l]
  | _ => []
def AB.ren (r : Nat → Nat) : AB → AB
  | .cells cs => .cells (rens r cs)
  | .map es bs c => .map (es.map fun e => (e.1.ren r, e.2.ren r)) bs c
  | .iter (some l) s t u => .iter (some (r l)) s t u
  | b => b
theorem rens_map {r : Nat → Nat} : ∀ {l : List AV}, rens r l = l.map (·.ren r)
  | [] => rfl
  | a :: l => by simp [rens, rens_map (l := l)]
theorem ren_cell {r : Nat → Nat} {a : AV} : (a.ren r).isCell = a.isCell := by cases a <;> rfl
theorem rens_cells {r : Nat → Nat} {l : List AV} (h : ∀ a ∈ l, a.isCell = true) : ∀ a ∈ rens r l, a.isCell = true := by
  intro a ha
  rw [rens_map] at ha
  obtain ⟨b, hb, rfl⟩ := List.mem_map.1 ha
  rw [ren_cell]
  exact h b hb
/-- Places keep what they stand for. -/
def Fits (x y : Cx) (r : Nat → Nat) (l : Nat) : Prop := r l < y.N ∧ y.at_ (r l) = x.at_ l ∧ y.ver (r l) = x.ver l ∧ y.rl (r l) = x.rl l
theorem Cx.Fz.imp {x y : Cx} (hF : ∀ k m, x.F k m → y.F k m) {b m : Nat} (h : x.Fz b m) : y.Fz b m := Exists.imp (fun _ hq => ⟨hq.1, hF _ _ hq.2⟩) h
theorem rens_len {r : Nat → Nat} {l : List AV} : (rens r l).length = l.length := by rw [rens_map, List.length_map]
mutual
theorem R.ren {x y : Cx} {r : Nat → Nat} (hF : ∀ k m, x.F k m → y.F k m) (hw : y.w = x.w) : ∀ (a : AV) (v : Value), (∀ l ∈ a.refs, Fits x y r l) → R x a v → R y (a.ren r) v
  | .bool _, _, _, hr => by simpa [R, AV.ren] using hr
  | .int _ _, _, _, hr => by simpa [R, AV.ren] using hr
  | .str _, _, _, hr => by simpa [R, AV.ren] using hr
  | .nilptr, _, _, hr => by simpa [R, AV.ren] using hr
  | .ptr l off, v, h, hr => by
    obtain ⟨h1, h2, h3, _⟩ := h l (by simp [AV.refs])
    simp only [R, AV.ren] at *
    exact ⟨h1, h3.trans hr.2.1, by rw [h2]; exact hr.2.2⟩
  | .lptr cs off, v, h, hr => by
    simp only [R, AV.ren, AV.refs] at *
    obtain ⟨b, o, vs, e, hf, hl, hk, hc⟩ := hr
    exact ⟨b, o, vs, e, by rw [rens_len]; exact Cx.Fz.imp hF hf, RL.ren hF hw cs vs h hl, rens_cells hk, by rw [hw]; exact hc⟩
  | .lit nl ex cs len, v, h, hr => by
    simp only [R, AV.ren, AV.refs] at *
    rcases hr with ⟨h1, h2, h3, h4⟩ | ⟨hn, b, o, cap, vs, e, h1, h2, h3, hl, hk, hf, hc⟩
    · exact .inl ⟨h1, h2, by rw [h3]; rfl, h4⟩
    · exact .inr ⟨hn, b, o, cap, vs, e, h1, h2, h3, RL.ren hF hw cs vs h hl, rens_cells hk, hf.imp (fun e => by rw [e]; rfl) (fun hz => by rw [rens_len]; exact Cx.Fz.imp hF hz), by rw [hw]; exact hc⟩
  | .ref ex l off len sz, v, h, hr => by
    obtain ⟨h1, h2, h3, _⟩ := h l (by simp [AV.refs])
    simp only [R, AV.ren] at *
    refine ⟨h1, h3.trans hr.2.1, ?_⟩
    rw [h2, hw]
    exact hr.2.2
  | .fn f first caps, v, h, hr => by
    simp only [R, AV.ren, AV.refs, List.mem_append] at *
    obtain ⟨fs, cs, e, h1, h2⟩ := hr
    exact ⟨fs, cs, e, RL.ren hF hw _ _ (fun l hl => h l (.inl hl)) h1, RL.ren hF hw _ _ (fun l hl => h l (.inr hl)) h2⟩
  | .nilfn, _, _, hr => by simpa [R, AV.ren] using hr
  | .map l, v, h, hr => by
    obtain ⟨h1, h2, h3, _⟩ := h l (by simp [AV.refs])
    simp only [R, AV.ren] at *
    exact ⟨h1, h3.trans hr.2.1, by rw [h2]; exact hr.2.2⟩
  | .nilmap, _, _, hr => by simpa [R, AV.ren] using hr
  | .iface t a, v, h, hr => by
    simp only [R, AV.ren, AV.refs] at *
    obtain ⟨u, e, hu⟩ := hr
    exact ⟨u, e, R.ren hF hw a u h hu⟩
  | .nilif, _, _, hr => by simpa [R, AV.ren] using hr
  | .agg cs, v, h, hr => by
    simp only [R, AV.ren, AV.refs] at *
    obtain ⟨hk, vs, e, hl⟩ := hr
    exact ⟨rens_cells hk, vs, e, RL.ren hF hw cs vs h hl⟩
  | .tup cs, v, h, hr => by
    simp only [R, AV.ren, AV.refs] at *
    obtain ⟨vs, e, hl⟩ := hr
    exact ⟨vs, e, RL.ren hF hw cs vs h hl⟩
  | .own l ver nl cs len sz, v, h, hr => by
    obtain ⟨h1, h2, h3, h4⟩ := h l (by simp [AV.refs])
    have hcs : ∀ l ∈ refss cs, Fits x y r l := fun l hl => h l (by simp [AV.refs, hl])
    simp only [R, AV.ren] at *
    obtain ⟨⟨_, g0, gv, gs⟩, hr⟩ := hr
    refine ⟨⟨h1, g0, by rw [h3]; exact gv, by rw [rens_len]; exact gs⟩, ?_⟩
    rcases hr with ⟨k1, k2, k3, k4⟩ | ⟨hn, b, o, cap, vs, e, k1, k2, k3, hk, hf, hc, ht⟩
    · exact .inl ⟨k1, k2, by rw [k3]; rfl, k4⟩
    · refine .inr ⟨hn, b, o, cap, vs, e, k1, k2, RL.ren hF hw cs vs hcs k3, rens_cells hk, hf.imp (fun e => by rw [e]; rfl) (fun hz => by rw [rens_len]; exact Cx.Fz.imp hF hz), by rw [hw]; exact hc, fun hv => ?_⟩
      rw [h2, h4, rens_len, hw]
      rw [h3] at hv
      exact ht hv
  | .any, _, _, hr => by simpa [R, AV.ren] using hr
theorem RL.ren {x y : Cx} {r : Nat → Nat} (hF : ∀ k m, x.F k m → y.F k m) (hw : y.w = x.w) : ∀ (as : List AV) (vs : List Value), (∀ l ∈ refss as, Fits x y r l) → RL x as vs → RL y (rens r as) vs
  | [], _, _, hr => by simpa [RL, rens] using hr
  | a :: as, vs, h, hr => by
    simp only [RL, rens, refss, List.mem_append] at *
    obtain ⟨v, u, e, h1, h2⟩ := hr
    exact ⟨v, u, e, R.ren hF hw a v (fun l hl => h l (.inl hl)) h1, RL.ren hF hw as u (fun l hl => h l (.inr hl)) h2⟩
end
/-- The same place, under another number. -/
def Moved (x y : Cx) (l m : Nat) : Prop := y.at_ m = x.at_ l ∧ y.ver m = x.ver l ∧ y.rl m = x.rl l
theorem HoldsB.ren {x y : Cx} {r : Nat → Nat} (hF : ∀ k m, x.F k m → y.F k m) (hw : y.w = x.w) {l m : Nat} (hm : Moved x y l m) : ∀ {b : AB}, (∀ l ∈ b.refs, Fits x y r l) → HoldsB x l b → HoldsB y m (b.ren r)
  | .cells cs, h, hb => by
    obtain ⟨h0, c, t, fz, vs, h1, h2, h3, h4, h5, h6⟩ := hb
    obtain ⟨m1, m2, m3⟩ := hm
    refine ⟨m2.trans h0, c, t, fz, vs, ?_, h2, RL.ren hF hw _ _ h h3, ?_, ?_, rens_cells h6⟩ <;> rw [m1]
    · rw [hw]; exact h1
    · rw [rens_len]; exact h4
    · exact h5
  | .map es bs clock, h, hb => by
    simp only [AB.refs, List.mem_append] at h
    obtain ⟨h0, c, h1, h2, h3, h4⟩ := hb
    obtain ⟨m1, m2, m3⟩ := hm
    have e1 : (es.map fun e => (e.1.ren r, e.2.ren r)).map (·.1) = rens r (es.map (·.1)) := by rw [rens_map]; simp
    have e2 : (es.map fun e => (e.1.ren r, e.2.ren r)).map (·.2) = rens r (es.map (·.2)) := by rw [rens_map]; simp
    exact ⟨m2.trans h0, c, by rw [m1, hw]; exact h1, by rw [e1]; exact RL.ren hF hw _ _ (fun l hl => h l (.inl hl)) h2, by rw [e2]; exact RL.ren hF hw _ _ (fun l hl => h l (.inr hl)) h3, h4⟩
  | .iter src since seen last, h, hb => by
    obtain ⟨h0, h00, h1, h2⟩ := hb
    obtain ⟨m1, m2, m3⟩ := hm
    cases src with
    | none => exact ⟨m2.trans h0, by rw [m1]; exact h00, (fun l hl => by cases hl), by rw [m1, hw]; exact h2⟩
    | some l =>
      obtain ⟨g1, g2, g3, _⟩ := h l (by simp [AB.refs])
      exact ⟨m2.trans h0, by rw [m1]; exact h00, (fun l' hl => by cases hl; exact ⟨g1, g3.trans (h1 l rfl).2⟩), by rw [m1, hw]; simp only [Option.map_some, g2]; exact h2⟩
  | .room v real, _, hb => by
    obtain ⟨h0, h1, h2, h3⟩ := hb
    obtain ⟨m1, m2, m3⟩ := hm
    refine ⟨m2.trans h0, h1, m3.trans h2, fun e => ?_⟩
    obtain ⟨c, t, fz, g1, g2, g3⟩ := h3 e
    rw [m1]
    exact ⟨c, t, fz, by rw [hw]; exact g1, g2, g3⟩
  | .dead, _, _ => trivial
theorem ren_live {r : Nat → Nat} {b : AB} : (b.ren r).live = b.live := by
  cases b with
  | iter src _ _ _ => cases src <;> rfl
  | _ => rfl
theorem ren_room {r : Nat → Nat} {b : AB} : (b.ren r).isRoom = b.isRoom := by
  cases b with
  | iter src _ _ _ => cases src <;> rfl
  | _ => rfl

/-- The new heap: by the old numbers, in their new order. -/
def packed (s : List Nat) (H : AH) : AH := s.map fun o => (H.getD o .dead).ren s.idxOf
def packOk (n : Nat) (s : List Nat) (fr : List AV) (H : AH) : Bool :=
  decide (s.take n = List.range n) && decide (n ≤ s.length) && decide s.Nodup && s.all (fun o => decide (o < H.length)) && (refss fr).all (s.contains ·) && s.all fun o => ((H.getD o .dead).refs).all (s.contains ·)
theorem VS.pack {n : Nat} {s : List Nat} {fr : List AV} {H : AH} (h : packOk n s fr H = true) : VS n fr H (rens s.idxOf fr) (packed s H) := by
  unfold packOk at h
  simp only [Bool.and_eq_true, decide_eq_true_eq, List.all_eq_true, List.contains_eq_mem] at h
  obtain ⟨⟨⟨⟨⟨h1, h2⟩, h3⟩, h4⟩, h5⟩, h6⟩ := h
  intro x vs hr hn hl
  let y : Cx := { at_ := fun m => x.at_ (s.getD m 0), ver := fun m => x.ver (s.getD m 0), rl := fun m => x.rl (s.getD m 0), F := x.F, N := s.length, w := x.w }
  have hfits : ∀ l ∈ s, Fits x y s.idxOf l := fun l hm => by
    have hlt : s.idxOf l < s.length := List.idxOf_lt_length_of_mem hm
    have hg : s.getD (s.idxOf l) 0 = l := by rw [List.getD_eq_getElem?_getD, List.getElem?_eq_getElem hlt, Option.getD_some, List.getElem_idxOf]
    exact ⟨hlt, congrArg x.at_ hg, congrArg x.ver hg, congrArg x.rl hg⟩
  have hblock : ∀ m b, (packed s H)[m]? = some b → ∃ o b', s[m]? = some o ∧ H[o]? = some b' ∧ b = b'.ren s.idxOf ∧ o ∈ s := fun m b hb => by
    unfold packed at hb
    rw [List.getElem?_map, Option.map_eq_some_iff] at hb
    obtain ⟨o, ho, rfl⟩ := hb
    have hom := List.mem_of_getElem? ho
    refine ⟨o, H.getD o .dead, ho, ?_, rfl, hom⟩
    rw [List.getD_eq_getElem?_getD, List.getElem?_eq_getElem (h4 o hom)]
    rfl
  have hlive : ∀ m, Live (packed s H) m → ∃ o, s[m]? = some o ∧ Live H o ∧ y.at_ m = x.at_ o := fun m ⟨b, hb, hbl⟩ => by
    obtain ⟨o, b', ho, hb', rfl, hom⟩ := hblock m b hb
    rw [ren_live] at hbl
    exact ⟨o, ho, ⟨b', hb', hbl⟩, by show x.at_ (s.getD m 0) = _; rw [List.getD_eq_getElem?_getD, ho]; rfl⟩
  have hpre : ∀ l, l < n → s.getD l 0 = l := fun l hl' => by
    have : (s.take n)[l]? = some l := by rw [h1, List.getElem?_range hl']
    rw [List.getElem?_take_of_lt hl'] at this
    rw [List.getD_eq_getElem?_getD, this]
    rfl
  refine ⟨y, rfl, ⟨fun l hl' _ => ⟨congrArg x.at_ (hpre l hl'), congrArg x.rl (hpre l hl')⟩, fun l hl' => by show x.ver l ≤ x.ver (s.getD l 0) ∧ (x.ver l = 0 → x.ver (s.getD l 0) = 0); rw [hpre l hl']; exact ⟨Nat.le_refl _, id⟩, hn, h2, fun _ _ h => h, fun _ _ _ _ _ => rfl, fun _ _ h => h, Nat.le_refl _, rfl, rfl, rfl, fun _ _ _ => rfl, ?_, fun _ _ h => .inl h⟩, ⟨by simp [packed, y], ?_, ?_, ?_, hr.Flt⟩, ?_⟩
  · rintro k ⟨m, hm, rfl⟩
    obtain ⟨o, _, hol, he⟩ := hlive m hm
    exact .inl ⟨o, hol, by rw [he]⟩
  · intro m b hb
    obtain ⟨o, b', ho, hb', rfl, hom⟩ := hblock m b hb
    have hg : s.getD m 0 = o := by rw [List.getD_eq_getElem?_getD, ho]; rfl
    refine HoldsB.ren (x := x) (y := y) (fun _ _ h => h) rfl ⟨congrArg x.at_ hg, congrArg x.ver hg, congrArg x.rl hg⟩ (fun l hl' => hfits l ?_) (hr.block o b' hb')
    have := h6 o hom l (by rw [List.getD_eq_getElem?_getD, hb']; exact hl')
    exact this
  · intro l m h1' h2' he
    obtain ⟨o, ho, hol, e1⟩ := hlive l h1'
    obtain ⟨q, hq, hql, e2⟩ := hlive m h2'
    rw [e1, e2] at he
    have := hr.inj o q hol hql he
    subst this
    exact (List.getElem?_inj (List.getElem?_eq_some_iff.1 ho).1 h3).1 (ho.trans hq.symm)
  · intro m b hb hbl k hf
    obtain ⟨o, b', ho, hb', rfl, hom⟩ := hblock m b hb
    have hg : y.at_ m = x.at_ o := congrArg x.at_ (by rw [List.getD_eq_getElem?_getD, ho]; rfl)
    rw [ren_live] at hbl
    rw [ren_room]
    rw [hg] at hf ⊢
    exact hr.notF o b' hb' hbl k hf
  · exact RL.ren (x := x) (y := y) (fun _ _ h => h) rfl fr vs (fun l hl' => hfits l (h5 l hl')) hl
end Go.Abs
