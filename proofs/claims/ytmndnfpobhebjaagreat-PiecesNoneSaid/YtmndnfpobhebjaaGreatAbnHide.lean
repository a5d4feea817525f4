/- A call that names a part of the heap alone leaves the rest be: told at that part, it holds at the whole. Closed runs, at any heap. -/
import Derived.Test.YtmndnfpobhebjaaGreatAbnTree
import Derived.Test.YtmndnfpobhebjaaGreatAbnRen
namespace Go.Abs
mutual
theorem refs_ren {f : Nat → Nat} : ∀ (a : AV), (a.ren f).refs = a.refs.map f
  | .bool _ | .int _ _ | .str _ | .nilptr | .nilfn | .nilmap | .nilif | .any | .ptr _ _ | .ref _ _ _ _ _ | .map _ => rfl
  | .lptr cs _ => refss_rens cs
  | .lit _ _ cs _ => refss_rens cs
  | .agg cs => refss_rens cs
  | .tup cs => refss_rens cs
  | .fn _ a b => by simp only [AV.ren, AV.refs, List.map_append]; rw [refss_rens a, refss_rens b]
  | .iface _ v => refs_ren v
  | .own l _ _ cs _ _ => by simp only [AV.ren, AV.refs, List.map_cons]; rw [refss_rens cs]
theorem refss_rens {f : Nat → Nat} : ∀ (l : List AV), refss (rens f l) = (refss l).map f
  | [] => rfl
  | a :: l => by simp only [rens, refss, List.map_append, refs_ren a, refss_rens l]
end
theorem refsB_ren {f : Nat → Nat} {b : AB} : (b.ren f).refs = b.refs.map f := by
  cases b with
  | cells cs => exact refss_rens cs
  | map es bs c =>
    simp only [AB.ren, AB.refs, List.map_append]
    have e1 : (es.map fun e => (e.1.ren f, e.2.ren f)).map (·.1) = rens f (es.map (·.1)) := by rw [rens_map]; simp
    have e2 : (es.map fun e => (e.1.ren f, e.2.ren f)).map (·.2) = rens f (es.map (·.2)) := by rw [rens_map]; simp
    rw [e1, e2, refss_rens, refss_rens]
  | iter src a b c => cases src <;> rfl
  | _ => rfl
theorem refs_ren_mem {f : Nat → Nat} {m : Nat} {s : List Nat} (a : AV) (h : ∀ l ∈ a.refs, l < m) (hs : ∀ l, l < m → f l ∈ s) : ∀ l ∈ (a.ren f).refs, l ∈ s := fun l hl => by
  rw [refs_ren, List.mem_map] at hl
  obtain ⟨k, hk, rfl⟩ := hl
  exact hs k (h k hk)
theorem refss_rens_mem {f : Nat → Nat} {m : Nat} {s : List Nat} (a : List AV) (h : ∀ l ∈ refss a, l < m) (hs : ∀ l, l < m → f l ∈ s) : ∀ l ∈ refss (rens f a), l ∈ s := fun l hl => by
  rw [refss_rens, List.mem_map] at hl
  obtain ⟨k, hk, rfl⟩ := hl
  exact hs k (h k hk)
theorem refsB_ren_mem {f : Nat → Nat} {m : Nat} {s : List Nat} {b : AB} (h : ∀ l ∈ b.refs, l < m) (hs : ∀ l, l < m → f l ∈ s) : ∀ l ∈ (b.ren f).refs, l ∈ s := fun l hl => by
  rw [refsB_ren, List.mem_map] at hl
  obtain ⟨k, hk, rfl⟩ := hl
  exact hs k (h k hk)
mutual
/-- Who names no place. -/
theorem low_refs_aux : ∀ (a : AV), a.low 0 = true → a.refs = []
  | .bool _, _ | .int _ _, _ | .str _, _ | .nilptr, _ | .nilfn, _ | .nilmap, _ | .nilif, _ | .any, _ => rfl
  | .ptr _ _, h | .ref _ _ _ _ _, h | .map _, h | .own _ _ _ _ _ _, h => by simp [AV.low] at h
  | .lptr cs _, h => lows_refs cs (by simpa [AV.low] using h)
  | .lit _ _ cs _, h => lows_refs cs (by simpa [AV.low] using h)
  | .agg cs, h => lows_refs cs (by simpa [AV.low] using h)
  | .tup cs, h => lows_refs cs (by simpa [AV.low] using h)
  | .fn _ a b, h => by
    simp only [AV.low, Bool.and_eq_true] at h
    simp only [AV.refs]
    rw [lows_refs a h.1, lows_refs b h.2]
    rfl
  | .iface _ v, h => low_refs_aux v (by simpa [AV.low] using h)
theorem lows_refs : ∀ (l : List AV), lows 0 l = true → refss l = []
  | [], _ => rfl
  | a :: l, h => by
    simp only [lows, Bool.and_eq_true] at h
    simp only [refss, low_refs_aux a h.1, lows_refs l h.2, List.append_nil]
end
mutual
theorem ren_noref {f : Nat → Nat} : ∀ (a : AV), a.refs = [] → a.ren f = a
  | .bool _, _ | .int _ _, _ | .str _, _ | .nilptr, _ | .nilfn, _ | .nilmap, _ | .nilif, _ | .any, _ => rfl
  | .ptr _ _, h | .ref _ _ _ _ _, h | .map _, h | .own _ _ _ _ _ _, h => by simp [AV.refs] at h
  | .lptr cs _, h => by simp only [AV.ren]; rw [rens_noref cs h]
  | .lit _ _ cs _, h => by simp only [AV.ren]; rw [rens_noref cs h]
  | .agg cs, h => by simp only [AV.ren]; rw [rens_noref cs h]
  | .tup cs, h => by simp only [AV.ren]; rw [rens_noref cs h]
  | .fn _ a b, h => by
    simp only [AV.refs, List.append_eq_nil_iff] at h
    simp only [AV.ren]
    rw [rens_noref a h.1, rens_noref b h.2]
  | .iface _ v, h => by simp only [AV.ren]; rw [ren_noref v h]
theorem rens_noref {f : Nat → Nat} : ∀ (l : List AV), refss l = [] → rens f l = l
  | [], _ => rfl
  | a :: l, h => by
    simp only [refss, List.append_eq_nil_iff] at h
    simp only [rens]
    rw [ren_noref a h.1, rens_noref l h.2]
end
theorem ren_low {f : Nat → Nat} {a : AV} (h : a.low 0 = true) : a.ren f = a := ren_noref a (low_refs_aux a h)
theorem rens_low {l : List AV} (h : lows 0 l = true) (f : Nat → Nat) : rens f l = l := rens_noref l (lows_refs l h)
/-- What a call leaves, seen otherwise. -/
theorem EvCall.vs {P : Program} {T : TT} {G : Nat → Option (List AV)} {f : FuncId} {args : List AV} {H : AH} {k0 k : AV → AH → Prop} (h : EvCall P T G f args H k0) (hk : ∀ r H1, k0 r H1 → ∃ r' H2, VS H.length [r] H1 [r'] H2 ∧ k r' H2) : EvCall P T G f args H k := by
  refine ⟨h.1.elim fun v h1 => h1.elim fun H' h2 => (hk _ _ h2).elim fun r' h3 => h3.elim fun H2 h4 => ⟨r', H2, h4.2⟩, fun hT => ?_⟩
  obtain ⟨h1, h2⟩ := h.2 hT
  refine ⟨h1, fun x vs hr hl hG => (h2 x vs hr hl hG).mono ?_⟩
  rintro e w' ⟨v, r, H1, y, rfl, hk0, rfl, hm, hry, hv⟩
  obtain ⟨r', H2, hvs, hk'⟩ := hk _ _ hk0
  obtain ⟨z, ez, hm2, hrz, hlz⟩ := hvs y [v] hry (by rw [← hr.N]; exact hm.N) ⟨v, [], rfl, hv, rfl⟩
  simp only [RL] at hlz
  obtain ⟨_, _, e1, h3, rfl⟩ := hlz
  cases e1
  exact ⟨v, r', H2, z, rfl, hk', ez, hm.trans (by rw [hr.N]; exact hm2), hrz, h3⟩
/-- A call that is told less of its arguments. -/
theorem EvCall.weaken {P : Program} {T : TT} {G : Nat → Option (List AV)} {f : FuncId} {args args' : List AV} {H : AH} {k : AV → AH → Prop} (hi : ImpL args args') (h : EvCall P T G f args' H k) : EvCall P T G f args H k :=
  ⟨h.1, fun hT => ⟨(h.2 hT).1, fun x vs hr hl hG => (h.2 hT).2 x vs hr (hi.rl hl) hG⟩⟩
mutual
theorem ren_ren {f g : Nat → Nat} : ∀ (a : AV), (∀ l ∈ a.refs, g (f l) = l) → (a.ren f).ren g = a
  | .bool _, _ | .int _ _, _ | .str _, _ | .nilptr, _ | .nilfn, _ | .nilmap, _ | .nilif, _ | .any, _ => rfl
  | .ptr l o, h => by simp only [AV.ren]; rw [h l (by simp [AV.refs])]
  | .ref e l o n s, h => by simp only [AV.ren]; rw [h l (by simp [AV.refs])]
  | .map l, h => by simp only [AV.ren]; rw [h l (by simp [AV.refs])]
  | .lptr cs o, h => by simp only [AV.ren]; rw [rens_rens cs h]
  | .lit n e cs l, h => by simp only [AV.ren]; rw [rens_rens cs h]
  | .agg cs, h => by simp only [AV.ren]; rw [rens_rens cs h]
  | .tup cs, h => by simp only [AV.ren]; rw [rens_rens cs h]
  | .fn p a b, h => by simp only [AV.ren]; rw [rens_rens a fun l hl => h l (by simp [AV.refs, hl]), rens_rens b fun l hl => h l (by simp [AV.refs, hl])]
  | .iface t v, h => by simp only [AV.ren]; rw [ren_ren v h]
  | .own l v n cs len sz, h => by simp only [AV.ren]; rw [h l (by simp [AV.refs]), rens_rens cs fun l hl => h l (by simp [AV.refs, hl])]
theorem rens_rens {f g : Nat → Nat} : ∀ (l : List AV), (∀ k ∈ refss l, g (f k) = k) → rens g (rens f l) = l
  | [], _ => rfl
  | a :: l, h => by simp only [rens]; rw [ren_ren a fun k hk => h k (by simp [refss, hk]), rens_rens l fun k hk => h k (by simp [refss, hk])]
end
theorem renB_renB {f g : Nat → Nat} {b : AB} (h : ∀ l ∈ b.refs, g (f l) = l) : (b.ren f).ren g = b := by
  cases b with
  | cells cs => simp only [AB.ren]; rw [rens_rens cs h]
  | map es bs c =>
    simp only [AB.ren, List.map_map]
    congr 1
    conv => rhs; rw [← List.map_id es]
    refine List.map_congr_left fun e he => ?_
    simp only [AB.refs, List.mem_append] at h
    have hm : ∀ (l : List AV) (a : AV), a ∈ l → ∀ k ∈ a.refs, k ∈ refss l := by
      intro l
      induction l with
      | nil => intro a ha; simp at ha
      | cons b l ih =>
        intro a ha k hk
        rcases List.mem_cons.1 ha with rfl | ha
        · simp [refss, hk]
        · simp [refss, ih a ha k hk]
    refine Prod.ext ?_ ?_
    · exact ren_ren e.1 fun k hk => h k (.inl (hm _ _ (List.mem_map.2 ⟨e, he, rfl⟩) k hk))
    · exact ren_ren e.2 fun k hk => h k (.inr (hm _ _ (List.mem_map.2 ⟨e, he, rfl⟩) k hk))
  | iter src a b c =>
    cases src with
    | none => rfl
    | some l => simp only [AB.ren]; rw [h l (by simp [AB.refs])]
  | _ => rfl
/-- The blocks of a part, at their places in the whole. -/
def Placed (r : Nat → Nat) (H : AH) : List Nat → AH → Prop
  | [], [] => True
  | i :: s, b :: h => H[i]? = some (b.ren r) ∧ Placed r H s h
  | _, _ => False
theorem Placed.get {r : Nat → Nat} {H : AH} : ∀ {s : List Nat} {h : AH}, Placed r H s h → s.length = h.length ∧ ∀ (i : Nat) (b : AB), h[i]? = some b → ∃ o, s[i]? = some o ∧ H[o]? = some (b.ren r)
  | [], [], _ => ⟨rfl, fun i b hb => by simp at hb⟩
  | [], _ :: _, h => h.elim
  | _ :: _, [], h => h.elim
  | o :: s, b :: h, hp => by
    obtain ⟨h1, h2⟩ := Placed.get hp.2
    refine ⟨by simp [h1], fun i b hb => ?_⟩
    cases i with
    | zero => simp at hb; subst hb; exact ⟨o, rfl, hp.1⟩
    | succ i => simpa using h2 i b (by simpa using hb)
/-- The part put back. -/
def putBack (r : Nat → Nat) (H : AH) : List Nat → AH → AH
  | i :: s, b :: h => putBack r (H.set i (b.ren r)) s h
  | _, _ => H
theorem putBack_len {r : Nat → Nat} : ∀ {s : List Nat} {h H : AH}, (putBack r H s h).length = H.length
  | [], _, _ => by simp [putBack]
  | _ :: _, [], _ => by simp [putBack]
  | i :: s, b :: h, H => by simp [putBack, putBack_len (s := s) (h := h)]
theorem putBack_other {r : Nat → Nat} : ∀ {s : List Nat} {h H : AH} {j : Nat}, j ∉ s → (putBack r H s h)[j]? = H[j]?
  | [], _, _, _, _ => by simp [putBack]
  | _ :: _, [], _, _, _ => by simp [putBack]
  | i :: s, b :: h, H, j, hj => by
    simp only [List.mem_cons, not_or] at hj
    simp only [putBack]
    rw [putBack_other hj.2, List.getElem?_set_ne (Ne.symm hj.1)]
theorem putBack_at {r : Nat → Nat} : ∀ {s : List Nat} {h H : AH}, s.Nodup → (∀ o ∈ s, o < H.length) → ∀ {i o : Nat} {b : AB}, s[i]? = some o → h[i]? = some b → (putBack r H s h)[o]? = some (b.ren r)
  | [], _, _, _, _, _, _, _, hs, _ => by simp at hs
  | _ :: _, [], _, _, _, _, _, _, _, hb => by simp at hb
  | a :: s, c :: h, H, hn, hl, i, o, b, hs, hb => by
    simp only [List.nodup_cons] at hn
    simp only [putBack]
    cases i with
    | zero =>
      simp at hs hb
      subst hs hb
      rw [putBack_other hn.1, List.getElem?_set_self (hl _ (by simp))]
    | succ i => exact putBack_at hn.2 (fun o ho => by simpa using hl o (by simp [ho])) (by simpa using hs) (by simpa using hb)
/-- Who names no more than so many blocks. -/
def closedUnder (m : Nat) (r : AV) (h : AH) : Prop := (∀ l ∈ r.refs, l < m) ∧ ∀ b ∈ h, ∀ l ∈ b.refs, l < m

/-- Where the blocks of a part come to stand: at their places, the new ones at the end. -/
def posOf (H : AH) (s : List Nat) (h : AH) : List Nat := s ++ (List.range (h.length - s.length)).map (H.length + ·)
def back (H : AH) (s : List Nat) (h : AH) (i : Nat) : Nat := (posOf H s h).getD i 0
/-- The whole behind a call of a part. -/
def whole (H : AH) (s : List Nat) (h : AH) : AH := putBack (back H s h) (H ++ List.replicate (h.length - s.length) .dead) (posOf H s h) h

theorem EvCall.frame {P : Program} {T : TT} {G : Nat → Option (List AV)} {f : FuncId} (s : List Nat) {args args0 : List AV} {H h0 : AH} {k0 k : AV → AH → Prop} (hnd : s.Nodup) (ha : rens (s.getD · 0) args0 = args) (hH : Placed (s.getD · 0) H s h0)
    (hca : ∀ l ∈ refss args0, l < s.length) (hch : ∀ b ∈ h0, ∀ l ∈ b.refs, l < s.length) (h : EvCall P T G f args0 h0 k0) (hend : ∀ r h1, k0 r h1 → s.length ≤ h1.length ∧ closedUnder h1.length r h1)
    (hk : ∀ r h1, k0 r h1 → k (r.ren (back H s h1)) (whole H s h1)) : EvCall P T G f args H k := by
  refine ⟨h.1.elim fun v h1 => h1.elim fun H' h2 => ⟨_, _, hk _ _ h2⟩, fun hT => ?_⟩
  obtain ⟨h1, h2⟩ := h.2 hT
  refine ⟨h1, fun x vs hr hl hG => ?_⟩
  obtain ⟨hlen, hget⟩ := hH.get
  have hsl : ∀ o ∈ s, o < H.length := fun o ho => by
    obtain ⟨i, hi⟩ := List.getElem?_of_mem ho
    have hil : i < h0.length := by have := (List.getElem?_eq_some_iff.1 hi).1; omega
    obtain ⟨o', ho', hb⟩ := hget i h0[i] (List.getElem?_eq_getElem hil)
    rw [hi] at ho'
    cases ho'
    exact (List.getElem?_eq_some_iff.1 hb).1
  have hgd : ∀ {i o : Nat}, s[i]? = some o → s.getD i 0 = o := fun h => by rw [List.getD_eq_getElem?_getD, h]; rfl
  have hidx : ∀ {i o : Nat}, s[i]? = some o → s.idxOf o = i := fun {i o} h => by
    have ho := List.mem_of_getElem? h
    have hlt := List.idxOf_lt_length_of_mem ho
    have : s[s.idxOf o]? = some o := by rw [List.getElem?_eq_getElem hlt, List.getElem_idxOf]
    exact (List.getElem?_inj hlt hnd).1 (this.trans h.symm)
  have hback : ∀ l, l < s.length → s.idxOf (s.getD l 0) = l := fun l hl => hidx (by rw [List.getD_eq_getElem?_getD, List.getElem?_eq_getElem hl]; rfl)
  -- the part's own state
  let x0 : Cx := { at_ := fun m => x.at_ (s.getD m 0), ver := fun m => x.ver (s.getD m 0), rl := fun m => x.rl (s.getD m 0), F := x.F, N := s.length, w := x.w }
  have hfits0 : ∀ o ∈ s, Fits x x0 s.idxOf o := fun o ho => by
    obtain ⟨i, hi⟩ := List.getElem?_of_mem ho
    have hg : s.getD (s.idxOf o) 0 = o := by rw [hidx hi]; exact hgd hi
    exact ⟨List.idxOf_lt_length_of_mem ho, congrArg x.at_ hg, congrArg x.ver hg, congrArg x.rl hg⟩
  have hrefs : ∀ l, l < s.length → s.getD l 0 ∈ s := fun l hl => by rw [List.getD_eq_getElem?_getD, List.getElem?_eq_getElem hl]; exact List.getElem_mem hl
  have hl0 : RL x0 args0 vs := by
    have := RL.ren (x := x) (y := x0) (r := s.idxOf) (fun _ _ h => h) rfl args vs (fun l hl' => hfits0 l (by rw [← ha] at hl'; exact refss_rens_mem args0 hca hrefs l hl')) hl
    rw [← ha, rens_rens args0 fun l hl' => hback l (hca l hl')] at this
    exact this
  have hblk : ∀ i b, h0[i]? = some b → ∃ o, s[i]? = some o ∧ H[o]? = some (b.ren (s.getD · 0)) ∧ s.getD i 0 = o ∧ b ∈ h0 := fun i b hb => by
    obtain ⟨o, ho, hb'⟩ := hget i b hb
    exact ⟨o, ho, hb', hgd ho, List.mem_of_getElem? hb⟩
  have hlive0 : ∀ m, Live h0 m → ∃ o, s[m]? = some o ∧ Live H o ∧ x0.at_ m = x.at_ o := fun m ⟨b, hb, hbl⟩ => by
    obtain ⟨o, ho, hb', hg, _⟩ := hblk m b hb
    exact ⟨o, ho, ⟨_, hb', by rw [ren_live]; exact hbl⟩, congrArg x.at_ hg⟩
  have hr0 : Rel x0 h0 := by
    refine ⟨hlen, fun i b hb => ?_, fun l m hl hm he => ?_, fun m b hb hbl q hf => ?_, hr.Flt⟩
    · obtain ⟨o, ho, hb', hg, hbm⟩ := hblk i b hb
      have := HoldsB.ren (x := x) (y := x0) (r := s.idxOf) (fun _ _ h => h) rfl (l := o) (m := i) ⟨congrArg x.at_ hg, congrArg x.ver hg, congrArg x.rl hg⟩ (fun l hl' => hfits0 l (refsB_ren_mem (hch b hbm) hrefs l hl')) (hr.block o _ hb')
      rw [renB_renB fun l hl' => hback l (hch b hbm l hl')] at this
      exact this
    · obtain ⟨o, ho, hol, e1⟩ := hlive0 l hl
      obtain ⟨q, hq, hql, e2⟩ := hlive0 m hm
      rw [e1, e2] at he
      have := hr.inj o q hol hql he
      subst this
      rw [← hidx ho, ← hidx hq]
    · obtain ⟨o, ho, hb', hg, hbm⟩ := hblk m b hb
      have e1 : x0.at_ m = x.at_ o := congrArg x.at_ hg
      rw [e1] at hf ⊢
      have := hr.notF o _ hb' (by rw [ren_live]; exact hbl) q hf
      rw [ren_room] at this
      exact this
  refine (h2 x0 vs hr0 hl0 hG).mono ?_
  rintro e w' ⟨v, r0, h1', y, rfl, hk0, rfl, hm, hry, hv⟩
  obtain ⟨hl1, hcr, hch1⟩ := hend _ _ hk0
  -- the places behind the call
  generalize hs' : posOf H s h1' = s'
  generalize he' : h1'.length - s.length = e
  have hb' : back H s h1' = (s'.getD · 0) := by funext i; unfold back; rw [hs']
  have hw' : whole H s h1' = putBack (s'.getD · 0) (H ++ List.replicate e .dead) s' h1' := by unfold whole; rw [hb', hs', he']
  have hs1 : s' = s ++ (List.range e).map (H.length + ·) := by rw [← hs', ← he']; rfl
  have hlen' : s'.length = h1'.length := by rw [hs1]; simp; omega
  have hmem : ∀ j, j ∈ s' ↔ j ∈ s ∨ (H.length ≤ j ∧ j < H.length + e) := fun j => by
    rw [hs1, List.mem_append, List.mem_map]
    refine or_congr Iff.rfl ⟨fun ⟨a, ha, e1⟩ => ?_, fun h => ⟨j - H.length, ?_, by omega⟩⟩
    · have := List.mem_range.1 ha; omega
    · exact List.mem_range.2 (by omega)
  have hold' : ∀ j, j < H.length → (j ∈ s' ↔ j ∈ s) := fun j hj => by rw [hmem]; exact ⟨fun h => h.elim id fun h => by omega, .inl⟩
  have hnd' : s'.Nodup := by
    rw [hs1, List.nodup_append]
    refine ⟨hnd, ?_, fun a ha b hb => ?_⟩
    · exact List.Pairwise.map _ (fun a b h => by omega) List.nodup_range
    · have h1 := hsl a ha
      obtain ⟨c, _, rfl⟩ := List.mem_map.1 hb
      omega
  have hsl' : ∀ o ∈ s', o < (H ++ List.replicate e AB.dead).length := fun o ho => by
    rw [List.length_append, List.length_replicate]
    rcases (hmem o).1 ho with h | h
    · have := hsl o h; omega
    · omega
  have hgd' : ∀ {i o : Nat}, s'[i]? = some o → s'.getD i 0 = o := fun h => by rw [List.getD_eq_getElem?_getD, h]; rfl
  have hidx' : ∀ {i o : Nat}, s'[i]? = some o → s'.idxOf o = i := fun {i o} h => by
    have ho := List.mem_of_getElem? h
    have hlt := List.idxOf_lt_length_of_mem ho
    have : s'[s'.idxOf o]? = some o := by rw [List.getElem?_eq_getElem hlt, List.getElem_idxOf]
    exact (List.getElem?_inj hlt hnd').1 (this.trans h.symm)
  have hpre : ∀ {i o : Nat}, s[i]? = some o → s'[i]? = some o := fun {i o} h => by
    rw [hs1, List.getElem?_append_left (List.getElem?_eq_some_iff.1 h).1]; exact h
  let z : Cx := { at_ := fun j => if j ∈ s' then y.at_ (s'.idxOf j) else x.at_ j, ver := fun j => if j ∈ s' then y.ver (s'.idxOf j) else x.ver j, rl := fun j => if j ∈ s' then y.rl (s'.idxOf j) else x.rl j, F := y.F, N := x.N + e, w := y.w }
  have zin : ∀ {i o : Nat}, s'[i]? = some o → z.at_ o = y.at_ i ∧ z.ver o = y.ver i ∧ z.rl o = y.rl i := fun {i o} h => by
    have ho := List.mem_of_getElem? h
    simp only [z, ho, if_true, hidx' h, and_self]
  have zout : ∀ {j : Nat}, j ∉ s' → z.at_ j = x.at_ j ∧ z.ver j = x.ver j ∧ z.rl j = x.rl j := fun {j} h => by simp only [z, h, if_false, and_self]
  have hown0 : ∀ b, Own x0 h0 b → ∃ o ∈ s, Live H o ∧ (x.at_ o).1 = b := fun b ⟨l, hl', e⟩ => by
    obtain ⟨o, ho, hol, e1⟩ := hlive0 l hl'
    exact ⟨o, List.mem_of_getElem? ho, hol, by rw [← e1]; exact e⟩
  have hownx : ∀ b, Own x0 h0 b → Own x H b := fun b hb => by
    obtain ⟨o, _, hol, e⟩ := hown0 b hb
    exact ⟨o, hol, e⟩
  have hsame : ∀ b, b < x.w.heap.size → ¬ Own x0 h0 b → y.w.heap[b]? = x.w.heap[b]? := fun b hb ho => hm.frame b hb ho
  have hkeep : Keeps x z := by
    refine ⟨fun l hlN e1 => ?_, fun l hlN => ?_, Nat.le_add_right _ _, hm.F, hm.same, hm.sz⟩
    · by_cases hls : l ∈ s
      · obtain ⟨i, hi⟩ := List.getElem?_of_mem hls
        obtain ⟨z1, z2, z3⟩ := zin (hpre hi)
        rw [z2] at e1
        have hil : i < s.length := (List.getElem?_eq_some_iff.1 hi).1
        have g := hm.at_ i hil (by rw [e1]; exact (congrArg x.ver (hgd hi)).symm)
        rw [z1, z3]
        exact ⟨g.1.trans (congrArg x.at_ (hgd hi)), g.2.trans (congrArg x.rl (hgd hi))⟩
      · have hls' : l ∉ s' := fun h => hls ((hold' l (by rw [← hr.N]; exact hlN)).1 h)
        exact ⟨(zout hls').1, (zout hls').2.2⟩
    · by_cases hls : l ∈ s
      · obtain ⟨i, hi⟩ := List.getElem?_of_mem hls
        obtain ⟨z1, z2, z3⟩ := zin (hpre hi)
        have hil : i < s.length := (List.getElem?_eq_some_iff.1 hi).1
        have g := hm.ver i hil
        have e1 : x0.ver i = x.ver l := congrArg x.ver (hgd hi)
        rw [e1] at g
        rw [z2]
        exact g
      · have hls' : l ∉ s' := fun h => hls ((hold' l (by rw [← hr.N]; exact hlN)).1 h)
        rw [(zout hls').2.1]; exact ⟨Nat.le_refl _, id⟩
  have hH'in : ∀ {i o : Nat} {b : AB}, s'[i]? = some o → h1'[i]? = some b → (whole H s h1')[o]? = some (b.ren (s'.getD · 0)) := fun h1 h2 => by rw [hw']; exact putBack_at hnd' hsl' h1 h2
  have hcase : ∀ j b, (whole H s h1')[j]? = some b → (∃ (i : Nat) (b1 : AB), s'[i]? = some j ∧ h1'[i]? = some b1 ∧ b = b1.ren (s'.getD · 0)) ∨ (j ∉ s' ∧ H[j]? = some b) := fun j b hb => by
    by_cases hj : j ∈ s'
    · obtain ⟨i, hi⟩ := List.getElem?_of_mem hj
      have hil : i < h1'.length := by have := (List.getElem?_eq_some_iff.1 hi).1; omega
      have h3 := hH'in hi (List.getElem?_eq_getElem hil)
      rw [hb] at h3
      cases h3
      exact .inl ⟨i, _, hi, List.getElem?_eq_getElem hil, rfl⟩
    · rw [hw', putBack_other hj] at hb
      refine .inr ⟨hj, ?_⟩
      rcases Nat.lt_or_ge j H.length with h | h
      · rwa [List.getElem?_append_left h] at hb
      · have hlt := (List.getElem?_eq_some_iff.1 hb).1
        rw [List.length_append, List.length_replicate] at hlt
        exact absurd ((hmem j).2 (.inr ⟨h, hlt⟩)) hj
  have hLive : ∀ j, Live (whole H s h1') j → (∃ i, s'[i]? = some j ∧ Live h1' i ∧ z.at_ j = y.at_ i) ∨ (j ∉ s' ∧ Live H j ∧ z.at_ j = x.at_ j) := fun j ⟨b, hb, hbl⟩ => by
    rcases hcase j b hb with ⟨i, b1, h3, h4, rfl⟩ | ⟨h3, h4⟩
    · rw [ren_live] at hbl
      exact .inl ⟨i, h3, ⟨b1, h4, hbl⟩, (zin h3).1⟩
    · exact .inr ⟨h3, ⟨b, h4, hbl⟩, (zout h3).1⟩
  have hownz : ∀ b, Own z (whole H s h1') b → Own x H b ∨ x.w.heap.size ≤ b := fun b ⟨j, hj, e⟩ => by
    rcases hLive j hj with ⟨i, h3, h4, e1⟩ | ⟨h3, h4, e1⟩
    · rw [e1] at e
      exact (hm.own b ⟨i, h4, e⟩).imp (hownx b) id
    · rw [e1] at e
      exact .inl ⟨j, h4, e⟩
  have hzN : z.N = (whole H s h1').length := by
    rw [hw', putBack_len, List.length_append, List.length_replicate, ← hr.N]
  have hfz : ∀ {i : Nat}, i < h1'.length → Fits y z (s'.getD · 0) i := fun {i} hi => by
    have hsi : s'[i]? = some s'[i] := List.getElem?_eq_getElem (by omega)
    obtain ⟨z1, z2, z3⟩ := zin hsi
    have hg := hgd' hsi
    refine ⟨?_, ?_, ?_, ?_⟩
    · show s'.getD i 0 < x.N + e
      rw [hg, hr.N]
      have := hsl' _ (List.mem_of_getElem? hsi)
      rwa [List.length_append, List.length_replicate] at this
    · show z.at_ (s'.getD i 0) = _
      rw [hg, z1]
    · show z.ver (s'.getD i 0) = _
      rw [hg, z2]
    · show z.rl (s'.getD i 0) = _
      rw [hg, z3]
  have hapart : ∀ {i j : Nat}, j ∉ s' → Live H j → Live h1' i → (y.at_ i).1 ≠ (x.at_ j).1 := fun {i j} hj hjl hil e => by
    have hlt := Own.lt hr ⟨j, hjl, rfl⟩
    rcases hm.own _ ⟨i, hil, rfl⟩ with ho | ho
    · obtain ⟨o, hos, hol, e2⟩ := hown0 _ ho
      have := hr.inj o j hol hjl (e2.trans e)
      exact hj ((hmem j).2 (.inl (this ▸ hos)))
    · rw [e] at ho
      exact absurd hlt (Nat.not_lt.2 ho)
  refine ⟨v, _, _, z, rfl, hk _ _ hk0, rfl, ?_, ?_, ?_⟩
  · exact ⟨hkeep.at_, hkeep.ver, Nat.le_refl _, Nat.le_add_right _ _, hm.F, hm.same, hm.sz, hm.size, hm.os, hm.tape, hm.output, fun b hb ho => hsame b hb fun h => ho (hownx b h), hownz, fun b m hb => (hm.newF b m hb).imp id (fun h => h.imp (hownx b) id)⟩
  · refine ⟨hzN, fun j b hb => ?_, fun l m hl' hm' he => ?_, fun j b hb hbl q hf => ?_, hry.Flt⟩
    · rcases hcase j b hb with ⟨i, b1, h3, h4, rfl⟩ | ⟨h3, h4⟩
      · exact HoldsB.ren (x := y) (y := z) (fun _ _ h => h) rfl (zin h3) (fun l hl' => hfz (hch1 b1 (List.mem_of_getElem? h4) l hl')) (hry.block i b1 h4)
      · refine HoldsB.keeps hkeep (hr.lt h4) (zout h3).2.1 (fun hbl => hsame _ (Own.lt hr ⟨j, ⟨b, h4, hbl⟩, rfl⟩) fun ho => ?_) (hr.block j b h4)
        obtain ⟨o, hos, hol, e2⟩ := hown0 _ ho
        exact h3 ((hmem j).2 (.inl (hr.inj o j hol ⟨b, h4, hbl⟩ e2 ▸ hos)))
    · rcases hLive l hl' with ⟨i, h3, h4, e1⟩ | ⟨h3, h4, e1⟩ <;> rcases hLive m hm' with ⟨i2, h5, h6, e2⟩ | ⟨h5, h6, e2⟩
      · rw [e1, e2] at he
        have := hry.inj i i2 h4 h6 he
        subst this
        rw [h3] at h5
        cases h5
        rfl
      · rw [e1, e2] at he
        exact absurd he (hapart h5 h6 h4)
      · rw [e1, e2] at he
        exact absurd he.symm (hapart h3 h4 h6)
      · rw [e1, e2] at he
        exact hr.inj l m h4 h6 he
    · rcases hcase j b hb with ⟨i, b1, h3, h4, rfl⟩ | ⟨h3, h4⟩
      · rw [ren_live] at hbl
        rw [ren_room]
        rw [(zin h3).1] at hf ⊢
        exact hry.notF i b1 h4 hbl q hf
      · rw [(zout h3).1] at hf ⊢
        rcases hm.newF _ _ hf with h5 | h5 | h5
        · exact hr.notF j b h4 hbl q h5
        · obtain ⟨o, hos, hol, e2⟩ := hown0 _ h5
          exact absurd ((hmem j).2 (.inl (hr.inj o j hol ⟨b, h4, hbl⟩ e2 ▸ hos))) h3
        · have hlt : (x.at_ j).1 < x.w.heap.size := Own.lt hr ⟨j, ⟨b, h4, hbl⟩, rfl⟩
          exact absurd hlt (Nat.not_lt.2 h5)
  · rw [hb']
    exact R.ren (x := y) (y := z) (fun _ _ h => h) rfl r0 v (fun l hl' => hfz (hcr l hl')) hv
theorem EvCall.hide {P : Program} {T : TT} {G : Nat → Option (List AV)} {f : FuncId} {args : List AV} {k0 : AV → AH → Prop} (ha : lows 0 args = true) (h : EvCall P T G f args [] k0) (hr0 : ∀ r H', k0 r H' → r.low 0 = true) (H : AH) {k : AV → AH → Prop} (hk : ∀ r H', k0 r H' → k r H) : EvCall P T G f args H k := by
  have h' : EvCall P T G f args [] (fun r H' => H' = [] ∧ r.low 0 = true ∧ k r H) := h.vs fun r H1 h1 => ⟨r, [], by
    have := VS.drop (n := 0) (fr := [r]) (H := []) (G := H1) (Nat.le_refl _) (fun b hb => by simp at hb) (by simp [lows, hr0 r H1 h1])
    simpa using this, rfl, hr0 r H1 h1, hk r H1 h1⟩
  refine EvCall.frame [] (args0 := args) (h0 := []) (by simp) (rens_low ha _) trivial (fun l hl => by rw [lows_refs _ ha] at hl; simp at hl) (fun b hb => by simp at hb) h' (fun r h1 ⟨e, h2, _⟩ => ?_) (fun r h1 ⟨e, h2, h3⟩ => ?_)
  · subst e
    exact ⟨Nat.le_refl _, fun l hl => by rw [low_refs_aux r h2] at hl; simp at hl, fun b hb => by simp at hb⟩
  · subst e
    rw [ren_low h2]
    have : whole H [] [] = H := by simp [whole, putBack, posOf]
    rw [this]
    exact h3
end Go.Abs
