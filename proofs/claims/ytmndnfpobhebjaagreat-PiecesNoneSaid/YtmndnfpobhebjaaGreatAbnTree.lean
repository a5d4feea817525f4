/- A region whose order is drawn, in which operations that may change the heap stand in no order: each way is told. -/
import Derived.Test.YtmndnfpobhebjaaGreatAbnDraw2
namespace Go.Abs
inductive PT where
  | done
  | nil
  | alt (c : Nat) (p f1 f2 : List Nat) (next other : PT)
def PT.same : PT → PT → Bool
  | .done, .done => true
  | .nil, .nil => true
  | .alt c p f g n o, .alt c' p' f' g' n' o' => c == c' && p == p' && f == f' && g == g' && n.same n' && o.same o'
  | _, _ => false
theorem PT.same_eq : ∀ {a b : PT}, a.same b = true → a = b
  | .done, .done, _ => rfl
  | .nil, .nil, _ => rfl
  | .alt c p f g n o, .alt c' p' f' g' n' o', h => by
    simp only [PT.same, Bool.and_eq_true, beq_iff_eq] at h
    obtain ⟨⟨⟨⟨⟨rfl, rfl⟩, rfl⟩, rfl⟩, h1⟩, h2⟩ := h
    rw [PT.same_eq h1, PT.same_eq h2]
  | .done, .nil, h => by cases h
  | .done, .alt .., h => by cases h
  | .nil, .done, h => by cases h
  | .nil, .alt .., h => by cases h
  | .alt .., .done, h => by cases h
  | .alt .., .nil, h => by cases h
def evPT (T : TT) (G : Nat → Option (List AV)) (C : ACall) (ops : List Oper) (K : List AV → AH → Prop) : PT → List AV → AH → Prop
  | .done, F, H => K F H
  | .nil, _, _ => True
  | .alt c p f1 f2 next other, F, H => evList T G C ops.toArray (fun F1 H1 => evList T G C ops.toArray (fun F2 H2 => H2 = H1 ∧ chks T G ops F2 H2 (pickOps ops f1) ∧ (chkCs T G C ops F2 H2 (pickOps ops f2) ∧ evPT T G C ops K next F2 H2)) (pickOps ops p) F1 H1) (ops[c]?).toList F H ∧ evPT T G C ops K other F H
def treeOf (T : TT) (cp : Nat) (A : List Nat) (ops : List Oper) : Nat → List Nat → List Nat → PT
  | 0, _, _ => .done
  | n + 1, dn, rem => (rem.filter fun c => rem.all fun c' => !bit A c c').foldr (fun c r => .alt c (idxs (fun i o => free T cp i o && enabled A (rem.erase c) i && bit A i c) ops)
      (idxs (fun i o => cp.testBit i && pureOp T o.op && enabled A (rem.erase c) i && !(c :: dn).any fun c' => bit A c' i) ops) (idxs (fun i o => cp.testBit i && isCallOp o.op && enabled A (rem.erase c) i && !(c :: dn).any fun c' => bit A c' i) ops)
      (treeOf T cp A ops n (c :: dn) (rem.erase c)) r) .nil
theorem evPT_alts {T : TT} {G : Nat → Option (List AV)} {C : ACall} {ops : List Oper} {K : List AV → AH → Prop} {p f1 f2 : Nat → List Nat} {nx : Nat → PT} {F : List AV} {H : AH} : ∀ {l : List Nat}, evPT T G C ops K (l.foldr (fun c r => .alt c (p c) (f1 c) (f2 c) (nx c) r) .nil) F H → ∀ c ∈ l,
    evList T G C ops.toArray (fun F1 H1 => evList T G C ops.toArray (fun F2 H2 => H2 = H1 ∧ chks T G ops F2 H2 (pickOps ops (f1 c)) ∧ (chkCs T G C ops F2 H2 (pickOps ops (f2 c)) ∧ evPT T G C ops K (nx c) F2 H2)) (pickOps ops (p c)) F1 H1) (ops[c]?).toList F H
  | [], _, c, hc => by simp at hc
  | a :: l, h, c, hc => by
    rw [List.foldr_cons] at h
    unfold evPT at h
    rcases List.mem_cons.1 hc with rfl | hc
    · exact h.1
    · exact evPT_alts h.2 c hc

section
variable {T : TT} {G : Nat → Option (List AV)} {C : ACall} {cp : Nat} {A : List Nat} {ops : List Oper} {K : List AV → AH → Prop} {cs : List Nat}
theorem down_bit2 (h1 : okD cs ops = true) (h2 : ∀ i o, ops[i]? = some o → ∀ j, bit A i j = true → ∃ e ∈ o.after, isAny e = true ∧ (e.on = j ∨ bit A e.on j = true)) {listed : Array Bool} (hd : Down ops listed) : ∀ i, i < ops.length → listed.getD i false = true → ∀ j, bit A i j = true → listed.getD j false = true := by
  intro i
  induction i using Nat.strongRecOn with
  | ind i ih =>
    intro hi hl j hj
    have ho : ops[i]? = some ops[i] := List.getElem?_eq_getElem hi
    obtain ⟨e, he, ha, hc⟩ := h2 i _ ho j hj
    have hle := hd i _ ho hl e he ha
    rcases hc with rfl | hc
    · exact hle
    · have := ((okD_spec h1 i _ ho).2.1 e he).1 (any_gc ha)
      exact ih e.on this (by omega) hle j hc
structure TreeAt (T : TT) (G : Nat → Option (List AV)) (C : ACall) (cp : Nat) (A : List Nat) (ops : List Oper) (K : List AV → AH → Prop) (cs dn rem : List Nat) (listed : Array Bool) (fr F : List AV) (H : AH) : Prop where
  down : Down ops listed
  rems : ∀ c ∈ rem, c ∈ cs ∧ listed.getD c false = false
  done : ∀ c ∈ cs, c ∉ rem → listed.getD c false = true
  dns : ∀ c ∈ dn, c < ops.length ∧ listed.getD c false = true
  nodup : rem.Nodup
  chk : ∀ i o, ops[i]? = some o → free T cp i o = true → enabled A rem i = true → listed.getD i false = false → chkC1 T G C ops F H o
  goes : evPT T G C ops K (treeOf T cp A ops rem.length dn rem) F H
  agree : Agree2 ops cs F listed fr

theorem tree_sound (m : Region.Mode) {rank : Nat → Nat} (hrank : Ranked m ops rank) (hC : Ends C) (hCm : Mono C) (hok1 : okD cs ops = true) (hbit : ∀ i o, ops[i]? = some o → ∀ j, bit A i j = true → ∃ e ∈ o.after, isAny e = true ∧ (e.on = j ∨ bit A e.on j = true)) (hcs : ∀ i o, ops[i]? = some o → (i ∈ cs ↔ free T cp i o = false)) (hlt : ∀ c ∈ cs, c < ops.length) :
    ∀ (fuel t : Nat) (listed : Array Bool) (dn rem : List Nat) (fr F : List AV) (H : AH), listed.size = ops.length → listed.toList.count false = fuel → TreeAt T G C cp A ops K cs dn rem listed fr F H →
      evOps T G C ops.toArray K (Region.linearise.go m ops.toArray fuel t listed []) fr H := by
  intro fuel
  induction fuel with
  | zero =>
    intro t listed dn rem fr F H hs hcount hst
    have hall : ∀ i, i < ops.length → listed.getD i false = true := fun i hi => by
      have hn := List.count_eq_zero.1 hcount
      have hlt : i < listed.size := by omega
      cases hb : listed[i] with
      | true => simp [hlt, hb]
      | false => exact absurd (by rw [← hb]; simp) hn
    have hrem : rem = [] := by
      cases rem with
      | nil => rfl
      | cons c rem =>
        have := hst.rems c (by simp)
        rw [hall c (hlt c this.1)] at this
        simp at this
    subst hrem
    have hfr : fr = F := List.ext_getElem? fun k => hst.agree.all k fun j o' hj _ => .inr (hall j (List.getElem?_eq_some_iff.1 hj).1)
    have := hst.goes
    simp only [List.length_nil, treeOf, evPT] at this
    rw [hfr]
    simpa [Region.linearise.go, evOps] using this
  | succ fuel ih =>
    intro t listed dn rem fr F H hs hcount hst
    simp only [Region.linearise.go]
    change evOps T G C ops.toArray K (match (Region.ready m ops.toArray listed)[t % (Region.ready m ops.toArray listed).length]? with
      | some i => Region.linearise.go m ops.toArray fuel (t / (Region.ready m ops.toArray listed).length) (listed.setIfInBounds i true) [i]
      | none => [].reverse) fr H
    cases hi : (Region.ready m ops.toArray listed)[t % (Region.ready m ops.toArray listed).length]? with
    | none =>
      exfalso
      have hnil : Region.ready m ops.toArray listed = [] := by
        cases hr : Region.ready m ops.toArray listed with
        | nil => rfl
        | cons x xs =>
          rw [hr] at hi
          have hlt : t % (x :: xs).length < (x :: xs).length := Nat.mod_lt _ (by simp)
          simp at hi
          simp at hlt
          omega
      have hall : ∀ i, i < ops.length → listed.getD i false = true := by
        suffices hsuf : ∀ r i, rank i = r → i < ops.length → listed.getD i false = true by exact fun i => hsuf _ i rfl
        intro r
        induction r using Nat.strongRecOn with
        | ind r ihi =>
          intro i hir hil
          subst hir
          cases hb : listed.getD i false with
          | true => rfl
          | false =>
            have : i ∈ Region.ready m ops.toArray listed := by
              rw [mem_ready]
              have hlt : i < listed.size := by omega
              refine ⟨by simpa [hlt] using hb, ops[i], by simp, fun e he hbe => ?_⟩
              exact ihi _ (hrank i ops[i] (by simp) e he hbe) e.on rfl ((okD_spec hok1 i ops[i] (by simp)).2.1 e he).2
            rw [hnil] at this
            simp at this
      have : false ∈ listed.toList := List.count_pos_iff.1 (by omega)
      obtain ⟨i, hi', hb⟩ := List.getElem_of_mem this
      have hlt : i < listed.size := by simpa using hi'
      have := hall i (by omega)
      rw [Array.getElem_toList] at hb
      simp [hlt, hb] at this
    | some i =>
      simp only []
      rw [linearise_go_acc, List.reverse_singleton, List.singleton_append]
      have hr := List.mem_of_getElem? hi
      rw [mem_ready] at hr
      obtain ⟨hl, o, ho, hdeps⟩ := hr
      have ho' : ops[i]? = some o := by simpa using ho
      have hin : i < ops.length := (List.getElem?_eq_some_iff.1 ho').1
      have hil : i < listed.size := by omega
      have hlf : listed.getD i false = false := by simpa [hil] using hl
      obtain ⟨hread, hwant⟩ := agree_reads2 (G := G) hok1 hst.agree ho' hdeps
      -- what it awaits is listed
      have hbits : ∀ j, bit A i j = true → listed.getD j false = true := fun j hj => by
        obtain ⟨e, he, ha, hc⟩ := hbit i o ho' j hj
        have hle := hdeps e he (isAny_binds ha m)
        rcases hc with rfl | hc
        · exact hle
        · exact down_bit2 hok1 hbit hst.down e.on ((okD_spec hok1 i o ho').2.1 e he).2 hle j hc
      have hdown : Down ops (listed.setIfInBounds i true) := fun j oj hj hlj e he ha => by
        by_cases hij : j = i
        · subst hij
          rw [ho'] at hj
          cases hj
          have hle := hdeps e he (isAny_binds ha m)
          by_cases hie : j = e.on
          · rw [← hie]; simp [hil]
          · rw [getD_set_ne false hie]; exact hle
        · rw [getD_set_ne false (Ne.symm hij)] at hlj
          have hle := hst.down j oj hj hlj e he ha
          by_cases hie : i = e.on
          · rw [← hie]; simp [hil]
          · rw [getD_set_ne false hie]; exact hle
      have hcnt : (listed.setIfInBounds i true).toList.count false = fuel := by
        rw [Array.toList_setIfInBounds, List.count_set (by simpa using hil)]
        have : listed.toList[i]'(by simpa using hil) = false := by
          rw [Array.getElem_toList]
          simpa [hil] using hl
        rw [this, hcount]
        rfl
      show evOps T G C ops.toArray K (i :: _) fr H
      unfold evOps
      rw [ho]
      simp only [hwant]
      -- operands are as in F
      have hop : ∀ k : AV → AH → Prop, evOp T G C F H o.op k → evOp T G C fr H o.op k := fun k hk => evOp_congr hread hk
      by_cases hfree : free T cp i o = true
      · -- free
        have hen : enabled A rem i = true := by
          unfold enabled
          rw [List.all_eq_true]
          intro c hc
          cases hb : bit A i c with
          | false => rfl
          | true => have := hbits c hb; rw [(hst.rems c hc).2] at this; cases this
        have hnic : i ∉ cs := fun h => by have := (hcs i o ho').1 h; rw [hfree] at this; cases this
        obtain ⟨d, hd⟩ := (okD_spec hok1 i o ho').1.resolve_left hnic
        obtain ⟨v, hv, hcase⟩ := hst.chk i o ho' hfree hen hlf
        rw [hd, Option.bind_some] at hv
        have hnext : TreeAt T G C cp A ops K cs dn rem (listed.setIfInBounds i true) (fr.set d v) F H := by
          have hic : ∀ c ∈ rem, i ≠ c := fun c hc e => by
            have := (hcs i o ho').1 (e ▸ (hst.rems c hc).1)
            rw [hfree] at this; cases this
          refine ⟨hdown, fun c hc => ⟨(hst.rems c hc).1, by rw [getD_set_ne false (hic c hc)]; exact (hst.rems c hc).2⟩, fun c hc hn => ?_, fun c hc => ?_, hst.nodup, fun j oj hj hf he hlj => ?_, hst.goes, ⟨by simp [hst.agree.len], fun k hk => ?_⟩⟩
          · by_cases h : i = c
            · subst h; simp [hil]
            · rw [getD_set_ne false h]; exact hst.done c hc hn
          · by_cases h : i = c
            · subst h; exact ⟨hin, by simp [hil]⟩
            · exact ⟨(hst.dns c hc).1, by rw [getD_set_ne false h]; exact (hst.dns c hc).2⟩
          · by_cases h : i = j
            · subst h; simp [hil] at hlj
            · rw [getD_set_ne false h] at hlj; exact hst.chk j oj hj hf he hlj
          · by_cases hdk : d = k
            · subst hdk
              have hdl := (List.getElem?_eq_some_iff.1 hv).1
              rw [hv, List.getElem?_set_self (by rw [hst.agree.len]; exact hdl)]
            · rw [List.getElem?_set_ne hdk]
              refine hst.agree.all k fun j oj hj hjk => (hk j oj hj hjk).imp id fun hlj => ?_
              have hij : i ≠ j := fun e => by
                subst e
                rw [ho'] at hj
                cases hj
                rw [hd] at hjk
                cases hjk
                exact hdk rfl
              rwa [getD_set_ne false hij] at hlj
        have hgo := ih (t / (Region.ready m ops.toArray listed).length) _ _ _ _ _ _ (by simpa using hs) hcnt hnext
        rcases hcase with ⟨hw, hop'⟩ | ⟨hw, hv'⟩
        · rw [if_pos hw]
          refine hop _ (hop' _ ?_)
          rw [hd]
          exact hgo
        · rw [if_neg (by simp [hw]), hd, ← hv']
          exact hgo
      · -- a link
        have hfree' : free T cp i o = false := by simpa using hfree
        have hic := (hcs i o ho').2 hfree'
        have hirem : i ∈ rem := Classical.byContradiction fun hn => by rw [hst.done i hic hn] at hlf; cases hlf
        have hself : bit A i i = false := by
          cases hb : bit A i i with
          | false => rfl
          | true => have := hbits i hb; rw [hlf] at this; cases this
        have hmin : i ∈ rem.filter fun c => rem.all fun c' => !bit A c c' := by
          rw [List.mem_filter, List.all_eq_true]
          refine ⟨hirem, fun c hc => ?_⟩
          cases hb : bit A i c with
          | false => rfl
          | true => have := hbits c hb; rw [(hst.rems c hc).2] at this; cases this
        obtain ⟨n, hn⟩ : ∃ n, rem.length = n + 1 := ⟨rem.length - 1, by have := List.length_pos_of_mem hirem; omega⟩
        have hlen' : (rem.erase i).length = n := by rw [List.length_erase_of_mem hirem, hn]; rfl
        have hgoes := hst.goes
        rw [hn] at hgoes
        unfold treeOf at hgoes
        have hgoes := evPT_alts hgoes i hmin
        rw [ho', Option.toList_some] at hgoes
        simp only [← someOps_idx] at hgoes
        have hne : ∀ c ∈ rem.erase i, i ≠ c := fun c hc e => by
          subst e
          exact absurd hc (List.Nodup.not_mem_erase hst.nodup)
        have next : ∀ v H1, evList T G C ops.toArray (fun F2 H2 => H2 = H1 ∧
            chks T G ops F2 H2 (someOps (fun j o => cp.testBit j && pureOp T o.op && enabled A (rem.erase i) j && !(i :: dn).any fun c' => bit A c' j) ops) ∧
            (chkCs T G C ops F2 H2 (someOps (fun j o => cp.testBit j && isCallOp o.op && enabled A (rem.erase i) j && !(i :: dn).any fun c' => bit A c' j) ops) ∧ evPT T G C ops K (treeOf T cp A ops n (i :: dn) (rem.erase i)) F2 H2))
              (someOps (fun j o => free T cp j o && enabled A (rem.erase i) j && bit A j i) ops) (aput F o.dst v) H1 →
            evOps T G C ops.toArray K (Region.linearise.go m ops.toArray fuel (t / (Region.ready m ops.toArray listed).length) (listed.setIfInBounds i true) []) (aput fr o.dst v) H1 := by
          intro v H1 h1
          obtain ⟨F2, H2, ⟨rfl, hc1, hc2, hgo⟩, hlen, hkeep⟩ := evList_ends hC _ _ _ h1
          have hal : ∀ (L : List AV) (v : AV), (aput L o.dst v).length = L.length := fun L v => by cases o.dst <;> simp [aput]
          refine ih _ _ (i :: dn) (rem.erase i) _ F2 _ (by simpa using hs) hcnt ⟨hdown, fun c hc => ⟨(hst.rems c (List.mem_of_mem_erase hc)).1, ?_⟩, fun c hc hn' => ?_, fun c hc => ?_, hst.nodup.erase i, fun j oj hj hf he hlj => ?_, by rw [hlen']; exact hgo, ⟨by rw [hal, hlen, hal, hst.agree.len], fun k hk => ?_⟩⟩
          · rw [getD_set_ne false (hne c hc)]
            exact (hst.rems c (List.mem_of_mem_erase hc)).2
          · by_cases h : i = c
            · subst h; simp [hil]
            · rw [getD_set_ne false h]
              exact hst.done c hc fun hcr => hn' ((List.mem_erase_of_ne (Ne.symm h)).2 hcr)
          · rcases List.mem_cons.1 hc with rfl | hc
            · exact ⟨hin, by simp [hil]⟩
            · refine ⟨(hst.dns c hc).1, ?_⟩
              by_cases h : i = c
              · subst h; simp [hil]
              · rw [getD_set_ne false h]; exact (hst.dns c hc).2
          · have hij : i ≠ j := fun e => by subst e; rw [ho'] at hj; cases hj; rw [hf] at hfree'; cases hfree'
            rw [getD_set_ne false hij] at hlj
            have hnb : ((i :: dn).any fun c' => bit A c' j) = false := by
              rw [List.any_eq_false]
              intro c hc hb
              have hl2 : listed.getD j false = true := by
                rcases List.mem_cons.1 hc with rfl | hc
                · exact hbits j hb
                · exact down_bit2 hok1 hbit hst.down c (hst.dns c hc).1 (hst.dns c hc).2 j hb
              rw [hlj] at hl2
              cases hl2
            unfold free at hf
            rw [Bool.and_eq_true, Bool.or_eq_true] at hf
            rcases hf.2 with hp | hp
            · exact chkC1_of (chks_mem hc1 (mem_someOps.2 ⟨j, hj, by rw [hnb]; simp [hf.1, hp, he]⟩))
            · exact chkCs_mem hc2 (mem_someOps.2 ⟨j, hj, by rw [hnb]; simp [hf.1, hp, he]⟩)
          · -- a slot
            have hnew : ∀ o2 ∈ someOps (fun j o => free T cp j o && enabled A (rem.erase i) j && bit A j i) ops, o2.dst ≠ some k := fun o2 ho2 e => by
              obtain ⟨j2, hj2, hq⟩ := mem_someOps.1 ho2
              simp only [Bool.and_eq_true] at hq
              have hne : i ≠ j2 := fun e => by subst e; rw [hself] at hq; cases hq.2
              rcases hk j2 o2 hj2 e with h | h
              · have := (hcs j2 o2 hj2).1 h
                rw [hq.1.1] at this
                cases this
              · rw [getD_set_ne false hne] at h
                have := down_bit2 hok1 hbit hst.down j2 (List.getElem?_eq_some_iff.1 hj2).1 h i hq.2
                rw [hlf] at this
                cases this
            rw [hkeep k hnew]
            cases hd : o.dst with
            | none =>
              refine hst.agree.all k fun j oj hj hjk => (hk j oj hj hjk).elim .inl fun hlj => ?_
              by_cases hij : i = j
              · exact .inl (hij ▸ hic)
              · rw [getD_set_ne false hij] at hlj; exact .inr hlj
            | some d =>
              simp only [aput_some]
              by_cases hdk : d = k
              · rw [List.getElem?_set, List.getElem?_set, hst.agree.len, if_pos hdk, if_pos hdk]
              · rw [List.getElem?_set_ne hdk, List.getElem?_set_ne hdk]
                refine hst.agree.all k fun j oj hj hjk => (hk j oj hj hjk).elim .inl fun hlj => ?_
                by_cases hij : i = j
                · exact .inl (hij ▸ hic)
                · rw [getD_set_ne false hij] at hlj; exact .inr hlj
        unfold evList at hgoes
        by_cases hw : Region.wanted o (ayielded ops.toArray F) = true
        · rw [if_pos hw] at hgoes ⊢
          exact hop _ (evOp_mono (fun _ _ _ _ _ h hc => hCm _ _ _ _ _ h hc) (fun v H1 h1 => next v H1 h1) hgoes)
        · rw [if_neg hw] at hgoes ⊢
          exact next _ H hgoes
def okMasks (A : List Nat) (ops : List Oper) : Bool := (List.range ops.length).all fun i => match ops[i]? with | some o => A[i]? == some (maskOf A o) | none => false
theorem okMasks_spec (h : okMasks A ops = true) : ∀ i o, ops[i]? = some o → ∀ j, bit A i j = true → ∃ e ∈ o.after, isAny e = true ∧ (e.on = j ∨ bit A e.on j = true) := fun i o hi j hj => by
  unfold okMasks at h
  simp only [List.all_eq_true, List.mem_range] at h
  have := h i (List.getElem?_eq_some_iff.1 hi).1
  rw [hi] at this
  simp only [beq_iff_eq] at this
  refine bit_maskOf ?_
  unfold bit at hj
  rw [List.getD_eq_getElem?_getD, this] at hj
  exact hj
def treeOk (T : TT) (cp gr : Nat) (ops : List Oper) (p0 f1 f2 : List Nat) (pt : PT) : Bool :=
  let A := masksGo ops []
  let cs := linksOf (free T cp) ops
  okD cs ops && okMasks A ops && okGc ops gr && decide (p0 = idxs (fun i o => free T cp i o && enabled A cs i) ops) && decide (f1 = idxs (fun i o => cp.testBit i && pureOp T o.op && enabled A cs i) ops) &&
    decide (f2 = idxs (fun i o => cp.testBit i && isCallOp o.op && enabled A cs i) ops) && pt.same (treeOf T cp A ops cs.length [] cs)
theorem go_tree {mx : Bool} {n : Nat} {fr : List AV} {H : AH} {Q : APost} (id : Nat) (cp gr : Nat) (p0 f1 f2 : List Nat) (pt : PT) (hC : Ends C) (hCm : Mono C) (hok : treeOk T cp gr ops p0 f1 f2 pt = true)
    (h : evList T G C ops.toArray (fun F H' => H' = H ∧ chks T G ops F H' (pickOps ops f1) ∧ (chkCs T G C ops F H' (pickOps ops f2) ∧ evPT T G C ops (fun fr H => ∃ fr' H', VS n fr H fr' H' ∧ Q .normal fr' H') pt F H')) (pickOps ops p0) fr H) : ev T G mx C n (.region id ops.toArray true) fr H Q := by
  unfold treeOk at hok
  simp only [Bool.and_eq_true, decide_eq_true_eq] at hok
  obtain ⟨⟨⟨⟨⟨⟨h1, h2⟩, hgc⟩, rfl⟩, rfl⟩, rfl⟩, h3⟩ := hok
  have h3 := PT.same_eq h3
  subst h3
  simp only [← someOps_idx] at h
  have hmem : ∀ i o, ops[i]? = some o → (i ∈ linksOf (free T cp) ops ↔ free T cp i o = false) := fun i o hi => by
    unfold linksOf
    rw [List.mem_filter, List.mem_range, hi]
    have := (List.getElem?_eq_some_iff.1 hi).1
    simp [this]
  obtain ⟨F, H', ⟨rfl, hc1, hc2, hgoes⟩, hlen, hkeep⟩ := evList_ends hC _ _ _ h
  have hgo : ∀ (m : Region.Mode) (rank : Nat → Nat), Ranked m ops rank → ∀ t, evOps T G C ops.toArray (fun fr H => ∃ fr' H', VS n fr H fr' H' ∧ Q .normal fr' H') (Region.linearise m ops.toArray t) fr H' := fun m rank hr t => ?_
  · unfold ev
    simp only [if_true]
    intro t
    unfold Region.schedule
    split
    · exact hgo .any (fun i => i) (ranked_id (by decide) h1) t
    · split
      · exact hgo .text (fun i => i) (ranked_id (by decide) h1) _
      · exact hgo .gc _ (ranked_gc hgc) _
  unfold Region.linearise
  have hno : ∀ i, (Array.replicate ops.toArray.size false).getD i false = false := fun i => by by_cases hi : i < ops.length <;> simp [hi]
  refine tree_sound m hr hC hCm h1 (okMasks_spec h2) hmem (fun c hc => ?_) _ _ _ [] _ _ F _ (by simp) (by simp) ⟨fun i o _ hl => ?_, fun c hc => ⟨hc, hno c⟩, fun c hc hn' => absurd hc hn', fun c hc => by simp at hc, List.Pairwise.filter _ List.nodup_range, fun i o hi hf he _ => ?_, hgoes, ⟨hlen.symm, fun k hk => (hkeep k (fun o ho e => ?_)).symm⟩⟩
  · unfold linksOf at hc
    exact List.mem_range.1 (List.mem_filter.1 hc).1
  · rw [hno] at hl; cases hl
  · unfold free at hf
    rw [Bool.and_eq_true, Bool.or_eq_true] at hf
    rcases hf.2 with hp | hp
    · exact chkC1_of (chks_mem hc1 (mem_someOps.2 ⟨i, hi, by simp [hf.1, hp, he]⟩))
    · exact chkCs_mem hc2 (mem_someOps.2 ⟨i, hi, by simp [hf.1, hp, he]⟩)
  · obtain ⟨i, hi, hq⟩ := mem_someOps.1 ho
    simp only [Bool.and_eq_true] at hq
    rcases hk i o hi e with h | h
    · have := (hmem i o hi).1 h
      rw [hq.1] at this
      cases this
    · rw [hno] at h; cases h
end
end Go.Abs
