/- Maps: sound. -/
import Derived.Test.YtmndnfpobhebjaaGreatAbnMapOps
import Derived.Test.YtmndnfpobhebjaaGreatAbnMake
import Derived.Test.YtmndnfpobhebjaaGreatAbnConv
import Derived.MapKept
namespace Go.Abs

theorem map_erase {α β : Type} {g : α → β} : ∀ (l : List α) (n : Nat), (l.eraseIdx n).map g = (l.map g).eraseIdx n
  | [], _ => rfl
  | a :: l, 0 => rfl
  | a :: l, n + 1 => by simp [map_erase l n]
theorem RL.eraseIdx {x : Cx} : ∀ {as : List AV} {vs : List Value}, RL x as vs → ∀ (n : Nat), RL x (as.eraseIdx n) (vs.eraseIdx n)
  | [], _, h, _ => by simp only [RL] at h; simp [h, RL]
  | a :: as, _, h, n => by
    simp only [RL] at h
    obtain ⟨v, r, rfl, h1, h2⟩ := h
    cases n with
    | zero => exact h2
    | succ n => exact ⟨v, r.eraseIdx n, rfl, h1, RL.eraseIdx h2 n⟩
/-- What a search comes to in the world. -/
def FoundC (x : Cx) (es : List (AV × AV)) (c : List MapEntry) (i : Nat) : Option (Nat × AV × AV) → Option (Nat × Value) → Prop
  | none, r => r = none
  | some (j, k, v), r => ∃ m e, j = i + m ∧ es[m]? = some (k, v) ∧ c[m]? = some e ∧ R x k e.key ∧ R x v e.val ∧ r = some (j, e.val)
theorem FoundC.succ {x : Cx} {es : List (AV × AV)} {c : List MapEntry} {i : Nat} {a : AV × AV} {e : MapEntry} {r : Option (Nat × AV × AV)} {r' : Option (Nat × Value)} (h : FoundC x es c (i + 1) r r') : FoundC x (a :: es) (e :: c) i r r' := by
  cases r with
  | none => exact h
  | some r =>
    obtain ⟨j, k, v⟩ := r
    obtain ⟨m, e', h1, h2, h3, h4, h5, h6⟩ := h
    exact ⟨m + 1, e', by omega, by simpa using h2, by simpa using h3, h4, h5, h6⟩

section
variable {P : Program} {T : TT} (hT : TyOk P T)

theorem same_equalIn (n : Nat) {t : TypeId} {d : TypeDesc} (hu : P.underlying t = some d) {u v : Value} {b : Bool} (h : Instr.sameNow d u v = some b) (w : World) : (Op.equalIn (n + 1) t u v).run P w = .ok b w := by
  unfold Instr.sameNow at h
  split at h
  · split at h
    · rename_i hk
      cases h
      subst hk
      simp [Op.equalIn, run_underlying hu]
    · cases h
  · cases h
    simp [Op.equalIn, run_underlying hu]
  · cases h
    simp [Op.equalIn, run_underlying hu]
  · cases h
theorem same_equal {t : TypeId} {d : TypeDesc} (hu : P.underlying t = some d) {u v : Value} {b : Bool} (h : Instr.sameNow d u v = some b) (w : World) : (Op.equal t u v).run P w = .ok b w := same_equalIn 9999 hu h w

include hT
theorem findAsking_sound {x : Cx} {t : TypeId} {key : AV} {kv : Value} (hk : R x key kv) (w : World) : ∀ (es : List (AV × AV)) (c : List MapEntry) (i : Nat) (r : Option (Nat × AV × AV)), RL x (es.map (·.1)) (c.map (·.key)) → RL x (es.map (·.2)) (c.map (·.val)) →
    afind T t key es i = some r → ∃ r', (Instr.findAsking t kv c i).run P w = .ok r' w ∧ FoundC x es c i r r'
  | [], [], i, r, _, _, h => by
    simp only [afind, Option.some.injEq] at h
    subst h
    exact ⟨none, by simp [Instr.findAsking], rfl⟩
  | [], _ :: _, _, _, h, _, _ => by simp [RL] at h
  | _ :: _, [], _, _, h, _, _ => by simp [RL] at h
  | a :: es, e :: c, i, r, h1, h2, h => by
    simp only [List.map_cons, RL] at h1 h2
    obtain ⟨_, _, e1, h1a, h1b⟩ := h1
    cases e1
    obtain ⟨_, _, e2, h2a, h2b⟩ := h2
    cases e2
    simp only [afind] at h
    cases hq : aeq T 10000 t key a.1 with
    | none => rw [hq] at h; cases h
    | some b =>
      have heq : (Op.equal t kv e.key).run P w = .ok b w := aeq_sound hT 10000 t key a.1 kv e.key b w hk h1a hq
      rw [hq] at h
      cases b with
      | true =>
        cases h
        exact ⟨some (i, e.val), by simp [Instr.findAsking, heq], 0, e, rfl, rfl, rfl, h1a, h2a, rfl⟩
      | false =>
        obtain ⟨r', g1, g2⟩ := findAsking_sound hk w es c (i + 1) r h1b h2b h
        exact ⟨r', by simpa [Instr.findAsking, heq] using g1, g2.succ⟩
theorem findNow_sound {x : Cx} {t : TypeId} {d : TypeDesc} (hu : P.underlying t = some d) {key : AV} {kv : Value} (hk : R x key kv) : ∀ (es : List (AV × AV)) (c : List MapEntry) (i : Nat) (r : Option (Nat × AV × AV)) (r' : Option (Nat × Value)),
    RL x (es.map (·.1)) (c.map (·.key)) → RL x (es.map (·.2)) (c.map (·.val)) → afind T t key es i = some r → Instr.findNow d kv c i = some r' → FoundC x es c i r r'
  | [], [], i, r, r', _, _, h, h' => by
    simp only [afind, Option.some.injEq] at h
    simp only [Instr.findNow, Option.some.injEq] at h'
    subst h h'
    rfl
  | [], _ :: _, _, _, _, h, _, _, _ => by simp [RL] at h
  | _ :: _, [], _, _, _, h, _, _, _ => by simp [RL] at h
  | a :: es, e :: c, i, r, r', h1, h2, h, h' => by
    simp only [List.map_cons, RL] at h1 h2
    obtain ⟨_, _, e1, h1a, h1b⟩ := h1
    cases e1
    obtain ⟨_, _, e2, h2a, h2b⟩ := h2
    cases e2
    simp only [afind] at h
    simp only [Instr.findNow] at h'
    cases hq : aeq T 10000 t key a.1 with
    | none => rw [hq] at h; cases h
    | some b =>
      have heq : (Op.equal t kv e.key).run P x.w = .ok b x.w := aeq_sound hT 10000 t key a.1 kv e.key b x.w hk h1a hq
      rw [hq] at h
      cases hs : Instr.sameNow d kv e.key with
      | none => rw [hs] at h'; cases h'
      | some b' =>
        have := same_equal hu hs x.w
        rw [heq] at this
        cases this
        rw [hs] at h'
        cases b with
        | true =>
          cases h
          cases h'
          exact ⟨0, e, rfl, rfl, rfl, h1a, h2a, rfl⟩
        | false => exact (findNow_sound hu hk es c (i + 1) r r' h1b h2b h h').succ
omit hT in
theorem keyOk_known {k : TypeId} (h : keyOk T k = true) : (T k).d.known = true := by
  unfold keyOk at h
  cases hd : (T k).d <;> simp_all [AD.known]
theorem findKey_sound {x : Cx} {t : TypeId} (ht : keyOk T t = true) {key : AV} {kv : Value} (hk : R x key kv) {es : List (AV × AV)} {c : List MapEntry} {r : Option (Nat × AV × AV)} (h1 : RL x (es.map (·.1)) (c.map (·.key))) (h2 : RL x (es.map (·.2)) (c.map (·.val))) (h : afind T t key es 0 = some r) (w : World) :
    ∃ r', (Instr.findKey t kv c).run P w = .ok r' w ∧ FoundC x es c 0 r r' := by
  obtain ⟨d, hu⟩ := known_underlying hT (keyOk_known ht)
  unfold Instr.findKey
  simp only [Sem.run_bind, run_underlying hu, Result.andThen_ok]
  cases hn : Instr.findNow d kv c 0 with
  | some r' => exact ⟨r', by simp, findNow_sound hT hu hk es c 0 r r' h1 h2 h hn⟩
  | none => exact findAsking_sound hT hk w es c 0 r h1 h2 h

theorem checkFlat_sound (b : Bool) (n : Nat) {t : TypeId} (hk : (match (T t).d with | .bool | .int _ | .str => true | _ => false) = true) (kv : Value) (w : World) : (Instr.checkKey b (n + 1) t kv).run P w = .ok () w := by
  have hkn : (T t).d.known = true := by cases hd : (T t).d <;> simp_all [AD.known]
  have hd := (hT.ty t hkn).desc
  unfold Instr.checkKey
  cases hdk : (T t).d <;> rw [hdk] at hd hk <;> simp only [DescOk] at hd <;> first | (cases hk; done) | skip
  all_goals simp [run_underlying hd]
theorem checkKey_sound (b : Bool) (n : Nat) {x : Cx} {k : TypeId} (hk : keyOk T k = true) {key : AV} (hf : keyFits T k key = true) {kv : Value} (hr : R x key kv) (w : World) : (Instr.checkKey b (n + 2) k kv).run P w = .ok () w := by
  have hk0 := hk
  have hd := (hT.ty k (keyOk_known hk)).desc
  unfold keyOk at hk
  unfold keyFits at hf
  cases hdk : (T k).d <;> rw [hdk] at hd hk hf <;> simp only [DescOk] at hd <;> first | (cases hk; done) | skip
  case struct fs =>
    obtain ⟨fields, hu, hfs⟩ := hd
    cases key <;> first | (cases hf; done) | skip
    rename_i cs
    simp only [R] at hr
    obtain ⟨hc, vs, rfl, hl⟩ := hr
    unfold Instr.checkKey
    simp only [Sem.run_bind, run_underlying hu, Result.andThen_ok]
    rw [← Array.forIn_toList]
    subst hfs
    simp only [List.all_map, List.all_eq_true, Function.comp_apply, Bool.or_eq_true] at hk hf
    have key : ∀ l : List Field, (∀ f ∈ l, f ∈ fields.toList) → (forIn l PUnit.unit fun f (_ : PUnit) => if f.name = "_" then (pure (ForInStep.yield PUnit.unit) : Sem (ForInStep PUnit)) else do
        let p ← part f.type vs.toArray f.offset
        (fun _ => ForInStep.yield PUnit.unit) <$> Instr.checkKey b (n + 1) f.type p).run P w = .ok PUnit.unit w := by
      intro l
      induction l with
      | nil => intro _; simp
      | cons f l ih =>
        intro hm
        rw [List.forIn_cons]
        have ih' := ih (fun g hg => hm g (by simp [hg]))
        by_cases hn : f.name = "_"
        · simp only [hn, if_true, Sem.run_bind, Sem.run_pure, Result.andThen_ok]
          exact ih'
        · have h1 := hk f (hm f (by simp))
          have h2 := (hf f (hm f (by simp))).resolve_left (by simpa using hn)
          obtain ⟨p, hp⟩ := Option.isSome_iff_exists.1 h2
          obtain ⟨u, hu2, _⟩ := part_sound hT hl hc hp w
          have h3 := checkFlat_sound hT b n h1 u w
          simp only [hn, if_false, Sem.run_bind, hu2, Result.andThen_ok, map_eq_pure_bind, h3, Sem.run_pure]
          exact ih'
    have h9 := key fields.toList (fun _ h => h)
    simp at h9
    simp [h9]
  all_goals exact checkFlat_sound hT b (n + 1) (by rw [hdk]) kv w

omit hT in
theorem amap_some {H : AH} {l : Nat} {es : List (AV × AV)} {bs : List Nat} {clock : Nat} (h : amap H l = some (es, bs, clock)) : H[l]? = some (.map es bs clock) := by
  unfold amap at h
  split at h
  · rename_i hl
    cases h
    exact hl
  · cases h
omit hT in
theorem entries_sound {x : Cx} {H : AH} (hr : Rel x H) {a : AV} {u : Value} {es : List (AV × AV)} (ha : R x a u) (h : aentries H a = some es) :
    (u = .map none ∧ a = .nilmap ∧ es = []) ∨ ∃ l c bs clock, a = .map l ∧ u = .map (some (x.at_ l).1) ∧ amap H l = some (es, bs, clock) ∧ H[l]? = some (.map es bs clock) ∧ x.w.heap[(x.at_ l).1]? = some (.map c clock) ∧ RL x (es.map (·.1)) (c.toList.map (·.key)) ∧ RL x (es.map (·.2)) (c.toList.map (·.val)) ∧ c.toList.map (·.born) = bs := by
  unfold aentries at h
  split at h
  · cases h
    simp only [R] at ha
    exact .inl ⟨ha, rfl, rfl⟩
  · rename_i l
    simp only [Option.map_eq_some_iff] at h
    obtain ⟨⟨es', bs, clock⟩, hm, rfl⟩ := h
    have hl := amap_some hm
    simp only [R] at ha
    obtain ⟨_, c, h1, h2, h3, h4⟩ := hr.block l _ hl
    exact .inr ⟨l, c, bs, clock, rfl, ha.2.2, hm, hl, h1, h2, h3, h4⟩
  · cases h

omit hT in
theorem getMap_run {w : World} {r : Nat} {c : Array MapEntry} {clock : Nat} (h : w.heap[r]? = some (.map c clock)) : (getObj r).run P w = .ok (.map c clock) w := by simp [getObj, Sem.run, h]
omit hT in
theorem setMap_run {w : World} {r : Nat} {c : Array MapEntry} {clock : Nat} (o : Obj) (h : w.heap[r]? = some (.map c clock)) : (setObj r o).run P w = .ok () { w with heap := w.heap.setIfInBounds r o } := by simp [setObj, Sem.run, h]
theorem azero_sound {e : TypeId} {z : AV} (h : azero T e = some z) (x : Cx) (w : World) : ∃ v, (zeroValue e).run P w = .ok v w ∧ R x z v := by
  unfold azero at h
  split at h
  · rename_i hk
    obtain ⟨i, v, hi, hs, hb, hz, hzs, hm⟩ := (hT.ty e hk).info
    have hag := (hT.ty e hk).zagg i v hi hz
    have hl := RL.closed (x := x) hm
    refine ⟨v, by simp [zeroValue, typeInfo, hi, hz], ?_⟩
    split at h
    · rename_i ha
      cases h
      rw [ha] at hag
      cases v <;> simp only [isAggV] at hag <;> first | (cases hag; done) | skip
      rename_i vs
      simp only [R]
      exact ⟨hl.2, vs.toList, by simp, hl.1⟩
    · rename_i ha
      split at h
      · rename_i z' hz'
        cases h
        rw [hz'] at hl
        have hv : v.cells.toList = [v] := by
          cases v <;> first | rfl | skip
          simp [isAggV] at hag
          rw [← hag] at ha
          exact absurd rfl ha
        rw [hv] at hl
        simp only [RL] at hl
        obtain ⟨⟨_, _, e1, h1, _⟩, _⟩ := hl
        cases e1
        exact h1
      · cases h
  · cases h

theorem lookup_end {x : Cx} {t k e : TypeId} (hd : (T t).d = .map k e) {H : AH} {a key v : AV} {r : Option (Nat × AV × AV)} (hf : afound T H t a key = some r) {b : Bool} (h : alookup T H t a key b = some v) {es : List (AV × AV)} {c : List MapEntry} {r' : Option (Nat × Value)} (hfc : FoundC x es c 0 r r') :
    ∃ q, (match r' with
      | some (_, v) => (pure (v, true) : Sem (Value × Bool))
      | none => do pure (← zeroValue e, false)).run P x.w = .ok q x.w ∧ R x v (if b then .tuple #[q.1, .bool q.2] else q.1) := by
  unfold alookup at h
  rw [hf, hd] at h
  have fin : ∀ (z : AV) (q : Value) (o : Bool), R x z q → R x (if b then .tup [z, .bool o] else z) (if b then .tuple #[q, .bool o] else q) := by
    intro z q o hz
    cases b
    · exact hz
    · simp only [if_true, R]
      exact ⟨[q, .bool o], rfl, _, _, rfl, hz, _, _, rfl, by simp [R], rfl⟩
  cases r with
  | none =>
    simp only [FoundC] at hfc
    subst hfc
    simp only [Option.map_eq_some_iff] at h
    obtain ⟨z, hz, rfl⟩ := h
    obtain ⟨q, hq, hrq⟩ := azero_sound hT hz x x.w
    exact ⟨(q, false), by simp [hq], fin z q false hrq⟩
  | some r =>
    obtain ⟨j, k', v'⟩ := r
    obtain ⟨m, e', h1, h2, h3, h4, h5, rfl⟩ := hfc
    simp only [Option.some.injEq] at h
    subst h
    exact ⟨(e'.val, true), by simp, fin v' e'.val true h5⟩
theorem lookup_sound {x : Cx} {H : AH} (hr : Rel x H) {t : TypeId} {a key v : AV} {u kv : Value} {b : Bool} (ha : R x a u) (hk : R x key kv) (h : alookup T H t a key b = some v) : ∃ q, (Instr.lookup t u kv b).run P x.w = .ok q x.w ∧ R x v q := by
  have hf : ∃ r, afound T H t a key = some r := by
    unfold alookup at h
    cases hf : afound T H t a key with
    | none => rw [hf] at h; simp at h
    | some r => exact ⟨r, rfl⟩
  obtain ⟨r, hf⟩ := hf
  have hf0 := hf
  unfold afound at hf
  split at hf
  · rename_i k e es hd he
    split at hf
    · rename_i hok
      rw [Bool.and_eq_true] at hok
      have hu := (hT.ty t (by rw [hd]; rfl)).desc
      rw [hd] at hu
      simp only [DescOk] at hu
      rcases entries_sound hr ha he with ⟨rfl, rfl, rfl⟩ | ⟨l, c, bs, clock, rfl, rfl, _, _, hb, h1, h2, h4⟩
      · obtain ⟨r', hr', hfc⟩ := findKey_sound hT hok.1 hk (c := []) (by simp [RL]) (by simp [RL]) hf x.w
        have hck := checkKey_sound hT (#[] : Array MapEntry).isEmpty 9998 hok.1 hok.2 hk x.w
        obtain ⟨q, hq, hrq⟩ := lookup_end hT hd hf0 h hfc
        refine ⟨_, ?_, hrq⟩
        unfold Instr.lookup
        simp only [Sem.run_bind, run_underlying hu, Result.andThen_ok, Sem.run_pure]
        rw [hck]
        simp only [Result.andThen_ok, hr']
        cases r' with
        | some r' => simp_all
        | none =>
          simp only [Sem.run_bind] at hq ⊢
          cases hz : Sem.run P (zeroValue e) x.w with
          | ok z w' =>
            rw [hz] at hq
            simp only [Result.andThen_ok, Sem.run_pure, Result.ok.injEq] at hq ⊢
            obtain ⟨rfl, rfl⟩ := hq
            exact ⟨rfl, rfl⟩
          | halt _ _ => rw [hz] at hq; simp [Result.andThen] at hq
      · obtain ⟨r', hr', hfc⟩ := findKey_sound hT hok.1 hk h1 h2 hf x.w
        have hck := checkKey_sound hT c.isEmpty 9998 hok.1 hok.2 hk x.w
        obtain ⟨q, hq, hrq⟩ := lookup_end hT hd hf0 h hfc
        refine ⟨_, ?_, hrq⟩
        unfold Instr.lookup
        simp only [Sem.run_bind, run_underlying hu, Result.andThen_ok, Sem.run_pure, getMap_run hb]
        rw [hck]
        simp only [Result.andThen_ok, hr']
        cases r' with
        | some r' => simp_all
        | none =>
          simp only [Sem.run_bind] at hq ⊢
          cases hz : Sem.run P (zeroValue e) x.w with
          | ok z w' =>
            rw [hz] at hq
            simp only [Result.andThen_ok, Sem.run_pure, Result.ok.injEq] at hq ⊢
            obtain ⟨rfl, rfl⟩ := hq
            exact ⟨rfl, rfl⟩
          | halt _ _ => rw [hz] at hq; simp [Result.andThen] at hq
    · cases hf
  · cases hf

omit hT in
theorem flatEq_sound {x : Cx} {a b : AV} {u v : Value} (h : flatEq a b = true) (ha : R x a u) (hb : R x b v) : u = v ∧ ∀ n, Instr.sameBits n u v = true := by
  unfold flatEq at h
  split at h
  · simp only [beq_iff_eq] at h
    subst h
    simp only [R] at ha hb
    subst ha hb
    exact ⟨rfl, fun n => by cases n <;> simp [Instr.sameBits]⟩
  · simp only [Bool.and_eq_true, beq_iff_eq] at h
    obtain ⟨rfl, rfl⟩ := h
    simp only [R] at ha hb
    subst ha hb
    exact ⟨rfl, fun n => by cases n <;> simp [Instr.sameBits]⟩
  · simp only [beq_iff_eq] at h
    subst h
    simp only [R] at ha hb
    subst ha hb
    exact ⟨rfl, fun n => by cases n <;> (unfold Instr.sameBits; exact (Go.MapKept.bytes_beq _ _).2 rfl)⟩
  · cases h
omit hT in
theorem flatsEq_sound {x : Cx} : ∀ {a b : List AV} {u v : List Value}, flatsEq a b = true → RL x a u → RL x b v → u = v ∧ ∀ n, ((u.zip v).all fun p => Instr.sameBits n p.1 p.2) = true
  | [], [], u, v, _, ha, hb => by
    simp only [RL] at ha hb
    subst ha hb
    simp
  | [], _ :: _, _, _, h, _, _ => by simp [flatsEq] at h
  | _ :: _, [], _, _, h, _, _ => by simp [flatsEq] at h
  | a :: as, b :: bs, u, v, h, ha, hb => by
    simp only [flatsEq, Bool.and_eq_true] at h
    simp only [RL] at ha hb
    obtain ⟨p, r, rfl, h1, h2⟩ := ha
    obtain ⟨q, s, rfl, h3, h4⟩ := hb
    obtain ⟨rfl, h5⟩ := flatEq_sound h.1 h1 h3
    obtain ⟨rfl, h6⟩ := flatsEq_sound h.2 h2 h4
    exact ⟨rfl, fun n => by simp only [List.zip_cons_cons, List.all_cons, h5 n, h6 n, Bool.and_self]⟩
omit hT in
theorem keySame_sound {x : Cx} {a b : AV} {u v : Value} (h : keySame a b = true) (ha : R x a u) (hb : R x b v) : u = v ∧ ∀ n, Instr.sameBits (n + 1) u v = true := by
  unfold keySame at h
  split at h
  · simp only [R] at ha hb
    obtain ⟨_, us, rfl, h1⟩ := ha
    obtain ⟨_, vs, rfl, h2⟩ := hb
    obtain ⟨rfl, h3⟩ := flatsEq_sound h h1 h2
    refine ⟨rfl, fun n => ?_⟩
    unfold Instr.sameBits
    rw [Bool.and_eq_true]
    exact ⟨by simp, h3 n⟩
  · obtain ⟨h1, h2⟩ := flatEq_sound h ha hb
    exact ⟨h1, fun n => h2 (n + 1)⟩
omit hT in
theorem modify_map {β : Type} {g : MapEntry → β} {f : MapEntry → MapEntry} {y : β} (hf : ∀ e, g (f e) = y) (c : Array MapEntry) (m : Nat) : (c.modify m f).toList.map g = (c.toList.map g).set m y := by
  refine List.ext_getElem? fun i => ?_
  rw [List.getElem?_set, List.getElem?_map, Array.getElem?_toList, Array.getElem?_modify]
  by_cases h : m = i
  · subst h
    simp only [if_true]
    cases hc : c[m]? with
    | none =>
      have := Array.getElem?_eq_none_iff.1 hc
      simp; omega
    | some e =>
      have := (Array.getElem?_eq_some_iff.1 hc).1
      simp [hf, this]
  · simp [h]
omit hT in
theorem modify_born {kv vv : Value} (c : Array MapEntry) (m : Nat) : (c.modify m fun e => { e with key := kv, val := vv }).toList.map (·.born) = c.toList.map (·.born) := by
  refine List.ext_getElem? fun i => ?_
  rw [List.getElem?_map, List.getElem?_map, Array.getElem?_toList, Array.getElem?_toList, Array.getElem?_modify]
  by_cases h : m = i
  · subst h
    simp only [if_true, Option.map_map]
    rfl
  · simp [h]
omit hT in
theorem map_put {x : Cx} {H : AH} (hr : Rel x H) {l : Nat} {es es' : List (AV × AV)} {bs bs' : List Nat} {clock0 clock clock' : Nat} (hl : H[l]? = some (.map es bs clock0)) {c c' : Array MapEntry} (hb : x.w.heap[(x.at_ l).1]? = some (.map c clock)) (h1 : RL x (es'.map (·.1)) (c'.toList.map (·.key))) (h2 : RL x (es'.map (·.2)) (c'.toList.map (·.val))) (h4 : c'.toList.map (·.born) = bs') :
    let w' : World := { x.w with heap := x.w.heap.setIfInBounds (x.at_ l).1 (.map c' clock') }
    Mv x.N x H { x with w := w' } (H.set l (.map es' bs' clock')) ∧ Rel { x with w := w' } (H.set l (.map es' bs' clock')) ∧ Keeps x { x with w := w' } := by
  intro w'
  have hlive : Live H l := ⟨_, hl, rfl⟩
  have hlt := Own.lt hr ⟨l, hlive, rfl⟩
  have ho : ∀ k, k ≠ (x.at_ l).1 → w'.heap[k]? = x.w.heap[k]? := fun k hk => Array.getElem?_setIfInBounds_ne (Ne.symm hk)
  have hsz : ∀ s, bsz x.w (x.at_ l).1 = some s → bsz w' (x.at_ l).1 = some s := fun s hs => by
    unfold bsz at hs
    rw [hb] at hs
    cases hs
  refine hr.update _ hl rfl rfl rfl rfl w' (by simp [w']) ho hsz rfl rfl rfl (fun hk => ?_)
  refine ⟨(hr.block l _ hl).1, c', ?_, RL.keeps hk _ _ h1, RL.keeps hk _ _ h2, h4⟩
  show (x.w.heap.setIfInBounds (x.at_ l).1 (.map c' clock'))[(x.at_ l).1]? = _
  rw [Array.getElem?_setIfInBounds_self_of_lt hlt]
theorem update_sound {x : Cx} {H H' : AH} (hr : Rel x H) {t : TypeId} {a key v : AV} {u kv vv : Value} (ha : R x a u) (hk : R x key kv) (hv : R x v vv) (h : aupdate T H t a key v = some H') :
    ∃ y, (Instr.mapUpdate t u kv vv).run P x.w = .ok () y.w ∧ Mv x.N x H y H' ∧ Rel y H' ∧ Keeps x y := by
  unfold aupdate at h
  split at h
  · rename_i k e l hd
    obtain ⟨es, bs0, clock0, hm0⟩ : ∃ es bs clock, amap H l = some (es, bs, clock) := by
      cases hm : amap H l with
      | none => rw [hm] at h; simp at h
      | some m => exact ⟨m.1, m.2.1, m.2.2, rfl⟩
    have he : aentries H (.map l) = some es := by simp [aentries, hm0]
    have hf : ∃ r, afound T H t (.map l) key = some r := by
      cases hf : afound T H t (.map l) key with
      | none => rw [hf, hm0] at h; simp at h
      | some r => exact ⟨r, rfl⟩
    obtain ⟨r, hf⟩ := hf
    rw [hf, hm0] at h
    unfold afound at hf
    rw [hd, he] at hf
    simp only at hf
    split at hf
    · rename_i hok
      rw [Bool.and_eq_true] at hok
      have hu := (hT.ty t (by rw [hd]; rfl)).desc
      rw [hd] at hu
      simp only [DescOk] at hu
      rcases entries_sound hr ha he with ⟨_, hn, _⟩ | ⟨l', c, bs, clock, hl', rfl, hm, hl, hb, h1, h2, h4⟩
      · cases hn
      cases hl'
      obtain ⟨rfl, rfl⟩ : bs0 = bs ∧ clock0 = clock := by rw [hm0] at hm; cases hm; exact ⟨rfl, rfl⟩
      obtain ⟨r', hr', hfc⟩ := findKey_sound hT hok.1 hk h1 h2 hf x.w
      have hck := checkKey_sound hT false 9998 hok.1 hok.2 hk x.w
      cases r with
      | none =>
        simp only [FoundC] at hfc
        subst hfc
        cases h
        refine ⟨{ x with w := _ }, ?_, map_put hr hl hb (c' := c.push { key := kv, val := vv, born := clock0 }) (clock' := clock0 + 1) ?_ ?_ (by simp [h4])⟩
        · unfold Instr.mapUpdate
          simp only [Sem.run_bind, run_underlying hu, Result.andThen_ok, getMap_run hb]
          rw [hck]
          simp only [Result.andThen_ok, hr', setMap_run _ hb]
        · simp only [List.map_append, Array.toList_push]
          exact h1.append ⟨_, _, rfl, hk, rfl⟩
        · simp only [List.map_append, Array.toList_push]
          exact h2.append ⟨_, _, rfl, hv, rfl⟩
      | some r =>
        obtain ⟨j, old, v'⟩ := r
        obtain ⟨m, e', g1, g2, g3, g4, g5, rfl⟩ := hfc
        simp only at h
        split at h
        · rename_i hs
          cases h
          obtain ⟨hkv, hbits⟩ := keySame_sound hs g4 hk
          obtain rfl : m = j := by omega
          have hcm : c[m]? = some e' := by simpa using g3
          refine ⟨{ x with w := _ }, ?_, map_put hr hl hb (c' := c.modify m fun e => { e with key := kv, val := vv }) (clock' := clock0) ?_ ?_ (by rw [← h4]; exact modify_born c m)⟩
          · unfold Instr.mapUpdate
            simp only [Sem.run_bind, run_underlying hu, Result.andThen_ok, getMap_run hb]
            rw [hck]
            have hks : (Instr.keyThatStays (((c[m]?).map (·.key)).getD kv) kv).run P x.w = .ok kv x.w := by
              rw [hcm]
              unfold Instr.keyThatStays
              simp only [Option.map_some, Option.getD_some]
              rw [if_pos (hbits 9999)]
              rfl
            simp only [Result.andThen_ok, hr', hks, setMap_run _ hb, Sem.run_bind]
          · have := h1.set m hk
            have e1 : (es.set m (key, v)).map (·.1) = (es.map (·.1)).set m key := by simp [List.map_set]
            rw [e1, modify_map (y := kv) (fun e => rfl)]
            exact this
          · have := h2.set m hv
            have e1 : (es.set m (key, v)).map (·.2) = (es.map (·.2)).set m v := by simp [List.map_set]
            rw [e1, modify_map (y := vv) (fun e => rfl)]
            exact this
        · cases h
    · cases hf
  · cases h

theorem delete_sound {x : Cx} {H H' : AH} (hr : Rel x H) {t u2 ty : TypeId} {a key : AV} {u kv : Value} (ha : R x a u) (hk : R x key kv) (h : adelete T H t a key = some H') :
    OutV x H H' (.tup []) ((Builtin.delete_ #[t, u2] ty #[u, kv]).run P x.w) := by
  have unit : ∀ y : Cx, R y (.tup []) (.tuple #[]) := fun y => by simp only [R]; exact ⟨[], rfl, rfl⟩
  unfold adelete at h
  split at h
  · rename_i k e hd
    split at h
    · rename_i hok
      rw [Bool.and_eq_true] at hok
      cases h
      have hu := (hT.ty t (by rw [hd]; rfl)).desc
      rw [hd] at hu
      simp only [DescOk] at hu
      simp only [R] at ha
      subst ha
      have hck := checkKey_sound hT true 9998 hok.1 hok.2 hk x.w
      refine OutV.pure hr (unit x) ?_
      unfold Builtin.delete_
      simp only [List.getElem?_toArray, List.getElem?_cons_zero, List.getElem?_cons_succ, Sem.run_bind, run_underlying hu, Result.andThen_ok]
      rw [hck]
      rfl
    · cases h
  · rename_i k e l hd
    obtain ⟨es, bs0, clock0, hm0⟩ : ∃ es bs clock, amap H l = some (es, bs, clock) := by
      cases hm : amap H l with
      | none => rw [hm] at h; simp at h
      | some m => exact ⟨m.1, m.2.1, m.2.2, rfl⟩
    have he : aentries H (.map l) = some es := by simp [aentries, hm0]
    have hf : ∃ r, afound T H t (.map l) key = some r := by
      cases hf : afound T H t (.map l) key with
      | none => rw [hf, hm0] at h; simp at h
      | some r => exact ⟨r, rfl⟩
    obtain ⟨r, hf⟩ := hf
    rw [hf, hm0] at h
    unfold afound at hf
    rw [hd, he] at hf
    simp only at hf
    split at hf
    · rename_i hok
      rw [Bool.and_eq_true] at hok
      have hu := (hT.ty t (by rw [hd]; rfl)).desc
      rw [hd] at hu
      simp only [DescOk] at hu
      rcases entries_sound hr ha he with ⟨_, hn, _⟩ | ⟨l', c, bs, clock, hl', rfl, hm, hl, hb, h1, h2, h4⟩
      · cases hn
      cases hl'
      obtain ⟨rfl, rfl⟩ : bs0 = bs ∧ clock0 = clock := by rw [hm0] at hm; cases hm; exact ⟨rfl, rfl⟩
      obtain ⟨r', hr', hfc⟩ := findKey_sound hT hok.1 hk h1 h2 hf x.w
      have hck := checkKey_sound hT c.isEmpty 9998 hok.1 hok.2 hk x.w
      cases r with
      | none =>
        simp only [FoundC] at hfc
        subst hfc
        cases h
        have hput := map_put hr hl hb (c' := c) (clock' := clock0) h1 h2 h4
        rw [set_self hl] at hput
        refine ⟨.tuple #[], { x with w := _ }, ?_, hput.1, hput.2.1, hput.2.2, unit _⟩
        unfold Builtin.delete_
        simp only [List.getElem?_toArray, List.getElem?_cons_zero, List.getElem?_cons_succ, Sem.run_bind, run_underlying hu, Result.andThen_ok, getMap_run hb]
        rw [hck]
        simp only [Result.andThen_ok, hr', Sem.run_bind, setMap_run _ hb]
        rfl
      | some r =>
        obtain ⟨j, old, v'⟩ := r
        obtain ⟨m, e', g1, g2, g3, g4, g5, rfl⟩ := hfc
        cases h
        obtain rfl : m = j := by omega
        have hm : m < c.size := by have := (List.getElem?_eq_some_iff.1 g3).1; simpa using this
        have e3 : ∀ (β : Type) (g : MapEntry → β), (c.eraseIdxIfInBounds m).toList.map g = (c.toList.map g).eraseIdx m := fun β g => by
          rw [Array.eraseIdxIfInBounds, dif_pos hm, Array.toList_eraseIdx, map_erase]
        have hput := map_put hr hl hb (es' := es.eraseIdx m) (c' := c.eraseIdxIfInBounds m) (bs' := bs0.eraseIdx m) (clock' := clock0) (by rw [e3, map_erase]; exact h1.eraseIdx m) (by rw [e3, map_erase]; exact h2.eraseIdx m) (by rw [e3, h4])
        refine ⟨.tuple #[], { x with w := _ }, ?_, hput.1, hput.2.1, hput.2.2, unit _⟩
        unfold Builtin.delete_
        simp only [List.getElem?_toArray, List.getElem?_cons_zero, List.getElem?_cons_succ, Sem.run_bind, run_underlying hu, Result.andThen_ok, getMap_run hb]
        rw [hck]
        simp only [Result.andThen_ok, hr', Sem.run_bind, setMap_run _ hb]
        rfl
    · cases hf
  · cases h
theorem maplen_sound {x : Cx} {H : AH} (hr : Rel x H) {t ty : TypeId} {k e : TypeId} (hd : (T t).d = .map k e) {a v : AV} {u : Value} (ha : R x a u) (h : amaplen H a = some v) : OutV x H H v ((Builtin.len_ #[t] ty #[u]).run P x.w) := by
  unfold amaplen at h
  simp only [Option.map_eq_some_iff] at h
  obtain ⟨es, he, rfl⟩ := h
  have hu := (hT.ty t (by rw [hd]; rfl)).desc
  rw [hd] at hu
  simp only [DescOk] at hu
  rcases entries_sound hr ha he with ⟨rfl, rfl, rfl⟩ | ⟨l, c, bs, clock, rfl, rfl, _, hl, hb, h1, h2, h4⟩
  · exact OutV.pure hr rfl (by simp [Builtin.len_, run_underlying hu, goInt])
  · have hlen : c.size = es.length := by have := h1.length; simpa using this
    exact OutV.pure (u := .int .i64 es.length) hr rfl (by simp [Builtin.len_, run_underlying hu, goInt, getMap_run hb, hlen])
omit hT in
theorem makeMap_sound {x : Cx} {H : AH} (hr : Rel x H) (t : TypeId) :
    ∃ w', (Instr.makeMap t none).run P x.w = .ok (.map (some x.w.heap.size)) w' ∧ Mv x.N x H (x.new (x.w.heap.size, 0) w') (H ++ [.map [] [] 0]) ∧ Rel (x.new (x.w.heap.size, 0) w') (H ++ [.map [] [] 0]) ∧ Keeps x (x.new (x.w.heap.size, 0) w') ∧ R (x.new (x.w.heap.size, 0) w') (.map H.length) (.map (some x.w.heap.size)) := by
  have h := hr.push (.map #[] 0) (.map [] [] 0) (x.w.alloc (.map #[] 0)) rfl rfl rfl rfl (fun _ => ⟨x.new_ver _ _, #[], by rw [x.new_at]; show (x.w.heap.push _)[_]? = _; simp, by simp [RL], by simp [RL], rfl⟩)
  refine ⟨x.w.alloc (.map #[] 0), by simp [Instr.makeMap], h.1, h.2.1, h.2.2, ?_⟩
  simp only [R]
  rw [← hr.N]
  refine ⟨Nat.lt_succ_self _, x.new_ver _ _, ?_⟩
  rw [x.new_at]
end
end Go.Abs
