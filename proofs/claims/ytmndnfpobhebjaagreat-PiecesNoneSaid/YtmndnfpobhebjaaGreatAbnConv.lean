/- Conversions: sound. -/
import Derived.Test.YtmndnfpobhebjaaGreatAbnLit
namespace Go.Abs
section
variable {P : Program} {T : TT} (hT : TyOk P T)
include hT

theorem known_underlying {t : TypeId} (h : (T t).d.known = true) : ∃ d, P.underlying t = some d := by
  have hd := (hT.ty t h).desc
  cases hk : (T t).d <;> rw [hk] at hd <;> simp only [DescOk] at hd
  case struct fs => obtain ⟨fields, hu, _⟩ := hd; exact ⟨_, hu⟩
  case func => obtain ⟨_, _, _, hu⟩ := hd; exact ⟨_, hu⟩
  case iface => obtain ⟨_, hu⟩ := hd; exact ⟨_, hu⟩
  all_goals exact ⟨_, hd⟩

theorem convert_sound {x : Cx} {H H' : AH} (hr : Rel x H) {s d : TypeId} {a v : AV} {u : Value} (ha : R x a u) (h : aconvert T H s d a = some (v, H')) : OutV x H H' v ((Go.convert s d u).run P x.w) := by
  unfold aconvert at h
  split at h
  case isFalse => cases h
  rename_i hks
  obtain ⟨ds, hus⟩ := known_underlying hT hks
  split at h
  · rename_i k k' n hd
    cases h
    have hu := TyOk.desc hT hd rfl
    simp only [DescOk] at hu
    simp only [R] at ha
    subst ha
    exact OutV.pure hr rfl (by simp [Go.convert, run_underlying hus, run_underlying hu, Conv.intToInt])
  · rename_i str hd
    cases h
    have hu := TyOk.desc hT hd rfl
    simp only [DescOk] at hu
    simp only [R] at ha
    subst ha
    exact OutV.pure hr rfl (by simp [Go.convert, run_underlying hus, run_underlying hu])
  · rename_i e str hd
    split at h
    case h_2 => cases h
    rename_i hde
    split at h
    case isFalse => cases h
    rename_i hlen
    cases h
    have hu := TyOk.desc hT hd rfl
    simp only [DescOk] at hu
    have hue := TyOk.desc hT hde rfl
    simp only [DescOk] at hue
    simp only [R] at ha
    subst ha
    have hsz : ByteArray.size ⟨str.toArray⟩ = str.length := by simp [ByteArray.size]
    generalize hcap : (Question.appendCap str.length 0 e).cut (x.w.tape x.w.drawn (.appendCap str.length 0 e)) = cap
    have hge : str.length ≤ cap := by rw [← hcap]; exact grownCap_ge x.w str.length 0 e
    have hle : cap ≤ maxLen := by rw [← hcap]; exact grownCap_le_maxLen x.w str.length 0 e hlen
    let c : Array Value := (str.toArray.map fun b => Value.int .u8 b.toNat) ++ Array.replicate (cap - str.length) (.int .u8 0)
    have hc : c.size = cap := by simp [c]; omega
    let W : World := (x.w.drew.alloc (.cells c e)).freeze ⟨x.w.heap.size, cap, none⟩ 1
    have hW : W.heap = x.w.heap.push (.cells c e (cap, cap + 1)) := by
      apply Array.ext_getElem?
      intro i
      simp only [W, World.freeze, World.alloc, World.drew, Nat.one_ne_zero, if_false, Array.getElem?_modify, Array.getElem?_push]
      by_cases h1 : i = x.w.heap.size
      · subst h1; simp
      · rw [if_neg (fun e => h1 e.symm), if_neg h1, if_neg h1]
    have hrow := hr.row (cs := str.map fun b => .int .u8 b.toNat) (vs := str.map fun b => Value.int .u8 b.toNat) (RL.of_get (by simp) (fun i a v ha hv => by
        rw [List.getElem?_map, Option.map_eq_some_iff] at ha hv
        obtain ⟨p, hp, rfl⟩ := ha
        obtain ⟨q, hq, rfl⟩ := hv
        rw [hp] at hq
        cases hq
        simp [R])) (fun a ha => by
        obtain ⟨b, _, rfl⟩ := List.mem_map.1 ha
        rfl) c e (cap, cap + 1) (fun i hi => by rw [hc] at hi; simp; omega) (fun i u hu => by
        have hlt := (List.getElem?_eq_some_iff.1 hu).1
        simp only [c]
        rw [Array.getElem?_append, if_pos (by simpa using hlt)]
        simpa using hu) (by rw [hc]; simpa using hge) W hW rfl rfl rfl
    refine ⟨.slice (some ⟨x.w.heap.size, 0, none⟩) str.length cap, _, ?_, hrow.1, hrow.2.1, hrow.2.2, row_ref hr.N hW hge hle (by simp) (by rw [hc]; simp)⟩
    have hcap' : (Question.appendCap str.length 0 e).cut (x.w.tape x.w.drawn (.appendCap str.length 0 e)) = cap := hcap
    have hsh : (x.w.drew.alloc (.cells c e)).shape? x.w.heap.size = some (e, cap) := by
      have h1 : (x.w.drew.alloc (.cells c e)).heap[x.w.heap.size]? = some (.cells c e) := heap_alloc_new x.w.drew _
      unfold World.shape?
      rw [h1]
      simp [hc]
    have hcc : (str.toArray.map (fun b => Value.int .u8 b.toNat)) ++ Array.replicate (cap - str.length) (.int .u8 0) = c := rfl
    simp only [Go.convert, Sem.run_bind, run_underlying hus, run_underlying hu, Result.andThen_ok, run_underlying hue, Conv.stringToBytes, run_choose, Question.forced, hsz, hcap', Bool.false_eq_true, if_false, World.drew_eq, newRow, run_newObj, World.alloc_eq, Sem.run_pure, markStringish, run_shape, hcc, World.size_drew]
    rw [hsh]
    simp [W, Cx.new, Cx.newV]
  · rename_i av ad x' hd hns
    split at h
    case h_2 => cases h
    rename_i e n hds hn
    split at h
    case h_2 => cases h
    rename_i cs hde hcs
    simp only [Option.map_eq_some_iff] at h
    obtain ⟨str, hstr, h⟩ := h
    cases h
    have hu := TyOk.desc hT hd rfl
    simp only [DescOk] at hu
    have hus' := TyOk.desc hT hds rfl
    simp only [DescOk] at hus'
    have hue := TyOk.desc hT hde rfl
    simp only [DescOk] at hue
    obtain ⟨vs, l1, l2, l3, l4⟩ := acells_sound (P := P) hr ha hcs (fun _ _ => rfl) (fun len hl => by rw [hn] at hl; cases hl; exact Nat.le_refl _)
    obtain ⟨b1, b2⟩ := bytes_back hstr
    obtain ⟨ns, rfl, rfl⟩ := b2 l1
    have l4' := l4 x.w rfl
    have hnl : ns.length = n := by simpa using l3
    have hshape : ∃ base cap, u = .slice base n cap ∧ (base = none → n = 0) := by
      cases av <;> simp only [alen] at hn <;> first | (cases hn; done) | skip
      · exact (hns _ rfl).elim
      · cases hn
        simp only [R] at ha
        rcases ha with ⟨_, rfl, _, rfl⟩ | ⟨_, b, o, cap, vs, rfl, hle, _⟩
        · exact ⟨_, _, rfl, fun _ => rfl⟩
        · exact ⟨_, _, rfl, fun h => by cases h⟩
      · cases hn
        simp only [R] at ha
        obtain ⟨_, _, cap, S, o, rfl, _, hle, _⟩ := ha
        exact ⟨_, _, rfl, fun h => by cases h⟩
      · cases hn
        have ha := ha.weak
        simp only [AV.weak, R] at ha
        rcases ha with ⟨_, rfl, _, rfl⟩ | ⟨_, b, o, cap, vs, rfl, hle, _⟩
        · exact ⟨_, _, rfl, fun _ => rfl⟩
        · exact ⟨_, _, rfl, fun h => by cases h⟩
    obtain ⟨base, cap, rfl, hbn⟩ := hshape
    refine OutV.pure (u := .string ⟨(ns.map fun (n : Int) => UInt8.ofNat n.toNat).toArray⟩) hr (by simp only [R]) ?_
    cases base with
    | none =>
      have h0 := hbn rfl
      subst h0
      have : ns = [] := List.length_eq_zero_iff.1 hnl
      subst this
      simp [Go.convert, run_underlying hus', run_underlying hu, run_underlying hue, Conv.bytesToString]
      rfl
    | some ad =>
      have hb := bytesToString_run (P := P) (w := x.w) (a := ad) (cap := cap) ns (by
        simp only [Builtin.firstCells, Nat.mul_one] at l4'
        rw [hnl]
        exact l4')
      rw [hnl] at hb
      simp [Go.convert, run_underlying hus', run_underlying hu, run_underlying hue, hb]
  · cases h
theorem convertF_sound {x : Cx} {H H' : AH} (hr : Rel x H) {s d : TypeId} {a v : AV} {u : Value} (ha : R x a u) (h : aconvertF T H s d a = some (v, H')) : OutV x H H' v ((Go.convert s d u).run P x.w) := by
  unfold aconvertF at h
  split at h
  case isFalse => cases h
  rename_i hks
  obtain ⟨ds, hus⟩ := known_underlying hT hks
  split at h
  case h_2 => cases h
  · rename_i e str hd
    split at h
    case h_2 => cases h
    rename_i hde
    split at h
    case isFalse => cases h
    rename_i hlen
    obtain ⟨hlen, _⟩ := hlen
    cases h
    have hu := TyOk.desc hT hd rfl
    simp only [DescOk] at hu
    have hue := TyOk.desc hT hde rfl
    simp only [DescOk] at hue
    simp only [R] at ha
    subst ha
    have hsz : ByteArray.size ⟨str.toArray⟩ = str.length := by simp [ByteArray.size]
    generalize hcap : (Question.appendCap str.length 0 e).cut (x.w.tape x.w.drawn (.appendCap str.length 0 e)) = cap
    have hge : str.length ≤ cap := by rw [← hcap]; exact grownCap_ge x.w str.length 0 e
    have hle : cap ≤ maxLen := by rw [← hcap]; exact grownCap_le_maxLen x.w str.length 0 e hlen
    let c : Array Value := (str.toArray.map fun b => Value.int .u8 b.toNat) ++ Array.replicate (cap - str.length) (.int .u8 0)
    have hc : c.size = cap := by simp [c]; omega
    let W : World := (x.w.drew.alloc (.cells c e)).freeze ⟨x.w.heap.size, cap, none⟩ 1
    have hW : W.heap = x.w.heap.push (.cells c e (cap, cap + 1)) := by
      apply Array.ext_getElem?
      intro i
      simp only [W, World.freeze, World.alloc, World.drew, Nat.one_ne_zero, if_false, Array.getElem?_modify, Array.getElem?_push]
      by_cases h1 : i = x.w.heap.size
      · subst h1; simp
      · rw [if_neg (fun e => h1 e.symm), if_neg h1, if_neg h1]
    have hrow := hr.ownRow (cs := str.map fun b => .int .u8 b.toNat) (vs := str.map fun b => Value.int .u8 b.toNat) (RL.of_get (by simp) (fun i a v ha hv => by
        rw [List.getElem?_map, Option.map_eq_some_iff] at ha hv
        obtain ⟨p, hp, rfl⟩ := ha
        obtain ⟨q, hq, rfl⟩ := hv
        rw [hp] at hq
        cases hq
        simp [R])) (fun a ha => by
        obtain ⟨b, _, rfl⟩ := List.mem_map.1 ha
        rfl) (c := c) (t := e) (fz := (cap, cap + 1)) (fun i hi => by rw [hc] at hi; simp; omega) (fun i u hu => by
        have hlt := (List.getElem?_eq_some_iff.1 hu).1
        simp only [c]
        rw [Array.getElem?_append, if_pos (by simpa using hlt)]
        simpa using hu) (n := str.length) (cap := cap) (sz := 1) (by simp) hge hle (by rw [hc]; simp) (w' := W) hW rfl rfl rfl
    obtain ⟨y, ey, y1, y2, y3, y4⟩ := hrow
    refine ⟨.slice (some ⟨x.w.heap.size, 0, none⟩) str.length cap, y, ?_, y1, y2, y3, y4⟩
    rw [ey]
    have hcap' : (Question.appendCap str.length 0 e).cut (x.w.tape x.w.drawn (.appendCap str.length 0 e)) = cap := hcap
    have hsh : (x.w.drew.alloc (.cells c e)).shape? x.w.heap.size = some (e, cap) := by
      have h1 : (x.w.drew.alloc (.cells c e)).heap[x.w.heap.size]? = some (.cells c e) := heap_alloc_new x.w.drew _
      unfold World.shape?
      rw [h1]
      simp [hc]
    have hcc : (str.toArray.map (fun b => Value.int .u8 b.toNat)) ++ Array.replicate (cap - str.length) (.int .u8 0) = c := rfl
    simp only [Go.convert, Sem.run_bind, run_underlying hus, run_underlying hu, Result.andThen_ok, run_underlying hue, Conv.stringToBytes, run_choose, Question.forced, hsz, hcap', Bool.false_eq_true, if_false, World.drew_eq, newRow, run_newObj, World.alloc_eq, Sem.run_pure, markStringish, run_shape, hcc, World.size_drew]
    rw [hsh]
    simp [W, Cx.new, Cx.newV]
end
end Go.Abs
