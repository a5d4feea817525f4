/- A slice that a function builds up, in one-cell elements, behind the heap that it was given. -/
import Derived.Test.YtbdomlbmbcnaeaaAbsDraw
namespace Go.Abs
/-- A list of strings that a slice gives, in whatever shape. -/
structure Strs (T : TT) (H : AH) (t e : TypeId) (x : AV) (l : List (List UInt8)) : Prop where
  len : abuiltin T H .len #[t] [x] = some (.int .i64 l.length, H)
  item : ∀ (i : Nat) (s : List UInt8), l[i]? = some s → ∃ p, aindexAddr T t x (.int .i64 i) = some p ∧ aload T H e p = some (.str s)
theorem Strs.lit {T : TT} {H : AH} {t e : TypeId} (h1 : (T t).d = .slice e) (h2 : (T e).d = .str) (h3 : (T e).size = 1) {nl ex : Bool} {l : List (List UInt8)} : Strs T H t e (.lit nl ex (l.map .str) l.length) l := by
  refine ⟨len_lit (by rw [h1]; rfl), fun i s hs => ⟨.lptr (l.map .str) i, ?_, ?_⟩⟩
  · have hlt := (List.getElem?_eq_some_iff.1 hs).1
    simp [aindexAddr, h1, h3, hlt]
  · rw [aload_lptr, apart_one (by rw [h2]; rfl) (by rw [h2]; rfl)]
    simp [hs]
theorem Strs.ref {T : TT} {H : AH} {t e : TypeId} (h1 : (T t).d = .slice e) (h2 : (T e).d = .str) (h3 : (T e).size = 1) {ex : Bool} {m : Nat} {l : List (List UInt8)} (hm : H[m]? = some (.cells (l.map .str))) : Strs T H t e (.ref ex m 0 l.length 1) l := by
  refine ⟨len_ref (by rw [h1]; rfl), fun i s hs => ⟨.ptr m i, ?_, ?_⟩⟩
  · have hlt := (List.getElem?_eq_some_iff.1 hs).1
    simp [aindexAddr, h1, h3, hlt]
  · rw [aload_ptr hm, apart_one (by rw [h2]; rfl) (by rw [h2]; rfl)]
    simp [hs]
structure Buf (B H : AH) (x : AV) (cs : List AV) : Prop where
  ext : ∃ G, H = B ++ G
  shape : (∃ nl, x = .lit nl true [] 0 ∧ cs = []) ∨ ∃ ex l, x = .ref ex l 0 cs.length 1 ∧ B.length ≤ l ∧ H[l]? = some (.cells cs)

theorem Buf.nil {B : AH} {nl : Bool} : Buf B B (.lit nl true [] 0) [] := ⟨⟨[], by simp⟩, .inl ⟨nl, rfl, rfl⟩⟩
theorem Buf.push {B H : AH} {x : AV} {cs : List AV} (h : Buf B H x cs) (b : AB) : Buf B (H ++ [b]) x cs := by
  obtain ⟨⟨G, rfl⟩, hs⟩ := h
  refine ⟨⟨G ++ [b], by simp⟩, ?_⟩
  rcases hs with h | ⟨ex, l, h1, h2, h3⟩
  · exact .inl h
  · exact .inr ⟨ex, l, h1, h2, by rw [List.getElem?_append_left (List.getElem?_eq_some_iff.1 h3).1]; exact h3⟩
theorem Buf.len {T : TT} {B H : AH} {x : AV} {cs : List AV} (h : Buf B H x cs) {t e : TypeId} (ht : (T t).d = .slice e) : abuiltin T H .len #[t] [x] = some (.int .i64 cs.length, H) := by
  rcases h.shape with ⟨nl, rfl, rfl⟩ | ⟨ex, l, rfl, _, _⟩
  · exact len_lit (by rw [ht]; rfl)
  · exact len_ref (by rw [ht]; rfl)
theorem Buf.alen {B H : AH} {x : AV} {cs : List AV} (h : Buf B H x cs) : alen x = some cs.length := by
  rcases h.shape with ⟨nl, rfl, rfl⟩ | ⟨ex, l, rfl, _, _⟩ <;> rfl
theorem Buf.acells {B H : AH} {x : AV} {cs : List AV} (h : Buf B H x cs) : acells H cs.length x = some cs := by
  rcases h.shape with ⟨nl, rfl, rfl⟩ | ⟨ex, l, rfl, _, hl⟩
  · simp [Go.Abs.acells]
  · simp [Go.Abs.acells, hl]
theorem Buf.append {T : TT} {B H : AH} {x y : AV} {cs new : List AV} (h : Buf B H x cs) {t u e : TypeId} (ht : (T t).d = .slice e) (he : (T e).size = 1) (hu : (T u).d.row = true) (hy : Go.Abs.alen y = some new.length) (hc : Go.Abs.acells H new.length y = some new)
    (hlen : cs.length + new.length ≤ maxLen) (hb : (cs.length + new.length) * (T e).bytes ≤ 140737488355328) :
    ∃ x' H', abuiltin T H .append #[t, u] [x, y] = some (x', H') ∧ Buf B H' x' (cs ++ new) := by
  have hf : feeds 1 y = true := by cases y <;> simp [feeds]
  have hn : notStr x = true := by
    rcases h.shape with ⟨nl, rfl, rfl⟩ | ⟨ex, l, rfl, _, hl⟩ <;> rfl
  have ha := h.alen
  have hac := h.acells
  rw [app_two]
  by_cases hpos : new = []
  · subst hpos
    refine ⟨x, H, ?_, by rw [List.append_nil]; exact h⟩
    unfold aappend
    simp only [List.length_nil] at hy hc
    simp only [ht, hu, hf, hn, ha, hy, he, Nat.mul_one, hac, hc, and_self, if_true]
  have hm : new.length ≠ 0 := by cases new <;> simp_all
  unfold aappend
  simp only [ht, hu, hf, hn, ha, hy, he, Nat.mul_one, hac, hc, hm, if_false, hlen, hb, and_self, if_true, Nat.zero_lt_one]
  obtain ⟨⟨G, rfl⟩, hs⟩ := h
  rcases hs with ⟨nl, rfl, rfl⟩ | ⟨ex, l, rfl, hbl, hl⟩
  · refine ⟨_, _, rfl, ⟨G ++ [.cells ([] ++ new)], by simp⟩, .inr ⟨false, (B ++ G).length, by simp, by simp, ?_⟩⟩
    rw [List.getElem?_append_right (by simp)]; simp
  · cases ex
    · simp only [if_true]
      refine ⟨_, _, rfl, ⟨G.set (l - B.length) .dead ++ [.cells (cs ++ new)], ?_⟩, .inr ⟨false, (B ++ G).length, ?_, ?_, ?_⟩⟩
      · rw [List.set_append_right _ _ hbl]; simp
      · simp
      · simp
      · rw [List.getElem?_append_right (by simp)]; simp
    · simp only [if_true]
      refine ⟨_, _, rfl, ⟨G ++ [.cells (cs ++ new)], ?_⟩, .inr ⟨false, (B ++ G).length, ?_, ?_, ?_⟩⟩
      · simp
      · simp
      · simp
      · rw [List.getElem?_append_right (by simp)]; simp
theorem Buf.ret {B H : AH} {x : AV} {cs : List AV} (h : Buf B H x cs) (hw : WF B) (hlow : lows B.length cs = true) : ∃ nl ex, VS B.length [x] H [.lit nl ex cs cs.length] B := by
  obtain ⟨⟨G, rfl⟩, hs⟩ := h
  rcases hs with ⟨nl, rfl, rfl⟩ | ⟨ex, l, rfl, hbl, hl⟩
  · exact ⟨nl, true, VS.drop (Nat.le_refl _) hw (by simp [lows, AV.low])⟩
  · refine ⟨false, ex, (VS.freeze1 hl (by simp)).trans ?_⟩
    rw [List.set_append_right _ _ hbl]
    have : (cs.drop 0).take (cs.length * 1) = cs := by simp
    rw [this]
    exact VS.drop (Nat.le_refl _) hw (by simp [lows, AV.low, hlow])
theorem lows_str {n : Nat} : ∀ {l : List (List UInt8)}, lows n (l.map .str) = true
  | [] => rfl
  | a :: l => by simp [lows, AV.low, lows_str (l := l)]

theorem Buf.get {B H : AH} {x : AV} {cs : List AV} (h : Buf B H x cs) {l : Nat} {b : AB} (hl : B[l]? = some b) : H[l]? = some b := by
  obtain ⟨⟨G, rfl⟩, _⟩ := h
  rw [List.getElem?_append_left (List.getElem?_eq_some_iff.1 hl).1]
  exact hl
theorem Buf.store {B H : AH} {x : AV} {cs : List AV} (h : Buf B H x cs) {l : Nat} (b : AB) (hl : l < B.length) : Buf (B.set l b) (H.set l b) x cs := by
  obtain ⟨⟨G, rfl⟩, hs⟩ := h
  refine ⟨⟨G, by rw [List.set_append_left _ _ hl]⟩, ?_⟩
  rcases hs with h | ⟨ex, m, h1, h2, h3⟩
  · exact .inl h
  · exact .inr ⟨ex, m, h1, by simpa using h2, by rw [List.getElem?_set_ne (by omega)]; exact h3⟩
/-- Less of the heap is told. -/
theorem Buf.less {A G H : AH} {x : AV} {cs : List AV} (h : Buf (A ++ G) H x cs) : Buf A H x cs := by
  obtain ⟨⟨G', rfl⟩, hs⟩ := h
  refine ⟨⟨G ++ G', by simp⟩, ?_⟩
  rcases hs with h | ⟨ex, m, h1, h2, h3⟩
  · exact .inl h
  · exact .inr ⟨ex, m, h1, by simp at h2; omega, h3⟩
theorem load1 {T : TT} {H : AH} {t : TypeId} {l : Nat} {v : AV} (hl : H[l]? = some (.cells [v])) (h1 : (T t).d.known = true) (h2 : (T t).d.isAgg = false) : aload T H t (.ptr l 0) = some v := by
  rw [aload_ptr hl, apart_one h1 h2]
  rfl
theorem store1 {T : TT} {H : AH} {t : TypeId} {l : Nat} {v w : AV} (hl : H[l]? = some (.cells [w])) (hv : acell v = some [v]) (h1 : (T t).d.known = true) (h2 : (T t).size = 1) : astore T H t (.ptr l 0) v = some (H.set l (.cells [v])) := by
  rw [astore_one hv h1 (by simp [h2]) hl (by simp)]
  rfl
theorem mapM_byte {l : List UInt8} : (l.map fun b => AV.int .u8 b.toNat).mapM byteOf? = some l := by
  induction l with
  | nil => rfl
  | cons a l ih => rw [List.map_cons, List.mapM_cons, ih]; simp [byteOf?]
theorem Buf.text {T : TT} {B H : AH} {x : AV} {s : List UInt8} (h : Buf B H x (s.map fun b => .int .u8 b.toNat)) {t u e : TypeId} (ht : (T t).d = .slice e) (he : (T e).d = .int .u8) (hu : (T u).d = .str) : aconvert T H t u x = some (.str s, H) := by
  have ha := h.alen
  have hc := h.acells
  rcases h.shape with ⟨nl, rfl, _⟩ | ⟨ex, l, rfl, _, _⟩
  all_goals
    unfold aconvert
    simp only [ht, hu, AD.known, if_true, ha, he, Nat.mul_one, hc, mapM_byte, Option.map_some]

theorem VS.tup {n : Nat} {as as' : List AV} {H H' : AH} (h : VS n as H as' H') : VS n [.tup as] H [.tup as'] H' := by
  intro x vs hr hn hl
  simp only [RL, R] at hl
  obtain ⟨v, r, rfl, ⟨us, rfl, hus⟩, rfl⟩ := hl
  obtain ⟨y, ey, hm, hr', hl'⟩ := h x us hr hn hus
  exact ⟨y, ey, hm, hr', by simp only [RL, R]; exact ⟨_, _, rfl, ⟨us, rfl, hl'⟩, rfl⟩⟩
def flat : AV → Bool | .int _ _ | .str _ | .bool _ => true | _ => false
theorem RL.flat {x y : Cx} : ∀ {cs : List AV} {vs : List Value}, cs.all Go.Abs.flat = true → RL x cs vs → RL y cs vs
  | [], vs, _, h => by simpa [RL] using h
  | c :: cs, vs, hc, h => by
    simp only [List.all_cons, Bool.and_eq_true] at hc
    simp only [RL] at h ⊢
    obtain ⟨v, r, rfl, h1, h2⟩ := h
    refine ⟨v, r, rfl, ?_, RL.flat hc.2 h2⟩
    cases c <;> first | (simpa [R] using h1) | (simp [Go.Abs.flat] at hc)
theorem VS.flat {n : Nat} {a a' : AV} {cs : List AV} {H H' : AH} (hc : cs.all Go.Abs.flat = true) (h : VS n [a] H [a'] H') : VS n (a :: cs) H (a' :: cs) H' := by
  intro x vs hr hn hl
  simp only [RL] at hl
  obtain ⟨v, r, rfl, h1, h2⟩ := hl
  obtain ⟨y, ey, hm, hr', hl'⟩ := h x [v] hr hn (by simp only [RL]; exact ⟨v, [], rfl, h1, rfl⟩)
  simp only [RL] at hl'
  obtain ⟨v', r', e1, h1', rfl⟩ := hl'
  cases e1
  exact ⟨y, ey, hm, hr', by simp only [RL]; exact ⟨v, r, rfl, h1', RL.flat hc h2⟩⟩
theorem Buf.cell {B H : AH} {x : AV} {cs : List AV} (h : Buf B H x cs) : acell x = some [x] := by
  rcases h.shape with ⟨nl, rfl, _⟩ | ⟨ex, l, rfl, _, _⟩ <;> rfl
end Go.Abs
namespace Go.Abs
mutual
theorem AV.low_mono {n m : Nat} (hnm : n ≤ m) : ∀ (a : AV), a.low n = true → a.low m = true
  | .bool _, _ => rfl
  | .int _ _, _ => rfl
  | .str _, _ => rfl
  | .nilptr, _ => rfl
  | .ptr l _, h => by simp only [AV.low, decide_eq_true_eq] at *; omega
  | .lptr cs _, h => by simp only [AV.low] at *; exact lows_mono hnm cs h
  | .lit _ _ cs _, h => by simp only [AV.low] at *; exact lows_mono hnm cs h
  | .ref _ l _ _ _, h => by simp only [AV.low, decide_eq_true_eq] at *; omega
  | .fn _ a b, h => by simp only [AV.low, Bool.and_eq_true] at *; exact ⟨lows_mono hnm a h.1, lows_mono hnm b h.2⟩
  | .nilfn, _ => rfl
  | .map l, h => by simp only [AV.low, decide_eq_true_eq] at *; omega
  | .nilmap, _ => rfl
  | .iface _ v, h => by simp only [AV.low] at *; exact AV.low_mono hnm v h
  | .nilif, _ => rfl
  | .agg cs, h => by simp only [AV.low] at *; exact lows_mono hnm cs h
  | .tup cs, h => by simp only [AV.low] at *; exact lows_mono hnm cs h
theorem lows_mono {n m : Nat} (hnm : n ≤ m) : ∀ (l : List AV), lows n l = true → lows m l = true
  | [], _ => rfl
  | a :: l, h => by simp only [lows, Bool.and_eq_true] at *; exact ⟨AV.low_mono hnm a h.1, lows_mono hnm l h.2⟩
end
theorem AB.low_mono {n m : Nat} (hnm : n ≤ m) (b : AB) (h : b.low n = true) : b.low m = true := by
  cases b with
  | cells cs => exact lows_mono hnm cs h
  | map es => simp only [AB.low, Bool.and_eq_true] at *; exact ⟨lows_mono hnm _ h.1, lows_mono hnm _ h.2⟩
  | dead => rfl
theorem WF.nil : WF [] := fun b hb => by simp at hb
theorem WF.snoc {H : AH} {b : AB} (hW : WF H) (hb : b.low (H.length + 1) = true) : WF (H ++ [b]) := by
  intro c hc
  rw [List.length_append, List.length_singleton]
  rcases List.mem_append.1 hc with h | h
  · exact AB.low_mono (by omega) c (hW c h)
  · rw [List.mem_singleton.1 h]; exact hb
end Go.Abs
