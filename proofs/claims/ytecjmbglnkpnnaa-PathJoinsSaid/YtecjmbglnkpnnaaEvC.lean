import Derived.Test.YtecjmbglnkpnnaaEvB
import Derived.Test.YtecjmbglnkpnnaaAbsBuf
namespace Go.Proofs.Ytecjmbglnkpnnaa
open Go.Abs
attribute [local irreducible] ev evList evOp evRes EvCall VS aop FnEnd AX.then AX.inBlock abuiltin aindexAddr aload aconvert
attribute [local go_sem] T_3 T_4 T_5 T_9 T_24 T_25 T_38 ty3 ty4 ty5 ty9 ty24 ty25 ty38
set_option linter.unusedSimpArgs false

theorem beq_cons_get {a b : List (List UInt8)} (h : a.length = b.length) (hall : ∀ (i : Nat) (x y : List UInt8), a[i]? = some x → b[i]? = some y → x = y) : a = b := by
  refine List.ext_getElem? fun i => ?_
  by_cases hi : i < a.length
  · rw [List.getElem?_eq_getElem hi, List.getElem?_eq_getElem (h ▸ hi), hall i _ _ (List.getElem?_eq_getElem hi) (List.getElem?_eq_getElem (h ▸ hi))]
  · rw [List.getElem?_eq_none (by omega), List.getElem?_eq_none (by omega)]

set_option maxRecDepth 10000 in
theorem equal_ev (x y : AV) (a b : List (List UInt8)) (H : AH) (k : AV → AH → Prop) (hx : Strs T H 24 9 x a) (hy : Strs T H 24 9 y b) (ha : a.length < 2 ^ 62) (hk : k (.bool (a == b)) H) : EvCall Try.prog T G0 23 [x, y] H k := by
  have hlx := hx.len
  have hly := hy.len
  refine call_go (Try.func23) rfl (by decide) (by simp only [Try.ntmps23, List.length_cons, List.length_nil, Nat.reduceAdd, Nat.reduceSub, List.replicate, List.cons_append, List.nil_append]; rfl) ?_
  repeat' (first
    | refine do_end ?_ | refine then_n ?_ | refine then_r ?_ | refine then_e ?_ | refine block_n ?_ | refine block_r ?_ | refine block_e ?_ | refine block_o (by decide) ?_
    | refine go_seq ?_ | refine go_region ?_ | refine go_draw (by rfl) ?_ | refine do_block ?_ | refine do_scope ?_ | refine do_label ?_ | refine do_skip ?_ | refine do_ret ?_ | refine do_exit ?_
    | (apply do_op; (· simp only [go_sem, hlx, hly]; first | done | rfl); (· simp only [go_sem]; first | done | rfl))
    | (apply do_take; (· simp only [go_sem, hlx, hly]); (· simp only [go_sem, hlx, hly]; first | done | rfl); (· simp only [go_sem]; first | done | rfl))
    | (apply do_pass; (· simp only [go_sem, hlx, hly]; first | done | rfl); (· rfl); (· simp only [go_sem]; first | done | rfl))
    | (apply do_pass0; (· simp only [go_sem, hlx, hly]; first | done | rfl); (· simp only [go_sem]; first | done | rfl))
    | (apply do_split; (· simp only [go_sem, hlx, hly]; first | done | rfl); all_goals (intro hc; rw [hc]))
    | (refine do_drawn ?_ ?_; (· simp only [go_sem, hlx, hly]; done))
    | (apply cond_t; (· simp only [go_sem, hlx, hly])) | (apply cond_f; (· simp only [go_sem, hlx, hly]))
    | (apply do_cond; (· simp only [go_sem, hlx, hly]; first | done | rfl); all_goals (intro hc; try rw [hc])))
  · refine fin_ret (by simp only [aresults, Try.f23, go_sem]; first | done | rfl) ?_
    have hf : (a == b) = false := beq_false_of_ne (fun e => by subst e; simp at hc)
    rw [hf] at hk
    exact hk
  have hab : a.length = b.length := by simp at hc; omega
  refine loop_ind (fun d fr H' => ∃ i : Nat, (∃ j : Nat → AV, fr = [x, y, j 2, j 3, j 4, j 5, j 6, j 7, j 8, j 9, j 10, j 11, .int .i64 a.length, .int .i64 i, j 14, j 15, j 16, j 17, j 18, j 19, j 20, j 21, j 22, j 23, j 24, j 25]) ∧ H' = H ∧ i + d = a.length ∧ ∀ (m : Nat) (u v : List UInt8), m < i → a[m]? = some u → b[m]? = some v → u = v) ?_ a.length _ _
    ⟨0, junk rfl, rfl, by omega, fun m u v hm => absurd hm (Nat.not_lt_zero m)⟩
  rintro d fr H' ⟨i, ⟨j, rfl⟩, rfl, hi, hall⟩
  cases d with
  | zero =>
    have hlt : decide ((i : Int) < a.length) = false := by simp; omega
    repeat' (first
    | refine do_end ?_ | refine then_n ?_ | refine then_r ?_ | refine then_e ?_ | refine block_n ?_ | refine block_r ?_ | refine block_e ?_ | refine block_o (by decide) ?_
    | refine go_seq ?_ | refine go_region ?_ | refine go_draw (by rfl) ?_ | refine do_block ?_ | refine do_scope ?_ | refine do_label ?_ | refine do_skip ?_ | refine do_ret ?_ | refine do_exit ?_
    | (apply do_op; (· simp only [go_sem, hlt]; first | done | rfl); (· simp only [go_sem]; first | done | rfl))
    | (apply do_take; (· simp only [go_sem, hlt]); (· simp only [go_sem, hlt]; first | done | rfl); (· simp only [go_sem]; first | done | rfl))
    | (apply do_pass; (· simp only [go_sem, hlt]; first | done | rfl); (· rfl); (· simp only [go_sem]; first | done | rfl))
    | (apply do_pass0; (· simp only [go_sem, hlt]; first | done | rfl); (· simp only [go_sem]; first | done | rfl))
    | (apply do_split; (· simp only [go_sem, hlt]; first | done | rfl); all_goals (intro hc; rw [hc]))
    | (refine do_drawn ?_ ?_; (· simp only [go_sem, hlt]; done))
    | (apply cond_t; (· simp only [go_sem, hlt])) | (apply cond_f; (· simp only [go_sem, hlt]))
    | (apply do_cond; (· simp only [go_sem, hlt]; first | done | rfl); all_goals (intro hc; try rw [hc])))
    refine fin_ret (by simp only [aresults, Try.f23, go_sem]; first | done | rfl) ?_
    have hf : (a == b) = true := beq_iff_eq.2 (beq_cons_get hab fun m u v hu hv => hall m u v (by have := (List.getElem?_eq_some_iff.1 hu).1; omega) hu hv)
    rw [hf] at hk
    exact hk
  | succ d =>
    have hlt : decide ((i : Int) < a.length) = true := by simp; omega
    obtain ⟨s, hs⟩ : ∃ s, a[i]? = some s := ⟨a[i]'(by omega), List.getElem?_eq_getElem (by omega)⟩
    obtain ⟨z, hz⟩ : ∃ s, b[i]? = some s := ⟨b[i]'(by omega), List.getElem?_eq_getElem (by omega)⟩
    obtain ⟨p, hp1, hp2⟩ := hx.item i s hs
    obtain ⟨q, hq1, hq2⟩ := hy.item i z hz
    have hw : IntKind.i64.wrap ((i : Int) + 1) = ((i + 1 : Nat) : Int) := wrap_succ (by omega)
    repeat' (first
    | refine do_end ?_ | refine then_n ?_ | refine then_r ?_ | refine then_e ?_ | refine block_n ?_ | refine block_r ?_ | refine block_e ?_ | refine block_o (by decide) ?_
    | refine go_seq ?_ | refine go_region ?_ | refine go_draw (by rfl) ?_ | refine do_block ?_ | refine do_scope ?_ | refine do_label ?_ | refine do_skip ?_ | refine do_ret ?_ | refine do_exit ?_
    | (apply do_op; (· simp only [go_sem, hlt, hw, hp1, hp2, hq1, hq2]; first | done | rfl); (· simp only [go_sem]; first | done | rfl))
    | (apply do_take; (· simp only [go_sem, hlt, hw, hp1, hp2, hq1, hq2]); (· simp only [go_sem, hlt, hw, hp1, hp2, hq1, hq2]; first | done | rfl); (· simp only [go_sem]; first | done | rfl))
    | (apply do_pass; (· simp only [go_sem, hlt, hw, hp1, hp2, hq1, hq2]; first | done | rfl); (· rfl); (· simp only [go_sem]; first | done | rfl))
    | (apply do_pass0; (· simp only [go_sem, hlt, hw, hp1, hp2, hq1, hq2]; first | done | rfl); (· simp only [go_sem]; first | done | rfl))
    | (apply do_split; (· simp only [go_sem, hlt, hw, hp1, hp2, hq1, hq2]; first | done | rfl); all_goals (intro hc; rw [hc]))
    | (refine do_drawn ?_ ?_; (· simp only [go_sem, hlt, hw, hp1, hp2, hq1, hq2]; done))
    | (apply cond_t; (· simp only [go_sem, hlt, hw, hp1, hp2, hq1, hq2])) | (apply cond_f; (· simp only [go_sem, hlt, hw, hp1, hp2, hq1, hq2]))
    | (apply do_cond; (· simp only [go_sem, hlt, hw, hp1, hp2, hq1, hq2]; first | done | rfl); all_goals (intro hc; try rw [hc])))
    · refine fin_ret (by simp only [aresults, Try.f23, go_sem]; first | done | rfl) ?_
      have hf : (a == b) = false := beq_false_of_ne (fun e => by
        subst e
        rw [hs] at hz
        cases hz
        simp at hc)
      rw [hf] at hk
      exact hk
    · have hsz : s = z := by simpa using hc
      refine ⟨d, Nat.lt_succ_self d, i + 1, junk rfl, rfl, by omega, fun m u v hm hu hv => ?_⟩
      by_cases hmi : m = i
      · subst hmi
        rw [hs] at hu
        rw [hz] at hv
        cases hu
        cases hv
        exact hsz
      · exact hall m u v (by omega) hu hv

def joined (l : List (List UInt8)) : List UInt8 := (l.map fun s => 47 :: s).flatten
def joinOf (l : List (List UInt8)) : List UInt8 := if l.isEmpty then [47] else joined l
def bytesOf (s : List UInt8) : List AV := s.map fun b => .int .u8 b.toNat
theorem joined_take {l : List (List UInt8)} {i : Nat} {s : List UInt8} (h : l[i]? = some s) : joined (l.take (i + 1)) = joined (l.take i) ++ 47 :: s := by
  rw [List.take_add_one, h]
  simp [joined]
theorem joined_le {l : List (List UInt8)} {i : Nat} : (joined (l.take i)).length ≤ (joined l).length := by
  have h : joined l = joined (l.take i) ++ joined (l.drop i) := by
    conv => lhs; rw [← List.take_append_drop i l]
    unfold joined
    rw [List.map_append, List.flatten_append]
  rw [h, List.length_append]
  omega

set_option maxRecDepth 10000 in
theorem join_ev (x : AV) (l : List (List UInt8)) (H : AH) (k : AV → AH → Prop) (hW : WF H) (hx : ∀ G, Strs T (H ++ G) 24 9 x l) (ha : l.length < 2 ^ 40) (hb : (joined l).length < 2 ^ 40) (hk : k (.str (joinOf l)) H) : EvCall Try.prog T G0 14 [x] H k := by
  have hlx := (hx []).len
  rw [List.append_nil] at hlx
  refine call_go (Try.func14) rfl (by decide) (by simp only [Try.ntmps14, List.length_cons, List.length_nil, Nat.reduceAdd, Nat.reduceSub, List.replicate, List.cons_append, List.nil_append]; rfl) ?_
  repeat' (first
    | refine do_end ?_ | refine then_n ?_ | refine then_r ?_ | refine then_e ?_ | refine block_n ?_ | refine block_r ?_ | refine block_e ?_ | refine block_o (by decide) ?_
    | refine go_seq ?_ | refine go_region ?_ | refine go_draw (by rfl) ?_ | refine do_block ?_ | refine do_scope ?_ | refine do_label ?_ | refine do_skip ?_ | refine do_ret ?_ | refine do_exit ?_
    | (apply do_op; (· simp only [go_sem, hlx]; first | done | rfl); (· simp only [go_sem]; first | done | rfl))
    | (apply do_take; (· simp only [go_sem, hlx]); (· simp only [go_sem, hlx]; first | done | rfl); (· simp only [go_sem]; first | done | rfl))
    | (apply do_pass; (· simp only [go_sem, hlx]; first | done | rfl); (· rfl); (· simp only [go_sem]; first | done | rfl))
    | (apply do_pass0; (· simp only [go_sem, hlx]; first | done | rfl); (· simp only [go_sem]; first | done | rfl))
    | (apply do_split; (· simp only [go_sem, hlx]; first | done | rfl); all_goals (intro hc; rw [hc]))
    | (refine do_drawn ?_ ?_; (· simp only [go_sem, hlx]; done))
    | (apply cond_t; (· simp only [go_sem, hlx])) | (apply cond_f; (· simp only [go_sem, hlx]))
    | (apply do_cond; (· simp only [go_sem, hlx]; first | done | rfl); all_goals (intro hc; try rw [hc])))
  · refine fin_ret (by simp only [aresults, Try.f14, go_sem]; first | done | rfl) ?_
    have : l = [] := by
      cases l with
      | nil => rfl
      | cons a l => simp at hc; omega
    subst this
    exact hk
  have hne : l.isEmpty = false := by
    cases l with
    | nil => simp at hc
    | cons a l => rfl
  refine loop_ind (fun d fr H' => ∃ (i : Nat) (t3 : AV), (∃ j : Nat → AV, fr = [x, j 1, j 2, t3, j 4, j 5, j 6, j 7, j 8, x, .int .i64 l.length, .int .i64 i, j 12, j 13, j 14, j 15, j 16, j 17, j 18, j 19, j 20, j 21, j 22]) ∧ i + d = l.length ∧ Buf H H' t3 (bytesOf (joined (l.take i)))) ?_ l.length _ _
    ⟨0, _, junk rfl, by omega, Buf.nil⟩
  rintro d fr H' ⟨i, t3, ⟨j, rfl⟩, hi, hB⟩
  cases d with
  | zero =>
    have hlt : decide ((i : Int) < l.length) = false := by simp; omega
    have hfull : l.take i = l := by rw [List.take_of_length_le (by omega)]
    rw [hfull] at hB
    have hcv : aconvert T H' 38 9 t3 = some (.str (joined l), H') := hB.text (by rfl) (by rfl) (by rfl)
    repeat' (first
    | refine do_end ?_ | refine then_n ?_ | refine then_r ?_ | refine then_e ?_ | refine block_n ?_ | refine block_r ?_ | refine block_e ?_ | refine block_o (by decide) ?_
    | refine go_seq ?_ | refine go_region ?_ | refine go_draw (by rfl) ?_ | refine do_block ?_ | refine do_scope ?_ | refine do_label ?_ | refine do_skip ?_ | refine do_ret ?_ | refine do_exit ?_
    | (apply do_op; (· simp only [go_sem, hlt, hcv]; first | done | rfl); (· simp only [go_sem]; first | done | rfl))
    | (apply do_take; (· simp only [go_sem, hlt, hcv]); (· simp only [go_sem, hlt, hcv]; first | done | rfl); (· simp only [go_sem]; first | done | rfl))
    | (apply do_pass; (· simp only [go_sem, hlt, hcv]; first | done | rfl); (· rfl); (· simp only [go_sem]; first | done | rfl))
    | (apply do_pass0; (· simp only [go_sem, hlt, hcv]; first | done | rfl); (· simp only [go_sem]; first | done | rfl))
    | (apply do_split; (· simp only [go_sem, hlt, hcv]; first | done | rfl); all_goals (intro hc; rw [hc]))
    | (refine do_drawn ?_ ?_; (· simp only [go_sem, hlt, hcv]; done))
    | (apply cond_t; (· simp only [go_sem, hlt, hcv])) | (apply cond_f; (· simp only [go_sem, hlt, hcv]))
    | (apply do_cond; (· simp only [go_sem, hlt, hcv]; first | done | rfl); all_goals (intro hc; try rw [hc])))
    obtain ⟨G, rfl⟩ := hB.ext
    refine fin_vs (by simp only [aresults, Try.f14, go_sem]; first | done | rfl) (VS.drop (Nat.le_refl _) hW (by rfl)) ?_
    rw [joinOf, hne] at hk
    exact hk
  | succ d =>
    have hlt : decide ((i : Int) < l.length) = true := by simp; omega
    obtain ⟨s, hs⟩ : ∃ s, l[i]? = some s := ⟨l[i]'(by omega), List.getElem?_eq_getElem (by omega)⟩
    obtain ⟨G, hG⟩ := hB.ext
    obtain ⟨p, hp1, hp2⟩ := (hx G).item i s hs
    rw [← hG] at hp2
    have hw : IntKind.i64.wrap ((i : Int) + 1) = ((i + 1 : Nat) : Int) := wrap_succ (by omega)
    have hle := joined_le (l := l) (i := i + 1)
    rw [joined_take hs] at hle
    simp only [List.length_append, List.length_cons] at hle
    have hbl : (bytesOf (joined (l.take i))).length = (joined (l.take i)).length := by simp [bytesOf]
    obtain ⟨x1, H1, ha1, hB1⟩ := (hB.push (.cells [.int .u8 47])).append (T := T) (t := 38) (u := 38) (e := 5) (y := .ref true H'.length 0 1 1) (new := [.int .u8 47]) (by rfl) (by rfl) (by rfl) (by rfl) (by simp [acells])
      (by simp only [hbl, List.length_cons, List.length_nil]; unfold maxLen; omega) (by simp only [hbl, List.length_cons, List.length_nil, T_5, ty5]; omega)
    have hl1 : (bytesOf (joined (l.take i)) ++ [AV.int .u8 47]).length = (joined (l.take i)).length + 1 := by simp [bytesOf]
    obtain ⟨x2, H2, ha2, hB2⟩ := hB1.append (T := T) (t := 38) (u := 9) (e := 5) (y := .str s) (new := bytesOf s) (by rfl) (by rfl) (by rfl) (by simp [alen, bytesOf]) (by simp [acells, bytesOf])
      (by rw [hl1]; simp only [bytesOf, List.length_map]; unfold maxLen; omega) (by rw [hl1]; simp only [bytesOf, List.length_map, T_5, ty5]; omega)
    have hB3 : Buf H H2 x2 (bytesOf (joined (l.take (i + 1)))) := by
      rw [joined_take hs]
      simpa [bytesOf] using hB2
    repeat' (first
    | refine do_end ?_ | refine then_n ?_ | refine then_r ?_ | refine then_e ?_ | refine block_n ?_ | refine block_r ?_ | refine block_e ?_ | refine block_o (by decide) ?_
    | refine go_seq ?_ | refine go_region ?_ | refine go_draw (by rfl) ?_ | refine do_block ?_ | refine do_scope ?_ | refine do_label ?_ | refine do_skip ?_ | refine do_ret ?_ | refine do_exit ?_
    | (apply do_op; (· simp only [go_sem, hlt, hw, hp1, hp2, ha1, ha2]; first | done | rfl); (· simp only [go_sem]; first | done | rfl))
    | (apply do_take; (· simp only [go_sem, hlt, hw, hp1, hp2, ha1, ha2]); (· simp only [go_sem, hlt, hw, hp1, hp2, ha1, ha2]; first | done | rfl); (· simp only [go_sem]; first | done | rfl))
    | (apply do_pass; (· simp only [go_sem, hlt, hw, hp1, hp2, ha1, ha2]; first | done | rfl); (· rfl); (· simp only [go_sem]; first | done | rfl))
    | (apply do_pass0; (· simp only [go_sem, hlt, hw, hp1, hp2, ha1, ha2]; first | done | rfl); (· simp only [go_sem]; first | done | rfl))
    | (apply do_split; (· simp only [go_sem, hlt, hw, hp1, hp2, ha1, ha2]; first | done | rfl); all_goals (intro hc; rw [hc]))
    | (refine do_drawn ?_ ?_; (· simp only [go_sem, hlt, hw, hp1, hp2, ha1, ha2]; done))
    | (apply cond_t; (· simp only [go_sem, hlt, hw, hp1, hp2, ha1, ha2])) | (apply cond_f; (· simp only [go_sem, hlt, hw, hp1, hp2, ha1, ha2]))
    | (apply do_cond; (· simp only [go_sem, hlt, hw, hp1, hp2, ha1, ha2]; first | done | rfl); all_goals (intro hc; try rw [hc])))
    exact ⟨d, Nat.lt_succ_self d, i + 1, _, junk rfl, by omega, hB3⟩
end Go.Proofs.Ytecjmbglnkpnnaa
