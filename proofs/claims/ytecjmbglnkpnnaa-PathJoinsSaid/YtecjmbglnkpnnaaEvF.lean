import Derived.Test.YtecjmbglnkpnnaaEvE
namespace Go.Proofs.Ytecjmbglnkpnnaa
open Go.Abs
attribute [local irreducible] ev evList evOp evRes EvCall VS aop FnEnd AX.then AX.inBlock abuiltin aindexAddr aload aconvert astore aslice aindex
attribute [local go_sem] T_3 T_4 T_5 T_9 T_24 T_25 T_38 ty3 ty4 ty5 ty9 ty24 ty25 ty38
set_option linter.unusedSimpArgs false

set_option maxRecDepth 10000 in
theorem same_ev (x y : AV) (a b : List (List UInt8)) (H : AH) (k : AV → AH → Prop) (hx : Strs T H 24 9 x a) (hy : Strs T H 24 9 y b) (ha : a.length < 2 ^ 62) (hk : k (.bool (a == b)) H) : EvCall Try.prog T G0 13 [x, y] H k := by
  have hlx := hx.len
  have hly := hy.len
  refine call_go (Try.func13) rfl (by decide) (by simp only [Try.ntmps13, List.length_cons, List.length_nil, Nat.reduceAdd, Nat.reduceSub, List.replicate, List.cons_append, List.nil_append]; rfl) ?_
  repeat' (first
    | refine do_end ?_ | refine then_n ?_ | refine then_r ?_ | refine then_e ?_ | refine block_n ?_ | refine block_r ?_ | refine block_e ?_ | refine block_o (by decide) ?_
    | refine go_seq ?_ | refine go_region ?_ | refine go_draw (by rfl) ?_ | refine do_block ?_ | refine do_scope ?_ | refine do_label ?_ | refine do_skip ?_ | refine do_ret ?_ | refine do_exit ?_
    | (apply do_op; (· simp only [go_sem, hlx, hly]; first | done | rfl); (· simp only [go_sem]; first | done | rfl))
    | (apply do_take; (· simp only [go_sem, hlx, hly]); (· simp only [go_sem, hlx, hly]; first | done | rfl); (· simp only [go_sem]; first | done | rfl))
    | (apply do_pass; (· simp only [go_sem, hlx, hly]; first | done | rfl); (· rfl); (· simp only [go_sem]; first | done | rfl))
    | (apply do_pass0; (· simp only [go_sem, hlx, hly]; first | done | rfl); (· simp only [go_sem]; first | done | rfl))
    | (apply do_split; (· simp only [go_sem, hlx, hly]; first | done | rfl); all_goals (intro hc; rw [hc]))
    | (refine do_drawn ?_ ?_; (· simp only [go_sem, hlx, hly]; done))
    | (apply cond_t; (· simp only [go_sem, hlx, hly])) | (apply cond_f; (· simp only [go_sem, hlx, hly]))
    | (apply do_cond; (· simp only [go_sem, hlx, hly]; first | done | rfl); all_goals (intro hc; try rw [hc])))
  · refine fin_ret (by simp only [aresults, Try.f13, go_sem]; first | done | rfl) ?_
    have hf : (a == b) = false := beq_false_of_ne (fun e => by subst e; simp at hc)
    rw [hf] at hk
    exact hk
  have hab : a.length = b.length := by simp at hc; omega
  refine loop_ind (fun d fr H' => ∃ i : Nat, (∃ j : Nat → AV, fr = [x, y, j 2, j 3, j 4, .int .i64 i, j 6, j 7, j 8, j 9, j 10, j 11, j 12, j 13, j 14, j 15, j 16, j 17, j 18, j 19, j 20, j 21, j 22, j 23, j 24, j 25]) ∧ H' = H ∧ i + d = a.length ∧ ∀ (m : Nat) (u v : List UInt8), m < i → a[m]? = some u → b[m]? = some v → u = v) ?_ a.length _ _
    ⟨0, junk rfl, rfl, by omega, fun m u v hm => absurd hm (Nat.not_lt_zero m)⟩
  rintro d fr H' ⟨i, ⟨j, rfl⟩, rfl, hi, hall⟩
  cases d with
  | zero =>
    have hlt : decide ((i : Int) < a.length) = false := by simp; omega
    repeat' (first
    | refine do_end ?_ | refine then_n ?_ | refine then_r ?_ | refine then_e ?_ | refine block_n ?_ | refine block_r ?_ | refine block_e ?_ | refine block_o (by decide) ?_
    | refine go_seq ?_ | refine go_region ?_ | refine go_draw (by rfl) ?_ | refine do_block ?_ | refine do_scope ?_ | refine do_label ?_ | refine do_skip ?_ | refine do_ret ?_ | refine do_exit ?_
    | (apply do_op; (· simp only [go_sem, hlt, hlx]; first | done | rfl); (· simp only [go_sem]; first | done | rfl))
    | (apply do_take; (· simp only [go_sem, hlt, hlx]); (· simp only [go_sem, hlt, hlx]; first | done | rfl); (· simp only [go_sem]; first | done | rfl))
    | (apply do_pass; (· simp only [go_sem, hlt, hlx]; first | done | rfl); (· rfl); (· simp only [go_sem]; first | done | rfl))
    | (apply do_pass0; (· simp only [go_sem, hlt, hlx]; first | done | rfl); (· simp only [go_sem]; first | done | rfl))
    | (apply do_split; (· simp only [go_sem, hlt, hlx]; first | done | rfl); all_goals (intro hc; rw [hc]))
    | (refine do_drawn ?_ ?_; (· simp only [go_sem, hlt, hlx]; done))
    | (apply cond_t; (· simp only [go_sem, hlt, hlx])) | (apply cond_f; (· simp only [go_sem, hlt, hlx]))
    | (apply do_cond; (· simp only [go_sem, hlt, hlx]; first | done | rfl); all_goals (intro hc; try rw [hc])))
    refine fin_ret (by simp only [aresults, Try.f13, go_sem]; first | done | rfl) ?_
    have hf : (a == b) = true := beq_iff_eq.2 (beq_cons_get hab fun m u v hu hv => hall m u v (by have := (List.getElem?_eq_some_iff.1 hu).1; omega) hu hv)
    rw [hf] at hk
    exact hk
  | succ d =>
    have hlt : decide ((i : Int) < a.length) = true := by simp; omega
    obtain ⟨s, hs⟩ : ∃ s, a[i]? = some s := ⟨a[i]'(by omega), List.getElem?_eq_getElem (by omega)⟩
    obtain ⟨z, hz⟩ : ∃ s, b[i]? = some s := ⟨b[i]'(by omega), List.getElem?_eq_getElem (by omega)⟩
    obtain ⟨p, hp1, hp2⟩ := hx.item i s hs
    obtain ⟨q, hq1, hq2⟩ := hy.item i z hz
    have hw : IntKind.i64.wrap ((i : Int) + 1) = ((i + 1 : Nat) : Int) := wrap_succ (by omega)
    repeat' (first
    | refine do_end ?_ | refine then_n ?_ | refine then_r ?_ | refine then_e ?_ | refine block_n ?_ | refine block_r ?_ | refine block_e ?_ | refine block_o (by decide) ?_
    | refine go_seq ?_ | refine go_region ?_ | refine go_draw (by rfl) ?_ | refine do_block ?_ | refine do_scope ?_ | refine do_label ?_ | refine do_skip ?_ | refine do_ret ?_ | refine do_exit ?_
    | (apply do_op; (· simp only [go_sem, hlt, hlx, hw, hp1, hp2, hq1, hq2]; first | done | rfl); (· simp only [go_sem]; first | done | rfl))
    | (apply do_take; (· simp only [go_sem, hlt, hlx, hw, hp1, hp2, hq1, hq2]); (· simp only [go_sem, hlt, hlx, hw, hp1, hp2, hq1, hq2]; first | done | rfl); (· simp only [go_sem]; first | done | rfl))
    | (apply do_pass; (· simp only [go_sem, hlt, hlx, hw, hp1, hp2, hq1, hq2]; first | done | rfl); (· rfl); (· simp only [go_sem]; first | done | rfl))
    | (apply do_pass0; (· simp only [go_sem, hlt, hlx, hw, hp1, hp2, hq1, hq2]; first | done | rfl); (· simp only [go_sem]; first | done | rfl))
    | (apply do_split; (· simp only [go_sem, hlt, hlx, hw, hp1, hp2, hq1, hq2]; first | done | rfl); all_goals (intro hc; rw [hc]))
    | (refine do_drawn ?_ ?_; (· simp only [go_sem, hlt, hlx, hw, hp1, hp2, hq1, hq2]; done))
    | (apply cond_t; (· simp only [go_sem, hlt, hlx, hw, hp1, hp2, hq1, hq2])) | (apply cond_f; (· simp only [go_sem, hlt, hlx, hw, hp1, hp2, hq1, hq2]))
    | (apply do_cond; (· simp only [go_sem, hlt, hlx, hw, hp1, hp2, hq1, hq2]; first | done | rfl); all_goals (intro hc; try rw [hc])))
    · refine fin_ret (by simp only [aresults, Try.f13, go_sem]; first | done | rfl) ?_
      have hf : (a == b) = false := beq_false_of_ne (fun e => by
        subst e
        rw [hs] at hz
        cases hz
        simp at hc)
      rw [hf] at hk
      exact hk
    · have hsz : s = z := by simpa using hc
      refine ⟨d, Nat.lt_succ_self d, i + 1, junk rfl, rfl, by omega, fun m u v hm hu hv => ?_⟩
      by_cases hmi : m = i
      · subst hmi
        rw [hs] at hu
        rw [hz] at hv
        cases hu
        cases hv
        exact hsz
      · exact hall m u v (by omega) hu hv

/-! with the answer told -/
theorem split_is (s : List UInt8) (H : AH) (k : AV → AH → Prop) (hW : WF H) (hs : s.length < 2 ^ 40) {l : List (List UInt8)} {c : Int} (e : splitOf s = (l, c)) (hk : ∀ nl ex, k (.tup [.lit nl ex (l.map .str) l.length, .int .i64 c]) H) : EvCall Try.prog T G0 11 [.str s] H k :=
  split_ev s H k hW hs (by rw [e]; exact hk)
theorem name_is (s : List UInt8) (H : AH) (k : AV → AH → Prop) (hs : s.length ≤ 9223372036854775807) {b : Bool} (e : nameOf s = b) (hk : k (.bool b) H) : EvCall Try.prog T G0 9 [.str s] H k := name_ev s H k hs (by rw [e]; exact hk)
theorem join_is (nl ex : Bool) (l : List (List UInt8)) (H : AH) (k : AV → AH → Prop) (hW : WF H) (ha : l.length < 2 ^ 40) (hb : (joined l).length < 2 ^ 40) {r : List UInt8} (e : joinOf l = r) (hk : k (.str r) H) : EvCall Try.prog T G0 14 [.lit nl ex (l.map .str) l.length] H k :=
  join_ev _ l H k hW (fun _ => Strs.lit (by rfl) (by rfl) (by rfl)) ha hb (by rw [e]; exact hk)
theorem same_is (x y : AV) (a b : List (List UInt8)) (H : AH) (k : AV → AH → Prop) (hx : Strs T H 24 9 x a) (hy : Strs T H 24 9 y b) (ha : a.length < 2 ^ 62) {v : Bool} (e : (a == b) = v) (hk : k (.bool v) H) : EvCall Try.prog T G0 13 [x, y] H k := same_ev x y a b H k hx hy ha (by rw [e]; exact hk)

def sAB : List UInt8 := [47, 97, 47, 98, 46, 116, 120, 116]
def lAB : List (List UInt8) := [[97], [98, 46, 116, 120, 116]]
theorem e1 : splitOf [47, 97, 47, 98, 46, 116, 120, 116] = ([[97], [98, 46, 116, 120, 116]], 0) := by decide
theorem e2 : splitOf [47, 97, 47] = ([], 15) := by decide
theorem e3 : splitOf [97] = ([], 2) := by decide
theorem e4 : joinOf [[97], [98, 46, 116, 120, 116]] = [47, 97, 47, 98, 46, 116, 120, 116] := by decide
theorem e5 : nameOf [120, 95, 49] = true := by decide

set_option maxHeartbeats 4000000 in
set_option maxRecDepth 10000 in
theorem awake_ev (H : AH) (k : AV → AH → Prop) (hW : WF H) (hk : k (.bool true) H) : EvCall Try.prog T G0 8 [] H k := by
  refine call_go (Try.func8) rfl (by decide) (by simp only [Try.ntmps8, List.length_cons, List.length_nil, Nat.reduceAdd, Nat.reduceSub, List.replicate, List.cons_append, List.nil_append]; rfl) ?_
  repeat' (first
    | refine do_end ?_ | refine then_n ?_ | refine then_r ?_ | refine then_e ?_ | refine block_n ?_ | refine block_r ?_ | refine block_e ?_ | refine block_o (by decide) ?_
    | refine go_seq ?_ | refine go_region ?_ | refine go_draw (by rfl) ?_ | refine do_block ?_ | refine do_scope ?_ | refine do_label ?_ | refine do_skip ?_ | refine do_ret ?_ | refine do_exit ?_
    | (apply do_op; (· simp only [go_sem, beq_self_eq_true]; first | done | rfl); (· simp only [go_sem]; first | done | rfl))
    | (apply do_take; (· simp only [go_sem, beq_self_eq_true]); (· simp only [go_sem, beq_self_eq_true]; first | done | rfl); (· simp only [go_sem]; first | done | rfl))
    | (apply do_pass; (· simp only [go_sem, beq_self_eq_true]; first | done | rfl); (· rfl); (· simp only [go_sem]; first | done | rfl))
    | (apply do_pass0; (· simp only [go_sem, beq_self_eq_true]; first | done | rfl); (· simp only [go_sem]; first | done | rfl))
    | (apply go_call (hC := callMono); (· simp only [go_sem, beq_self_eq_true]; first | done | rfl); (· simp only [go_sem, beq_self_eq_true]; first | done | rfl))
    | (apply go_call_take (hC := callMono); (· simp only [go_sem, beq_self_eq_true]); (· simp only [go_sem, beq_self_eq_true]; first | done | rfl); (· simp only [go_sem, beq_self_eq_true]; first | done | rfl))
    | (intro fr' hfr; simp only [go_sem, beq_self_eq_true] at hfr; subst hfr)
    | refine split_is _ _ _ hW (by decide) e1 (fun nl1 ex1 => ?_)
    | refine split_is _ _ _ hW (by decide) e2 (fun nl2 ex2 => ?_)
    | refine split_is _ _ _ hW (by decide) e3 (fun nl3 ex3 => ?_)
    | refine same_is _ _ [[97], [98, 46, 116, 120, 116]] [[97], [98, 46, 116, 120, 116]] _ _ (Strs.lit (by rfl) (by rfl) (by rfl)) (Strs.ref (l := [[97], [98, 46, 116, 120, 116]]) (by rfl) (by rfl) (by rfl) (by simp)) (by decide) (v := true) (by rfl) ?_
    | refine join_is _ _ _ _ _ (WF.snoc hW (by rfl)) (by decide) (by decide) e4 ?_
    | refine name_is _ _ _ (by decide) e5 ?_
    | (apply do_split; (· simp only [go_sem, beq_self_eq_true]; first | done | rfl); all_goals (intro hc; rw [hc]))
    | (refine do_drawn ?_ ?_; (· simp only [go_sem, beq_self_eq_true]; done))
    | (apply cond_t; (· simp only [go_sem, beq_self_eq_true])) | (apply cond_f; (· simp only [go_sem, beq_self_eq_true]))
    | (apply do_cond; (· simp only [go_sem, beq_self_eq_true]; first | done | rfl); all_goals (intro hc; try rw [hc])))
  exact fin_vs (by simp only [aresults, Try.f8, go_sem]; first | done | rfl) (VS.drop (Nat.le_refl _) hW (by rfl)) hk

set_option maxRecDepth 10000 in
theorem pathNames_ev (s : List UInt8) (H : AH) (k : AV → AH → Prop) (hW : WF H) (hs : s.length ≤ 9223372036854775807) (hk : k (.bool true) H) : EvCall Try.prog T G0 3 [.str s] H k := by
  refine call_go (Try.func3) rfl (by decide) (by simp only [Try.ntmps3, List.length_cons, List.length_nil, Nat.reduceAdd, Nat.reduceSub, List.replicate, List.cons_append, List.nil_append]; rfl) ?_
  repeat' (first
    | refine do_end ?_ | refine then_n ?_ | refine then_r ?_ | refine then_e ?_ | refine block_n ?_ | refine block_r ?_ | refine block_e ?_ | refine block_o (by decide) ?_
    | refine go_seq ?_ | refine go_region ?_ | refine go_draw (by rfl) ?_ | refine do_block ?_ | refine do_scope ?_ | refine do_label ?_ | refine do_skip ?_ | refine do_ret ?_ | refine do_exit ?_
    | (apply do_op; (· simp only [go_sem, beq_self_eq_true]; first | done | rfl); (· simp only [go_sem]; first | done | rfl))
    | (apply do_take; (· simp only [go_sem, beq_self_eq_true]); (· simp only [go_sem, beq_self_eq_true]; first | done | rfl); (· simp only [go_sem]; first | done | rfl))
    | (apply do_pass; (· simp only [go_sem, beq_self_eq_true]; first | done | rfl); (· rfl); (· simp only [go_sem]; first | done | rfl))
    | (apply do_pass0; (· simp only [go_sem, beq_self_eq_true]; first | done | rfl); (· simp only [go_sem]; first | done | rfl))
    | (apply go_call (hC := callMono); (· simp only [go_sem, beq_self_eq_true]; first | done | rfl); (· simp only [go_sem, beq_self_eq_true]; first | done | rfl))
    | (apply go_call_take (hC := callMono); (· simp only [go_sem, beq_self_eq_true]); (· simp only [go_sem, beq_self_eq_true]; first | done | rfl); (· simp only [go_sem, beq_self_eq_true]; first | done | rfl))
    | (intro fr' hfr; simp only [go_sem, beq_self_eq_true] at hfr; subst hfr)
    | refine awake_ev _ _ hW ?_
    | refine name_ev _ _ _ hs ?_
    | refine rname_ev _ _ _ hs ?_
    | (apply do_split; (· simp only [go_sem, beq_self_eq_true]; first | done | rfl); all_goals (intro hc; rw [hc]))
    | (refine do_drawn ?_ ?_; (· simp only [go_sem, beq_self_eq_true]; done))
    | (apply cond_t; (· simp only [go_sem, beq_self_eq_true])) | (apply cond_f; (· simp only [go_sem, beq_self_eq_true]))
    | (apply do_cond; (· simp only [go_sem, beq_self_eq_true]; first | done | rfl); all_goals (intro hc; try rw [hc])))
  · refine fin_ret (by simp only [aresults, Try.f3, go_sem]; first | done | rfl) ?_
    have : nameOf s = false := by
      unfold nameOf
      have h1 : decide ((s.length : Int) > 12) = true := by simp at hc ⊢; omega
      rw [h1]
      simp
    rw [this]
    exact hk
  · refine fin_ret (by simp only [aresults, Try.f3, go_sem]; first | done | rfl) ?_
    exact hk
end Go.Proofs.Ytecjmbglnkpnnaa
