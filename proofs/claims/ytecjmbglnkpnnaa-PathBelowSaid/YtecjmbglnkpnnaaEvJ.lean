import Derived.Test.YtecjmbglnkpnnaaEvI
namespace Go.Proofs.Ytecjmbglnkpnnaa
open Go.Abs
attribute [local irreducible] ev evList evOp evRes EvCall VS aop FnEnd AX.then AX.inBlock abuiltin aindexAddr aload aconvert astore aslice aindex
attribute [local go_sem] T_3 T_4 T_5 T_9 T_24 T_25 T_38 ty3 ty4 ty5 ty9 ty24 ty25 ty38
set_option linter.unusedSimpArgs false
set_option linter.unusedVariables false

theorem split_small (s : List UInt8) : (splitOf s).1.length ≤ 6 := by
  rw [refSplit_eq]
  unfold refSplit
  split
  · simp
  · rename_i b r
    split
    · simp
    · split
      · simp
      · split
        · split
          · simp
          · simp; omega
        · simp
theorem joined_small : ∀ (l : List (List UInt8)), (∀ y ∈ l, nameOf y = true) → (joined l).length ≤ 13 * l.length
  | [], _ => by simp [joined]
  | x :: t, h => by
    have ih := joined_small t (fun y hy => h y (by simp [hy]))
    have hx := h x (by simp)
    unfold nameOf at hx
    simp only [Bool.and_eq_true, Bool.not_eq_true', decide_eq_false_iff_not] at hx
    have := hx.1.1.1.2
    rw [joined_cons]
    simp only [List.length_cons, List.length_append]
    omega

set_option maxRecDepth 10000 in
theorem pathBack_ev (s : List UInt8) (nl ex : Bool) (l : List (List UInt8)) (H : AH) (k : AV → AH → Prop) (hW : WF H) (hln : ∀ y ∈ l, y.length ≤ 9223372036854775807) (hk : k (.bool true) H) : EvCall Try.prog T G0 5 [.str s, .lit nl ex (l.map .str) l.length] H k := by
  have hS : Strs T H 24 9 (.lit nl ex (l.map .str) l.length) l := Strs.lit (by rfl) (by rfl) (by rfl)
  have hlx := hS.len
  refine call_go (Try.func5) rfl (by decide) (by simp only [Try.ntmps5, List.length_cons, List.length_nil, Nat.reduceAdd, Nat.reduceSub, List.replicate, List.cons_append, List.nil_append]; rfl) ?_
  by_cases h4 : (s.length : Int) > 400
  · have hd : decide ((s.length : Int) > 400) = true := by simpa using h4
    repeat' (first
    | refine do_end ?_ | refine then_n ?_ | refine then_r ?_ | refine then_e ?_ | refine block_n ?_ | refine block_r ?_ | refine block_e ?_ | refine block_o (by decide) ?_
    | refine go_seq ?_ | refine go_region ?_ | refine go_draw (by rfl) ?_ | refine do_block ?_ | refine do_scope ?_ | refine do_label ?_ | refine do_skip ?_ | refine do_ret ?_ | refine do_exit ?_
    | (apply do_op; (· simp only [go_sem, hd, hlx]; first | done | rfl); (· simp only [go_sem]; first | done | rfl))
    | (apply do_take; (· simp only [go_sem, hd, hlx]); (· simp only [go_sem, hd, hlx]; first | done | rfl); (· simp only [go_sem]; first | done | rfl))
    | (apply do_pass; (· simp only [go_sem, hd, hlx]; first | done | rfl); (· rfl); (· simp only [go_sem]; first | done | rfl))
    | (apply do_pass0; (· simp only [go_sem, hd, hlx]; first | done | rfl); (· simp only [go_sem]; first | done | rfl))
    | (apply go_call (hC := callMono); (· simp only [go_sem, hd, hlx]; first | done | rfl); (· simp only [go_sem, hd, hlx]; first | done | rfl))
    | (apply go_call_take (hC := callMono); (· simp only [go_sem, hd, hlx]); (· simp only [go_sem, hd, hlx]; first | done | rfl); (· simp only [go_sem, hd, hlx]; first | done | rfl))
    | (intro fr' hfr; simp only [go_sem, hd, hlx] at hfr; subst hfr)
    | refine awake_ev _ _ hW ?_
    | (apply do_split; (· simp only [go_sem, hd, hlx]; first | done | rfl); all_goals (intro hc; rw [hc]))
    | (refine do_drawn ?_ ?_; (· simp only [go_sem, hd, hlx]; done))
    | (apply cond_t; (· simp only [go_sem, hd, hlx])) | (apply cond_f; (· simp only [go_sem, hd, hlx]))
    | (apply do_cond; (· simp only [go_sem, hd, hlx]; first | done | rfl); all_goals (intro hc; try rw [hc])))
    refine fin_ret (by simp only [aresults, Try.f5, go_sem]; first | done | rfl) ?_
    exact hk
  have hd : decide ((s.length : Int) > 400) = false := by simpa using h4
  by_cases h6 : (l.length : Int) > 6
  · have hd6 : decide ((l.length : Int) > 6) = true := by simpa using h6
    repeat' (first
    | refine do_end ?_ | refine then_n ?_ | refine then_r ?_ | refine then_e ?_ | refine block_n ?_ | refine block_r ?_ | refine block_e ?_ | refine block_o (by decide) ?_
    | refine go_seq ?_ | refine go_region ?_ | refine go_draw (by rfl) ?_ | refine do_block ?_ | refine do_scope ?_ | refine do_label ?_ | refine do_skip ?_ | refine do_ret ?_ | refine do_exit ?_
    | (apply do_op; (· simp only [go_sem, hd, hd6, hlx]; first | done | rfl); (· simp only [go_sem]; first | done | rfl))
    | (apply do_take; (· simp only [go_sem, hd, hd6, hlx]); (· simp only [go_sem, hd, hd6, hlx]; first | done | rfl); (· simp only [go_sem]; first | done | rfl))
    | (apply do_pass; (· simp only [go_sem, hd, hd6, hlx]; first | done | rfl); (· rfl); (· simp only [go_sem]; first | done | rfl))
    | (apply do_pass0; (· simp only [go_sem, hd, hd6, hlx]; first | done | rfl); (· simp only [go_sem]; first | done | rfl))
    | (apply go_call (hC := callMono); (· simp only [go_sem, hd, hd6, hlx]; first | done | rfl); (· simp only [go_sem, hd, hd6, hlx]; first | done | rfl))
    | (apply go_call_take (hC := callMono); (· simp only [go_sem, hd, hd6, hlx]); (· simp only [go_sem, hd, hd6, hlx]; first | done | rfl); (· simp only [go_sem, hd, hd6, hlx]; first | done | rfl))
    | (intro fr' hfr; simp only [go_sem, hd, hd6, hlx] at hfr; subst hfr)
    | refine awake_ev _ _ hW ?_
    | (apply do_split; (· simp only [go_sem, hd, hd6, hlx]; first | done | rfl); all_goals (intro hc; rw [hc]))
    | (refine do_drawn ?_ ?_; (· simp only [go_sem, hd, hd6, hlx]; done))
    | (apply cond_t; (· simp only [go_sem, hd, hd6, hlx])) | (apply cond_f; (· simp only [go_sem, hd, hd6, hlx]))
    | (apply do_cond; (· simp only [go_sem, hd, hd6, hlx]; first | done | rfl); all_goals (intro hc; try rw [hc])))
    refine fin_ret (by simp only [aresults, Try.f5, go_sem]; first | done | rfl) ?_
    exact hk
  have hd6 : decide ((l.length : Int) > 6) = false := by simpa using h6
  have hs : s.length < 2 ^ 40 := by omega
  have hsm := split_small s
  by_cases hc0 : (splitOf s).2 = 0
  · have hz : ((splitOf s).2 == 0) = true := by simpa using hc0
    have hj := join_split s hc0
    have hjl : (joined (splitOf s).1).length < 2 ^ 40 := by
      by_cases he : (splitOf s).1 = []
      · rw [he]; simp [joined]
      · rw [joinOf, if_neg (by simpa using he)] at hj
        rw [hj]; exact hs
    repeat' (first
    | refine do_end ?_ | refine then_n ?_ | refine then_r ?_ | refine then_e ?_ | refine block_n ?_ | refine block_r ?_ | refine block_e ?_ | refine block_o (by decide) ?_
    | refine go_seq ?_ | refine go_region ?_ | refine go_draw (by rfl) ?_ | refine do_block ?_ | refine do_scope ?_ | refine do_label ?_ | refine do_skip ?_ | refine do_ret ?_ | refine do_exit ?_
    | (apply do_op; (· simp only [go_sem, hd, hd6, hlx, hz, beq_self_eq_true]; first | done | rfl); (· simp only [go_sem]; first | done | rfl))
    | (apply do_take; (· simp only [go_sem, hd, hd6, hlx, hz, beq_self_eq_true]); (· simp only [go_sem, hd, hd6, hlx, hz, beq_self_eq_true]; first | done | rfl); (· simp only [go_sem]; first | done | rfl))
    | (apply do_pass; (· simp only [go_sem, hd, hd6, hlx, hz, beq_self_eq_true]; first | done | rfl); (· rfl); (· simp only [go_sem]; first | done | rfl))
    | (apply do_pass0; (· simp only [go_sem, hd, hd6, hlx, hz, beq_self_eq_true]; first | done | rfl); (· simp only [go_sem]; first | done | rfl))
    | (apply go_call (hC := callMono); (· simp only [go_sem, hd, hd6, hlx, hz, beq_self_eq_true]; first | done | rfl); (· simp only [go_sem, hd, hd6, hlx, hz, beq_self_eq_true]; first | done | rfl))
    | (apply go_call_take (hC := callMono); (· simp only [go_sem, hd, hd6, hlx, hz, beq_self_eq_true]); (· simp only [go_sem, hd, hd6, hlx, hz, beq_self_eq_true]; first | done | rfl); (· simp only [go_sem, hd, hd6, hlx, hz, beq_self_eq_true]; first | done | rfl))
    | (intro fr' hfr; simp only [go_sem, hd, hd6, hlx, hz, beq_self_eq_true] at hfr; subst hfr)
    | refine split_ev _ _ _ hW hs (fun nl2 ex2 => ?_)
    | refine join_is _ _ _ _ _ hW (by omega) hjl hj ?_
    | (apply do_split; (· simp only [go_sem, hd, hd6, hlx, hz, beq_self_eq_true]; first | done | rfl); all_goals (intro hc; rw [hc]))
    | (refine do_drawn ?_ ?_; (· simp only [go_sem, hd, hd6, hlx, hz, beq_self_eq_true]; done))
    | (apply cond_t; (· simp only [go_sem, hd, hd6, hlx, hz, beq_self_eq_true])) | (apply cond_f; (· simp only [go_sem, hd, hd6, hlx, hz, beq_self_eq_true]))
    | (apply do_cond; (· simp only [go_sem, hd, hd6, hlx, hz, beq_self_eq_true]; first | done | rfl); all_goals (intro hc; try rw [hc])))
    refine loop_ind (fun d fr H' => ∃ i : Nat, (∃ j : Nat → AV, fr = [j 0, .lit nl ex (l.map .str) l.length, j 2, j 3, j 4, j 5, j 6, .int .i64 i, j 8, j 9, j 10, j 11, j 12, j 13, j 14, j 15, j 16, j 17, j 18, j 19, j 20, j 21, j 22, j 23, j 24, j 25, j 26, j 27, j 28, j 29, j 30, j 31, j 32, j 33, j 34, j 35, j 36, j 37, j 38, j 39, j 40, j 41, j 42, j 43, j 44, j 45, j 46, j 47, j 48, j 49, j 50, j 51, j 52, j 53, j 54, j 55, j 56, j 57, j 58, j 59, j 60]) ∧ H' = H ∧ i + d = l.length ∧ (l.take i).all nameOf = true) ?_ l.length _ _
      ⟨0, junk rfl, rfl, by omega, by simp⟩
    rintro d fr H' ⟨i, ⟨j, rfl⟩, rfl, hi, hall⟩
    cases d with
    | zero =>
      have hlt : decide ((i : Int) < l.length) = false := by simp; omega
      rw [List.take_of_length_le (by omega)] at hall
      have hn : ∀ y ∈ l, nameOf y = true := by simpa using hall
      have hjs := joined_small l hn
      have hjl2 : (joinOf l).length < 2 ^ 40 := by
        unfold joinOf
        split
        · simp
        · omega
      have hsj := split_join l hn (by omega)
      repeat' (first
    | refine do_end ?_ | refine then_n ?_ | refine then_r ?_ | refine then_e ?_ | refine block_n ?_ | refine block_r ?_ | refine block_e ?_ | refine block_o (by decide) ?_
    | refine go_seq ?_ | refine go_region ?_ | refine go_draw (by rfl) ?_ | refine do_block ?_ | refine do_scope ?_ | refine do_label ?_ | refine do_skip ?_ | refine do_ret ?_ | refine do_exit ?_
    | (apply do_op; (· simp only [go_sem, hlt, hlx, beq_self_eq_true]; first | done | rfl); (· simp only [go_sem]; first | done | rfl))
    | (apply do_take; (· simp only [go_sem, hlt, hlx, beq_self_eq_true]); (· simp only [go_sem, hlt, hlx, beq_self_eq_true]; first | done | rfl); (· simp only [go_sem]; first | done | rfl))
    | (apply do_pass; (· simp only [go_sem, hlt, hlx, beq_self_eq_true]; first | done | rfl); (· rfl); (· simp only [go_sem]; first | done | rfl))
    | (apply do_pass0; (· simp only [go_sem, hlt, hlx, beq_self_eq_true]; first | done | rfl); (· simp only [go_sem]; first | done | rfl))
    | (apply go_call (hC := callMono); (· simp only [go_sem, hlt, hlx, beq_self_eq_true]; first | done | rfl); (· simp only [go_sem, hlt, hlx, beq_self_eq_true]; first | done | rfl))
    | (apply go_call_take (hC := callMono); (· simp only [go_sem, hlt, hlx, beq_self_eq_true]); (· simp only [go_sem, hlt, hlx, beq_self_eq_true]; first | done | rfl); (· simp only [go_sem, hlt, hlx, beq_self_eq_true]; first | done | rfl))
    | (intro fr' hfr; simp only [go_sem, hlt, hlx, beq_self_eq_true] at hfr; subst hfr)
    | refine join_is _ _ _ _ _ hW (by omega) (by omega) rfl ?_
    | refine split_is _ _ _ hW hjl2 hsj (fun nl3 ex3 => ?_)
    | refine awake_ev _ _ hW ?_
    | refine same_is _ _ l l _ _ (Strs.lit (by rfl) (by rfl) (by rfl)) (Strs.lit (by rfl) (by rfl) (by rfl)) (by omega) (v := true) (beq_self_eq_true _) ?_
    | (apply do_split; (· simp only [go_sem, hlt, hlx, beq_self_eq_true]; first | done | rfl); all_goals (intro hc; rw [hc]))
    | (refine do_drawn ?_ ?_; (· simp only [go_sem, hlt, hlx, beq_self_eq_true]; done))
    | (apply cond_t; (· simp only [go_sem, hlt, hlx, beq_self_eq_true])) | (apply cond_f; (· simp only [go_sem, hlt, hlx, beq_self_eq_true]))
    | (apply do_cond; (· simp only [go_sem, hlt, hlx, beq_self_eq_true]; first | done | rfl); all_goals (intro hc; try rw [hc])))
      refine fin_ret (by simp only [aresults, Try.f5, go_sem]; first | done | rfl) ?_
      exact hk
    | succ d =>
      have hlt : decide ((i : Int) < l.length) = true := by simp; omega
      obtain ⟨z, hz1⟩ : ∃ s, l[i]? = some s := ⟨l[i]'(by omega), List.getElem?_eq_getElem (by omega)⟩
      obtain ⟨p, hp1, hp2⟩ := hS.item i z hz1
      have hw : IntKind.i64.wrap ((i : Int) + 1) = ((i + 1 : Nat) : Int) := wrap_succ (by omega)
      have hzl := hln z (List.mem_of_getElem? hz1)
      repeat' (first
    | refine do_end ?_ | refine then_n ?_ | refine then_r ?_ | refine then_e ?_ | refine block_n ?_ | refine block_r ?_ | refine block_e ?_ | refine block_o (by decide) ?_
    | refine go_seq ?_ | refine go_region ?_ | refine go_draw (by rfl) ?_ | refine do_block ?_ | refine do_scope ?_ | refine do_label ?_ | refine do_skip ?_ | refine do_ret ?_ | refine do_exit ?_
    | (apply do_op; (· simp only [go_sem, hlt, hw, hlx, hp1, hp2]; first | done | rfl); (· simp only [go_sem]; first | done | rfl))
    | (apply do_take; (· simp only [go_sem, hlt, hw, hlx, hp1, hp2]); (· simp only [go_sem, hlt, hw, hlx, hp1, hp2]; first | done | rfl); (· simp only [go_sem]; first | done | rfl))
    | (apply do_pass; (· simp only [go_sem, hlt, hw, hlx, hp1, hp2]; first | done | rfl); (· rfl); (· simp only [go_sem]; first | done | rfl))
    | (apply do_pass0; (· simp only [go_sem, hlt, hw, hlx, hp1, hp2]; first | done | rfl); (· simp only [go_sem]; first | done | rfl))
    | (apply go_call (hC := callMono); (· simp only [go_sem, hlt, hw, hlx, hp1, hp2]; first | done | rfl); (· simp only [go_sem, hlt, hw, hlx, hp1, hp2]; first | done | rfl))
    | (apply go_call_take (hC := callMono); (· simp only [go_sem, hlt, hw, hlx, hp1, hp2]); (· simp only [go_sem, hlt, hw, hlx, hp1, hp2]; first | done | rfl); (· simp only [go_sem, hlt, hw, hlx, hp1, hp2]; first | done | rfl))
    | (intro fr' hfr; simp only [go_sem, hlt, hw, hlx, hp1, hp2] at hfr; subst hfr)
    | refine rname_ev _ _ _ hzl ?_
    | refine awake_ev _ _ hW ?_
    | (apply do_split; (· simp only [go_sem, hlt, hw, hlx, hp1, hp2]; first | done | rfl); all_goals (intro hc; rw [hc]))
    | (refine do_drawn ?_ ?_; (· simp only [go_sem, hlt, hw, hlx, hp1, hp2]; done))
    | (apply cond_t; (· simp only [go_sem, hlt, hw, hlx, hp1, hp2])) | (apply cond_f; (· simp only [go_sem, hlt, hw, hlx, hp1, hp2]))
    | (apply do_cond; (· simp only [go_sem, hlt, hw, hlx, hp1, hp2]; first | done | rfl); all_goals (intro hc; try rw [hc])))
      · refine fin_ret (by simp only [aresults, Try.f5, go_sem]; first | done | rfl) ?_
        exact hk
      · exact ⟨d, Nat.lt_succ_self d, i + 1, junk rfl, rfl, by omega, by rw [all_split' hz1, hall]; simpa using hc⟩
  · have hz : ((splitOf s).2 == 0) = false := by simpa using hc0
    repeat' (first
    | refine do_end ?_ | refine then_n ?_ | refine then_r ?_ | refine then_e ?_ | refine block_n ?_ | refine block_r ?_ | refine block_e ?_ | refine block_o (by decide) ?_
    | refine go_seq ?_ | refine go_region ?_ | refine go_draw (by rfl) ?_ | refine do_block ?_ | refine do_scope ?_ | refine do_label ?_ | refine do_skip ?_ | refine do_ret ?_ | refine do_exit ?_
    | (apply do_op; (· simp only [go_sem, hd, hd6, hlx, hz]; first | done | rfl); (· simp only [go_sem]; first | done | rfl))
    | (apply do_take; (· simp only [go_sem, hd, hd6, hlx, hz]); (· simp only [go_sem, hd, hd6, hlx, hz]; first | done | rfl); (· simp only [go_sem]; first | done | rfl))
    | (apply do_pass; (· simp only [go_sem, hd, hd6, hlx, hz]; first | done | rfl); (· rfl); (· simp only [go_sem]; first | done | rfl))
    | (apply do_pass0; (· simp only [go_sem, hd, hd6, hlx, hz]; first | done | rfl); (· simp only [go_sem]; first | done | rfl))
    | (apply go_call (hC := callMono); (· simp only [go_sem, hd, hd6, hlx, hz]; first | done | rfl); (· simp only [go_sem, hd, hd6, hlx, hz]; first | done | rfl))
    | (apply go_call_take (hC := callMono); (· simp only [go_sem, hd, hd6, hlx, hz]); (· simp only [go_sem, hd, hd6, hlx, hz]; first | done | rfl); (· simp only [go_sem, hd, hd6, hlx, hz]; first | done | rfl))
    | (intro fr' hfr; simp only [go_sem, hd, hd6, hlx, hz] at hfr; subst hfr)
    | refine split_ev _ _ _ hW hs (fun nl2 ex2 => ?_)
    | (apply do_split; (· simp only [go_sem, hd, hd6, hlx, hz]; first | done | rfl); all_goals (intro hc; rw [hc]))
    | (refine do_drawn ?_ ?_; (· simp only [go_sem, hd, hd6, hlx, hz]; done))
    | (apply cond_t; (· simp only [go_sem, hd, hd6, hlx, hz])) | (apply cond_f; (· simp only [go_sem, hd, hd6, hlx, hz]))
    | (apply do_cond; (· simp only [go_sem, hd, hd6, hlx, hz]; first | done | rfl); all_goals (intro hc; try rw [hc])))
    refine loop_ind (fun d fr H' => ∃ i : Nat, (∃ j : Nat → AV, fr = [j 0, .lit nl ex (l.map .str) l.length, j 2, j 3, j 4, j 5, j 6, .int .i64 i, j 8, j 9, j 10, j 11, j 12, j 13, j 14, j 15, j 16, j 17, j 18, j 19, j 20, j 21, j 22, j 23, j 24, j 25, j 26, j 27, j 28, j 29, j 30, j 31, j 32, j 33, j 34, j 35, j 36, j 37, j 38, j 39, j 40, j 41, j 42, j 43, j 44, j 45, j 46, j 47, j 48, j 49, j 50, j 51, j 52, j 53, j 54, j 55, j 56, j 57, j 58, j 59, j 60]) ∧ H' = H ∧ i + d = l.length ∧ (l.take i).all nameOf = true) ?_ l.length _ _
      ⟨0, junk rfl, rfl, by omega, by simp⟩
    rintro d fr H' ⟨i, ⟨j, rfl⟩, rfl, hi, hall⟩
    cases d with
    | zero =>
      have hlt : decide ((i : Int) < l.length) = false := by simp; omega
      rw [List.take_of_length_le (by omega)] at hall
      have hn : ∀ y ∈ l, nameOf y = true := by simpa using hall
      have hjs := joined_small l hn
      have hjl2 : (joinOf l).length < 2 ^ 40 := by
        unfold joinOf
        split
        · simp
        · omega
      have hsj := split_join l hn (by omega)
      repeat' (first
    | refine do_end ?_ | refine then_n ?_ | refine then_r ?_ | refine then_e ?_ | refine block_n ?_ | refine block_r ?_ | refine block_e ?_ | refine block_o (by decide) ?_
    | refine go_seq ?_ | refine go_region ?_ | refine go_draw (by rfl) ?_ | refine do_block ?_ | refine do_scope ?_ | refine do_label ?_ | refine do_skip ?_ | refine do_ret ?_ | refine do_exit ?_
    | (apply do_op; (· simp only [go_sem, hlt, hlx, beq_self_eq_true]; first | done | rfl); (· simp only [go_sem]; first | done | rfl))
    | (apply do_take; (· simp only [go_sem, hlt, hlx, beq_self_eq_true]); (· simp only [go_sem, hlt, hlx, beq_self_eq_true]; first | done | rfl); (· simp only [go_sem]; first | done | rfl))
    | (apply do_pass; (· simp only [go_sem, hlt, hlx, beq_self_eq_true]; first | done | rfl); (· rfl); (· simp only [go_sem]; first | done | rfl))
    | (apply do_pass0; (· simp only [go_sem, hlt, hlx, beq_self_eq_true]; first | done | rfl); (· simp only [go_sem]; first | done | rfl))
    | (apply go_call (hC := callMono); (· simp only [go_sem, hlt, hlx, beq_self_eq_true]; first | done | rfl); (· simp only [go_sem, hlt, hlx, beq_self_eq_true]; first | done | rfl))
    | (apply go_call_take (hC := callMono); (· simp only [go_sem, hlt, hlx, beq_self_eq_true]); (· simp only [go_sem, hlt, hlx, beq_self_eq_true]; first | done | rfl); (· simp only [go_sem, hlt, hlx, beq_self_eq_true]; first | done | rfl))
    | (intro fr' hfr; simp only [go_sem, hlt, hlx, beq_self_eq_true] at hfr; subst hfr)
    | refine join_is _ _ _ _ _ hW (by omega) (by omega) rfl ?_
    | refine split_is _ _ _ hW hjl2 hsj (fun nl3 ex3 => ?_)
    | refine awake_ev _ _ hW ?_
    | refine same_is _ _ l l _ _ (Strs.lit (by rfl) (by rfl) (by rfl)) (Strs.lit (by rfl) (by rfl) (by rfl)) (by omega) (v := true) (beq_self_eq_true _) ?_
    | (apply do_split; (· simp only [go_sem, hlt, hlx, beq_self_eq_true]; first | done | rfl); all_goals (intro hc; rw [hc]))
    | (refine do_drawn ?_ ?_; (· simp only [go_sem, hlt, hlx, beq_self_eq_true]; done))
    | (apply cond_t; (· simp only [go_sem, hlt, hlx, beq_self_eq_true])) | (apply cond_f; (· simp only [go_sem, hlt, hlx, beq_self_eq_true]))
    | (apply do_cond; (· simp only [go_sem, hlt, hlx, beq_self_eq_true]; first | done | rfl); all_goals (intro hc; try rw [hc])))
      refine fin_ret (by simp only [aresults, Try.f5, go_sem]; first | done | rfl) ?_
      exact hk
    | succ d =>
      have hlt : decide ((i : Int) < l.length) = true := by simp; omega
      obtain ⟨z, hz1⟩ : ∃ s, l[i]? = some s := ⟨l[i]'(by omega), List.getElem?_eq_getElem (by omega)⟩
      obtain ⟨p, hp1, hp2⟩ := hS.item i z hz1
      have hw : IntKind.i64.wrap ((i : Int) + 1) = ((i + 1 : Nat) : Int) := wrap_succ (by omega)
      have hzl := hln z (List.mem_of_getElem? hz1)
      repeat' (first
    | refine do_end ?_ | refine then_n ?_ | refine then_r ?_ | refine then_e ?_ | refine block_n ?_ | refine block_r ?_ | refine block_e ?_ | refine block_o (by decide) ?_
    | refine go_seq ?_ | refine go_region ?_ | refine go_draw (by rfl) ?_ | refine do_block ?_ | refine do_scope ?_ | refine do_label ?_ | refine do_skip ?_ | refine do_ret ?_ | refine do_exit ?_
    | (apply do_op; (· simp only [go_sem, hlt, hw, hlx, hp1, hp2]; first | done | rfl); (· simp only [go_sem]; first | done | rfl))
    | (apply do_take; (· simp only [go_sem, hlt, hw, hlx, hp1, hp2]); (· simp only [go_sem, hlt, hw, hlx, hp1, hp2]; first | done | rfl); (· simp only [go_sem]; first | done | rfl))
    | (apply do_pass; (· simp only [go_sem, hlt, hw, hlx, hp1, hp2]; first | done | rfl); (· rfl); (· simp only [go_sem]; first | done | rfl))
    | (apply do_pass0; (· simp only [go_sem, hlt, hw, hlx, hp1, hp2]; first | done | rfl); (· simp only [go_sem]; first | done | rfl))
    | (apply go_call (hC := callMono); (· simp only [go_sem, hlt, hw, hlx, hp1, hp2]; first | done | rfl); (· simp only [go_sem, hlt, hw, hlx, hp1, hp2]; first | done | rfl))
    | (apply go_call_take (hC := callMono); (· simp only [go_sem, hlt, hw, hlx, hp1, hp2]); (· simp only [go_sem, hlt, hw, hlx, hp1, hp2]; first | done | rfl); (· simp only [go_sem, hlt, hw, hlx, hp1, hp2]; first | done | rfl))
    | (intro fr' hfr; simp only [go_sem, hlt, hw, hlx, hp1, hp2] at hfr; subst hfr)
    | refine rname_ev _ _ _ hzl ?_
    | refine awake_ev _ _ hW ?_
    | (apply do_split; (· simp only [go_sem, hlt, hw, hlx, hp1, hp2]; first | done | rfl); all_goals (intro hc; rw [hc]))
    | (refine do_drawn ?_ ?_; (· simp only [go_sem, hlt, hw, hlx, hp1, hp2]; done))
    | (apply cond_t; (· simp only [go_sem, hlt, hw, hlx, hp1, hp2])) | (apply cond_f; (· simp only [go_sem, hlt, hw, hlx, hp1, hp2]))
    | (apply do_cond; (· simp only [go_sem, hlt, hw, hlx, hp1, hp2]; first | done | rfl); all_goals (intro hc; try rw [hc])))
      · refine fin_ret (by simp only [aresults, Try.f5, go_sem]; first | done | rfl) ?_
        exact hk
      · exact ⟨d, Nat.lt_succ_self d, i + 1, junk rfl, rfl, by omega, by rw [all_split' hz1, hall]; simpa using hc⟩
end Go.Proofs.Ytecjmbglnkpnnaa
