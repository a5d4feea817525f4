import Derived.Test.YtecjmbglnkpnnaaEvK
import Derived.Test.YtecjmbglnkpnnaaAbsWf
namespace Go.Proofs.Ytecjmbglnkpnnaa
open Go.Abs
attribute [local irreducible] ev evList evOp evRes EvCall VS aop FnEnd AX.then AX.inBlock abuiltin aindexAddr aload aconvert astore aslice aindex
attribute [local go_sem] T_3 T_4 T_5 T_9 T_24 T_25 T_38 ty3 ty4 ty5 ty9 ty24 ty25 ty38
set_option linter.unusedSimpArgs false
set_option linter.unusedVariables false

set_option maxRecDepth 10000 in
theorem rjoin_ev (x : AV) (l : List (List UInt8)) (H : AH) (k : AV → AH → Prop) (hx : Strs T H 24 9 x l) (ha : l.length < 2 ^ 40) (hb : (joined l).length < 2 ^ 40) (hk : k (.str (joinOf l)) H) : EvCall Try.prog T G0 18 [x] H k := by
  have hlx := hx.len
  refine call_go (Try.func18) rfl (by decide) (by simp only [Try.ntmps18, List.length_cons, List.length_nil, Nat.reduceAdd, Nat.reduceSub, List.replicate, List.cons_append, List.nil_append]; rfl) ?_
  repeat' (first
    | refine pick_end ?_ | refine pick_head (by rfl) ?_ | refine pick_one (by rfl) ?_
    | refine do_end ?_ | refine then_n ?_ | refine then_r ?_ | refine then_e ?_ | refine block_n ?_ | refine block_r ?_ | refine block_e ?_ | refine block_o (by decide) ?_
    | refine go_seq ?_ | refine go_region ?_ | refine plan_nil ?_ | refine plan_cons ?_ | refine do_block ?_ | refine do_scope ?_ | refine do_label ?_ | refine do_skip ?_ | refine do_ret ?_ | refine do_exit ?_
    | (apply do_op; (· simp only [go_sem, hlx]; first | done | rfl); (· simp only [go_sem]; first | done | rfl))
    | (apply do_take; (· simp only [go_sem, hlx]); (· simp only [go_sem, hlx]; first | done | rfl); (· simp only [go_sem]; first | done | rfl))
    | (apply do_pass; (· simp only [go_sem, hlx]; first | done | rfl); (· rfl); (· simp only [go_sem]; first | done | rfl))
    | (apply do_pass0; (· simp only [go_sem, hlx]; first | done | rfl); (· simp only [go_sem]; first | done | rfl))
    | (apply do_split; (· simp only [go_sem, hlx]; first | done | rfl); all_goals (intro hc; rw [hc]))
    | (refine do_drawn ?_ ?_; (· simp only [go_sem, hlx]; done))
    | refine do_drawn2 ?_ ?_ ?_ | exact chk_end | exact chkC_end
    | (refine chk_head (by rfl) ?_ ?_; (· simp only [go_sem, hlx]; done)) | refine chkC_head (by rfl) ?_ ?_
    | (apply chkc_call; (· simp only [go_sem, hlx]; first | done | rfl); (· simp only [go_sem, hlx]; first | done | rfl); (· simp only [go_sem, hlx]; first | done | rfl))
    | (apply chkc_take; (· simp only [go_sem, hlx]); (· simp only [go_sem, hlx]; first | done | rfl); (· simp only [go_sem, hlx]; first | done | rfl); (· simp only [go_sem, hlx]; first | done | rfl))
    | (apply chkc_pass; (· simp only [go_sem, hlx]; first | done | rfl); (· rfl); (· simp only [go_sem, hlx]; first | done | rfl))
    | (apply chkc_pass0; (· simp only [go_sem, hlx]; first | done | rfl); (· simp only [go_sem, hlx]; first | done | rfl))
    | (refine all_k ?_; intro kk hkk) | exact hkk
    | (apply cond_t; (· simp only [go_sem, hlx])) | (apply cond_f; (· simp only [go_sem, hlx]))
    | (apply do_cond; (· simp only [go_sem, hlx]; first | done | rfl); all_goals (intro hc; try rw [hc])))
  · refine fin_ret (by simp only [aresults, Try.f18, go_sem]; first | done | rfl) ?_
    have : l = [] := by
      cases l with
      | nil => rfl
      | cons a l => simp at hc; omega
    subst this
    exact hk
  have hne : l.isEmpty = false := by
    cases l with
    | nil => simp at hc
    | cons a l => rfl
  refine loop_ind (fun d fr H' => ∃ (i : Nat), (∃ j : Nat → AV, fr = [x, j 1, j 2, .str (joined (l.take i)), .int .i64 i, j 5, j 6, j 7, j 8, j 9, j 10, j 11, j 12, j 13, j 14, j 15, j 16, j 17, j 18, j 19, j 20, j 21]) ∧ i + d = l.length ∧ H' = H) ?_ l.length _ _
    ⟨0, junk rfl, by omega, rfl⟩
  rintro d fr H' ⟨i, ⟨j, rfl⟩, hi, rfl⟩
  cases d with
  | zero =>
    have hlt : decide ((i : Int) < l.length) = false := by simp; omega
    have hfull : l.take i = l := by rw [List.take_of_length_le (by omega)]
    rw [hfull]
    repeat' (first
    | refine pick_end ?_ | refine pick_head (by rfl) ?_ | refine pick_one (by rfl) ?_
    | refine do_end ?_ | refine then_n ?_ | refine then_r ?_ | refine then_e ?_ | refine block_n ?_ | refine block_r ?_ | refine block_e ?_ | refine block_o (by decide) ?_
    | refine go_seq ?_ | refine go_region ?_ | refine plan_nil ?_ | refine plan_cons ?_ | refine do_block ?_ | refine do_scope ?_ | refine do_label ?_ | refine do_skip ?_ | refine do_ret ?_ | refine do_exit ?_
    | (apply do_op; (· simp only [go_sem, hlt, hlx]; first | done | rfl); (· simp only [go_sem]; first | done | rfl))
    | (apply do_take; (· simp only [go_sem, hlt, hlx]); (· simp only [go_sem, hlt, hlx]; first | done | rfl); (· simp only [go_sem]; first | done | rfl))
    | (apply do_pass; (· simp only [go_sem, hlt, hlx]; first | done | rfl); (· rfl); (· simp only [go_sem]; first | done | rfl))
    | (apply do_pass0; (· simp only [go_sem, hlt, hlx]; first | done | rfl); (· simp only [go_sem]; first | done | rfl))
    | (apply do_split; (· simp only [go_sem, hlt, hlx]; first | done | rfl); all_goals (intro hc; rw [hc]))
    | (refine do_drawn ?_ ?_; (· simp only [go_sem, hlt, hlx]; done))
    | refine do_drawn2 ?_ ?_ ?_ | exact chk_end | exact chkC_end
    | (refine chk_head (by rfl) ?_ ?_; (· simp only [go_sem, hlt, hlx]; done)) | refine chkC_head (by rfl) ?_ ?_
    | (apply chkc_call; (· simp only [go_sem, hlt, hlx]; first | done | rfl); (· simp only [go_sem, hlt, hlx]; first | done | rfl); (· simp only [go_sem, hlt, hlx]; first | done | rfl))
    | (apply chkc_take; (· simp only [go_sem, hlt, hlx]); (· simp only [go_sem, hlt, hlx]; first | done | rfl); (· simp only [go_sem, hlt, hlx]; first | done | rfl); (· simp only [go_sem, hlt, hlx]; first | done | rfl))
    | (apply chkc_pass; (· simp only [go_sem, hlt, hlx]; first | done | rfl); (· rfl); (· simp only [go_sem, hlt, hlx]; first | done | rfl))
    | (apply chkc_pass0; (· simp only [go_sem, hlt, hlx]; first | done | rfl); (· simp only [go_sem, hlt, hlx]; first | done | rfl))
    | (refine all_k ?_; intro kk hkk) | exact hkk
    | (apply cond_t; (· simp only [go_sem, hlt, hlx])) | (apply cond_f; (· simp only [go_sem, hlt, hlx]))
    | (apply do_cond; (· simp only [go_sem, hlt, hlx]; first | done | rfl); all_goals (intro hc; try rw [hc])))
    refine fin_ret (by simp only [aresults, Try.f18, go_sem]; first | done | rfl) ?_
    rw [joinOf, hne] at hk
    exact hk
  | succ d =>
    have hlt : decide ((i : Int) < l.length) = true := by simp; omega
    obtain ⟨s, hs⟩ : ∃ s, l[i]? = some s := ⟨l[i]'(by omega), List.getElem?_eq_getElem (by omega)⟩
    obtain ⟨p, hp1, hp2⟩ := hx.item i s hs
    have hw : IntKind.i64.wrap ((i : Int) + 1) = ((i + 1 : Nat) : Int) := wrap_succ (by omega)
    have hle := joined_le (l := l) (i := i + 1)
    have hjt := joined_take hs
    rw [hjt] at hle
    simp only [List.length_append, List.length_cons] at hle
    have hs1 : abin T .add 9 (.str (joined (l.take i))) (.str [47]) = some (.str (joined (l.take i) ++ [47])) := bin_sadd (by simp; omega)
    have hs2 : abin T .add 9 (.str (joined (l.take i) ++ [47])) (.str s) = some (.str (joined (l.take (i + 1)))) := by
      rw [bin_sadd (by simp; omega), hjt, List.append_assoc, List.singleton_append]
    repeat' (first
    | refine pick_end ?_ | refine pick_head (by rfl) ?_ | refine pick_one (by rfl) ?_
    | refine do_end ?_ | refine then_n ?_ | refine then_r ?_ | refine then_e ?_ | refine block_n ?_ | refine block_r ?_ | refine block_e ?_ | refine block_o (by decide) ?_
    | refine go_seq ?_ | refine go_region ?_ | refine plan_nil ?_ | refine plan_cons ?_ | refine do_block ?_ | refine do_scope ?_ | refine do_label ?_ | refine do_skip ?_ | refine do_ret ?_ | refine do_exit ?_
    | (apply do_op; (· simp only [go_sem, hlt, hw, hlx, hp1, hp2, hs1, hs2]; first | done | rfl); (· simp only [go_sem]; first | done | rfl))
    | (apply do_take; (· simp only [go_sem, hlt, hw, hlx, hp1, hp2, hs1, hs2]); (· simp only [go_sem, hlt, hw, hlx, hp1, hp2, hs1, hs2]; first | done | rfl); (· simp only [go_sem]; first | done | rfl))
    | (apply do_pass; (· simp only [go_sem, hlt, hw, hlx, hp1, hp2, hs1, hs2]; first | done | rfl); (· rfl); (· simp only [go_sem]; first | done | rfl))
    | (apply do_pass0; (· simp only [go_sem, hlt, hw, hlx, hp1, hp2, hs1, hs2]; first | done | rfl); (· simp only [go_sem]; first | done | rfl))
    | (apply do_split; (· simp only [go_sem, hlt, hw, hlx, hp1, hp2, hs1, hs2]; first | done | rfl); all_goals (intro hc; rw [hc]))
    | (refine do_drawn ?_ ?_; (· simp only [go_sem, hlt, hw, hlx, hp1, hp2, hs1, hs2]; done))
    | refine do_drawn2 ?_ ?_ ?_ | exact chk_end | exact chkC_end
    | (refine chk_head (by rfl) ?_ ?_; (· simp only [go_sem, hlt, hw, hlx, hp1, hp2, hs1, hs2]; done)) | refine chkC_head (by rfl) ?_ ?_
    | (apply chkc_call; (· simp only [go_sem, hlt, hw, hlx, hp1, hp2, hs1, hs2]; first | done | rfl); (· simp only [go_sem, hlt, hw, hlx, hp1, hp2, hs1, hs2]; first | done | rfl); (· simp only [go_sem, hlt, hw, hlx, hp1, hp2, hs1, hs2]; first | done | rfl))
    | (apply chkc_take; (· simp only [go_sem, hlt, hw, hlx, hp1, hp2, hs1, hs2]); (· simp only [go_sem, hlt, hw, hlx, hp1, hp2, hs1, hs2]; first | done | rfl); (· simp only [go_sem, hlt, hw, hlx, hp1, hp2, hs1, hs2]; first | done | rfl); (· simp only [go_sem, hlt, hw, hlx, hp1, hp2, hs1, hs2]; first | done | rfl))
    | (apply chkc_pass; (· simp only [go_sem, hlt, hw, hlx, hp1, hp2, hs1, hs2]; first | done | rfl); (· rfl); (· simp only [go_sem, hlt, hw, hlx, hp1, hp2, hs1, hs2]; first | done | rfl))
    | (apply chkc_pass0; (· simp only [go_sem, hlt, hw, hlx, hp1, hp2, hs1, hs2]; first | done | rfl); (· simp only [go_sem, hlt, hw, hlx, hp1, hp2, hs1, hs2]; first | done | rfl))
    | (refine all_k ?_; intro kk hkk) | exact hkk
    | (apply cond_t; (· simp only [go_sem, hlt, hw, hlx, hp1, hp2, hs1, hs2])) | (apply cond_f; (· simp only [go_sem, hlt, hw, hlx, hp1, hp2, hs1, hs2]))
    | (apply do_cond; (· simp only [go_sem, hlt, hw, hlx, hp1, hp2, hs1, hs2]; first | done | rfl); all_goals (intro hc; try rw [hc])))
    exact ⟨d, Nat.lt_succ_self d, i + 1, junk rfl, by omega, rfl⟩

set_option maxRecDepth 10000 in
theorem parent0_ev (nl ex : Bool) (H : AH) (k : AV → AH → Prop) (hk : k (.tup [.lit true true [] 0, .str [], .int .i64 2]) H) : EvCall Try.prog T G0 17 [.lit nl ex [] 0] H k := by
  have hlx : abuiltin T H .len #[24] [.lit nl ex [] 0] = some (.int .i64 0, H) := len_lit (by rfl)
  refine call_go (Try.func17) rfl (by decide) (by simp only [Try.ntmps17, List.length_cons, List.length_nil, Nat.reduceAdd, Nat.reduceSub, List.replicate, List.cons_append, List.nil_append]; rfl) ?_
  repeat' (first
    | refine pick_end ?_ | refine pick_head (by rfl) ?_ | refine pick_one (by rfl) ?_
    | refine do_end ?_ | refine then_n ?_ | refine then_r ?_ | refine then_e ?_ | refine block_n ?_ | refine block_r ?_ | refine block_e ?_ | refine block_o (by decide) ?_
    | refine go_seq ?_ | refine go_region ?_ | refine go_plan 4 false [1, 2, 3, 4, 6, 7, 8, 9, 10] [1, 2, 3, 4, 6, 7, 8, 9, 10] [] [(0, [], [1, 2, 3, 4, 6, 7, 8, 9, 10], []), (5, [11, 12, 13], [6, 7, 8, 9, 10, 11, 12, 13], [])] call_ends callMono (by kernel_rfl) ?_ | refine plan_nil ?_ | refine plan_cons ?_ | refine do_block ?_ | refine do_scope ?_ | refine do_label ?_ | refine do_skip ?_ | refine do_ret ?_ | refine do_exit ?_
    | (apply do_op; (· simp only [go_sem, hlx, beq_self_eq_true]; first | done | rfl); (· simp only [go_sem]; first | done | rfl))
    | (apply do_take; (· simp only [go_sem, hlx, beq_self_eq_true]); (· simp only [go_sem, hlx, beq_self_eq_true]; first | done | rfl); (· simp only [go_sem]; first | done | rfl))
    | (apply do_pass; (· simp only [go_sem, hlx, beq_self_eq_true]; first | done | rfl); (· rfl); (· simp only [go_sem]; first | done | rfl))
    | (apply do_pass0; (· simp only [go_sem, hlx, beq_self_eq_true]; first | done | rfl); (· simp only [go_sem]; first | done | rfl))
    | (apply do_split; (· simp only [go_sem, hlx, beq_self_eq_true]; first | done | rfl); all_goals (intro hc; rw [hc]))
    | (refine do_drawn ?_ ?_; (· simp only [go_sem, hlx, beq_self_eq_true]; done))
    | refine do_drawn2 ?_ ?_ ?_ | exact chk_end | exact chkC_end
    | (refine chk_head (by rfl) ?_ ?_; (· simp only [go_sem, hlx, beq_self_eq_true]; done)) | refine chkC_head (by rfl) ?_ ?_
    | (apply chkc_call; (· simp only [go_sem, hlx, beq_self_eq_true]; first | done | rfl); (· simp only [go_sem, hlx, beq_self_eq_true]; first | done | rfl); (· simp only [go_sem, hlx, beq_self_eq_true]; first | done | rfl))
    | (apply chkc_take; (· simp only [go_sem, hlx, beq_self_eq_true]); (· simp only [go_sem, hlx, beq_self_eq_true]; first | done | rfl); (· simp only [go_sem, hlx, beq_self_eq_true]; first | done | rfl); (· simp only [go_sem, hlx, beq_self_eq_true]; first | done | rfl))
    | (apply chkc_pass; (· simp only [go_sem, hlx, beq_self_eq_true]; first | done | rfl); (· rfl); (· simp only [go_sem, hlx, beq_self_eq_true]; first | done | rfl))
    | (apply chkc_pass0; (· simp only [go_sem, hlx, beq_self_eq_true]; first | done | rfl); (· simp only [go_sem, hlx, beq_self_eq_true]; first | done | rfl))
    | (refine all_k ?_; intro kk hkk) | exact hkk
    | (apply cond_t; (· simp only [go_sem, hlx, beq_self_eq_true])) | (apply cond_f; (· simp only [go_sem, hlx, beq_self_eq_true]))
    | (apply do_cond; (· simp only [go_sem, hlx, beq_self_eq_true]; first | done | rfl); all_goals (intro hc; try rw [hc])))
  refine fin_ret (by simp only [aresults, Try.f17, go_sem]; first | done | rfl) ?_
  exact hk
set_option maxRecDepth 10000 in
set_option maxHeartbeats 1000000 in
theorem parent_ev (nl ex : Bool) (l : List (List UInt8)) (s : List UInt8) (H : AH) (k : AV → AH → Prop) (hW : WF H) (ha : (l ++ [s]).length < 2 ^ 30)
    (hk : ∀ x H', WF H' → Buf H H' x (l.map .str) → k (.tup [x, .str s, .int .i64 0]) H') : EvCall Try.prog T G0 17 [.lit nl ex ((l ++ [s]).map .str) (l ++ [s]).length] H k := by
  have hS : ∀ H', Strs T H' 24 9 (.lit nl ex ((l ++ [s]).map .str) (l ++ [s]).length) (l ++ [s]) := fun H' => Strs.lit (by rfl) (by rfl) (by rfl)
  have hlx : ∀ H', abuiltin T H' .len #[24] [.lit nl ex ((l ++ [s]).map .str) (l ++ [s]).length] = some (.int .i64 (l ++ [s]).length, H') := fun H' => (hS H').len
  have hn : (l ++ [s]).length = l.length + 1 := by simp
  have hz : (((l ++ [s]).length : Int) == 0) = false := by rw [hn]; simp; omega
  have hw : IntKind.i64.wrap (((l ++ [s]).length : Int) - 1) = (l.length : Int) := by rw [hn, wrap_small] <;> omega
  have hcut : ∀ H', aslice T H' 24 (.lit nl ex ((l ++ [s]).map .str) (l ++ [s]).length) none (some (.int .i64 l.length)) none = some (.lit nl (ex && l.length == (l ++ [s]).length) (l.map .str) l.length) := fun H' => by
    rw [cut_lit (by simp)]
    simp
  have hp1 : aindexAddr T 24 (.lit nl ex ((l ++ [s]).map .str) (l ++ [s]).length) (.int .i64 l.length) = some (.lptr ((l ++ [s]).map .str) l.length) := by
    have h3 : (T 9).size = 1 := by rfl
    have h1 : (T 24).d = .slice 9 := by rfl
    simp [aindexAddr, h1, h3]
    omega
  have hp2 : ∀ H', aload T H' 9 (.lptr ((l ++ [s]).map .str) l.length) = some (.str s) := fun H' => by
    rw [aload_lptr, apart_one (by rfl) (by rfl)]
    simp
  obtain ⟨x2, H2, hap, hB2⟩ := (Buf.ref (H := H) (ex := true) (cs := [])).append (T := T) (t := 24) (u := 24) (e := 9) (y := .lit nl (ex && l.length == (l ++ [s]).length) (l.map .str) l.length) (new := l.map .str) (by rfl) (by rfl) (by rfl) (by simp [alen]) (by simp [acells, List.take_of_length_le])
    (by simp; unfold maxLen; omega) (by simp [T_9, ty9]; omega)
  have hW2 : WF H2 := by
    have hW1 : WF (H ++ [.cells []]) := hW.snoc rfl
    rw [app_two] at hap
    exact aappend_wf hW1 (by simp [AV.low]) (by simp [AV.low, lows_str]) hap
  rw [List.nil_append] at hB2
  simp only [List.length_nil] at hap
  generalize (l ++ [s]).length = n at *
  generalize ((l ++ [s]).map AV.str) = cs at *
  generalize (ex && l.length == n) = ex2 at *
  refine call_go (Try.func17) rfl (by decide) (by simp only [Try.ntmps17, List.length_cons, List.length_nil, Nat.reduceAdd, Nat.reduceSub, List.replicate, List.cons_append, List.nil_append]; rfl) ?_
  repeat' (first
    | refine pick_end ?_ | refine pick_head (by rfl) ?_ | refine pick_one (by rfl) ?_
    | refine do_end ?_ | refine then_n ?_ | refine then_r ?_ | refine then_e ?_ | refine block_n ?_ | refine block_r ?_ | refine block_e ?_ | refine block_o (by decide) ?_
    | refine go_seq ?_ | refine go_region ?_ | refine go_plan 4 false [1, 2, 3, 4, 6, 7, 8, 9, 10] [1, 2, 3, 4, 6, 7, 8, 9, 10] [] [(0, [], [1, 2, 3, 4, 6, 7, 8, 9, 10], []), (5, [11, 12, 13], [6, 7, 8, 9, 10, 11, 12, 13], [])] call_ends callMono (by kernel_rfl) ?_ | refine plan_nil ?_ | refine plan_cons ?_ | refine do_block ?_ | refine do_scope ?_ | refine do_label ?_ | refine do_skip ?_ | refine do_ret ?_ | refine do_exit ?_
    | (apply do_op; (· simp only [go_sem, hlx, hz, hw, hcut, hp1, hp2, hap]; first | done | rfl); (· simp only [go_sem]; first | done | rfl))
    | (apply do_take; (· simp only [go_sem, hlx, hz, hw, hcut, hp1, hp2, hap]); (· simp only [go_sem, hlx, hz, hw, hcut, hp1, hp2, hap]; first | done | rfl); (· simp only [go_sem]; first | done | rfl))
    | (apply do_pass; (· simp only [go_sem, hlx, hz, hw, hcut, hp1, hp2, hap]; first | done | rfl); (· rfl); (· simp only [go_sem]; first | done | rfl))
    | (apply do_pass0; (· simp only [go_sem, hlx, hz, hw, hcut, hp1, hp2, hap]; first | done | rfl); (· simp only [go_sem]; first | done | rfl))
    | (apply do_split; (· simp only [go_sem, hlx, hz, hw, hcut, hp1, hp2, hap]; first | done | rfl); all_goals (intro hc; rw [hc]))
    | (refine do_drawn ?_ ?_; (· simp only [go_sem, hlx, hz, hw, hcut, hp1, hp2, hap]; done))
    | refine do_drawn2 ?_ ?_ ?_ | exact chk_end | exact chkC_end
    | (refine chk_head (by rfl) ?_ ?_; (· simp only [go_sem, hlx, hz, hw, hcut, hp1, hp2, hap]; done)) | refine chkC_head (by rfl) ?_ ?_
    | (apply chkc_call; (· simp only [go_sem, hlx, hz, hw, hcut, hp1, hp2, hap]; first | done | rfl); (· simp only [go_sem, hlx, hz, hw, hcut, hp1, hp2, hap]; first | done | rfl); (· simp only [go_sem, hlx, hz, hw, hcut, hp1, hp2, hap]; first | done | rfl))
    | (apply chkc_take; (· simp only [go_sem, hlx, hz, hw, hcut, hp1, hp2, hap]); (· simp only [go_sem, hlx, hz, hw, hcut, hp1, hp2, hap]; first | done | rfl); (· simp only [go_sem, hlx, hz, hw, hcut, hp1, hp2, hap]; first | done | rfl); (· simp only [go_sem, hlx, hz, hw, hcut, hp1, hp2, hap]; first | done | rfl))
    | (apply chkc_pass; (· simp only [go_sem, hlx, hz, hw, hcut, hp1, hp2, hap]; first | done | rfl); (· rfl); (· simp only [go_sem, hlx, hz, hw, hcut, hp1, hp2, hap]; first | done | rfl))
    | (apply chkc_pass0; (· simp only [go_sem, hlx, hz, hw, hcut, hp1, hp2, hap]; first | done | rfl); (· simp only [go_sem, hlx, hz, hw, hcut, hp1, hp2, hap]; first | done | rfl))
    | (refine all_k ?_; intro kk hkk) | exact hkk
    | (apply cond_t; (· simp only [go_sem, hlx, hz, hw, hcut, hp1, hp2, hap])) | (apply cond_f; (· simp only [go_sem, hlx, hz, hw, hcut, hp1, hp2, hap]))
    | (apply do_cond; (· simp only [go_sem, hlx, hz, hw, hcut, hp1, hp2, hap]; first | done | rfl); all_goals (intro hc; try rw [hc])))
  refine fin_ret (by simp only [aresults, Try.f17, go_sem]; first | done | rfl) ?_
  exact hk _ _ hW2 hB2
end Go.Proofs.Ytecjmbglnkpnnaa
