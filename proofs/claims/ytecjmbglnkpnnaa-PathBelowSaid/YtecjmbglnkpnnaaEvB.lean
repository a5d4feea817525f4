import Derived.Test.YtecjmbglnkpnnaaEvA
import Derived.Test.YtecjmbglnkpnnaaAbsDraw
namespace Go.Proofs.Ytecjmbglnkpnnaa
open Go.Abs
attribute [local irreducible] ev evList evOp evRes EvCall VS aop FnEnd AX.then AX.inBlock
attribute [local go_sem] T_3 T_4 T_5 T_9 T_24 ty3 ty4 ty5 ty9 ty24
set_option linter.unusedSimpArgs false

set_option maxRecDepth 10000 in
theorem letter_ev (b : UInt8) (H : AH) (k : AV → AH → Prop) (hk : k (.bool (okByte b)) H) : EvCall Try.prog T G0 20 [.int .u8 b.toNat] H k := by
  refine call_go (Try.func20) rfl (by decide) (by simp only [Try.ntmps20, List.length_cons, List.length_nil, Nat.reduceAdd, Nat.reduceSub, List.replicate, List.cons_append, List.nil_append]; rfl) ?_
  repeat' (first
    | refine do_end ?_ | refine then_n ?_ | refine then_r ?_ | refine then_e ?_ | refine block_n ?_ | refine block_r ?_ | refine block_e ?_ | refine block_o (by decide) ?_
    | refine go_seq ?_ | refine go_region ?_ | refine go_draw (by rfl) ?_ | refine do_block ?_ | refine do_scope ?_ | refine do_label ?_ | refine do_skip ?_ | refine do_ret ?_ | refine do_exit ?_
    | (apply do_op; (· simp only [go_sem]; first | done | rfl); (· simp only [go_sem]; first | done | rfl))
    | (apply do_take; (· simp only [go_sem]); (· simp only [go_sem]; first | done | rfl); (· simp only [go_sem]; first | done | rfl))
    | (apply do_pass; (· simp only [go_sem]; first | done | rfl); (· rfl); (· simp only [go_sem]; first | done | rfl))
    | (apply do_pass0; (· simp only [go_sem]; first | done | rfl); (· simp only [go_sem]; first | done | rfl))
    | (apply do_split; (· simp only [go_sem]; first | done | rfl); all_goals (intro hc; rw [hc]))
    | (refine do_drawn ?_ ?_; (· simp only [go_sem]; done))
    | (apply cond_t; (· simp only [go_sem])) | (apply cond_f; (· simp only [go_sem]))
    | (apply do_cond; (· simp only [go_sem]; first | done | rfl); all_goals (intro hc; try rw [hc])))
  all_goals
    refine fin_ret (by simp only [aresults, Try.f20, go_sem]; first | done | rfl) ?_
    first
    | (have hf : okByte b = false := by simp only [okByte, *, Bool.true_and, Bool.false_and, Bool.or_false, Bool.false_or]
       rw [hf] at hk
       exact hk)
    | (have hf : okByte b = true := by simp only [okByte, *, Bool.true_and, Bool.false_and, Bool.true_or, Bool.or_true, Bool.false_or]
       rw [hf] at hk
       exact hk)
    | (have hf : okByte b = ((b.toNat : Int) == 95) := by simp only [okByte, *, Bool.true_and, Bool.false_and, Bool.or_false, Bool.false_or]
       rw [hf] at hk
       exact hk)

def refName (s : List UInt8) : Bool := s.all okByte && (decide ((s.length : Int) ≥ 1) && (decide ((s.length : Int) ≤ 12) && (!(s == [46]) && !(s == [46, 46]))))
theorem refName_eq (s : List UInt8) : refName s = nameOf s := by
  unfold refName nameOf
  cases s with
  | nil => rfl
  | cons a l =>
    have h1 : (((a :: l : List UInt8)) == []) = false := rfl
    have h2 : decide (((a :: l).length : Int) ≥ 1) = true := by simp; omega
    have h3 : decide (((a :: l).length : Int) ≤ 12) = !decide (((a :: l).length : Int) > 12) := by
      rw [← decide_not]
      exact decide_eq_decide.2 (by omega)
    rw [h1, h2, h3]
    generalize (a :: l).all okByte = x
    generalize decide (((a :: l).length : Int) > 12) = y
    generalize ((a :: l) == [46]) = z
    generalize ((a :: l) == [46, 46]) = u
    cases x <;> cases y <;> cases z <;> cases u <;> rfl

set_option maxRecDepth 10000 in
theorem rname_ev (s : List UInt8) (H : AH) (k : AV → AH → Prop) (hs : s.length ≤ 9223372036854775807) (hk : k (.bool (nameOf s)) H) : EvCall Try.prog T G0 10 [.str s] H k := by
  rw [← refName_eq] at hk
  refine call_go (Try.func10) rfl (by decide) (by simp only [Try.ntmps10, List.length_cons, List.length_nil, Nat.reduceAdd, Nat.reduceSub, List.replicate, List.cons_append, List.nil_append]; rfl) ?_
  repeat' (first
    | refine do_end ?_ | refine then_n ?_ | refine then_r ?_ | refine then_e ?_ | refine block_n ?_ | refine block_r ?_ | refine block_e ?_ | refine block_o (by decide) ?_
    | refine go_seq ?_ | refine go_region ?_ | refine go_draw (by rfl) ?_ | refine do_block ?_ | refine do_scope ?_ | refine do_label ?_ | refine do_skip ?_ | refine do_ret ?_ | refine do_exit ?_
    | (apply do_op; (· simp only [go_sem]; first | done | rfl); (· simp only [go_sem]; first | done | rfl))
    | (apply do_take; (· simp only [go_sem]); (· simp only [go_sem]; first | done | rfl); (· simp only [go_sem]; first | done | rfl))
    | (apply do_pass; (· simp only [go_sem]; first | done | rfl); (· rfl); (· simp only [go_sem]; first | done | rfl))
    | (apply do_pass0; (· simp only [go_sem]; first | done | rfl); (· simp only [go_sem]; first | done | rfl))
    | (apply do_split; (· simp only [go_sem]; first | done | rfl); all_goals (intro hc; rw [hc]))
    | (refine do_drawn ?_ ?_; (· simp only [go_sem]; done))
    | (apply cond_t; (· simp only [go_sem])) | (apply cond_f; (· simp only [go_sem]))
    | (apply do_cond; (· simp only [go_sem]; first | done | rfl); all_goals (intro hc; try rw [hc])))
  refine loop_ind (fun d fr H' => ∃ i : Nat, (∃ j : Nat → AV, fr = [.str s, j 1, j 2, .int .i64 i, j 4, j 5, j 6, j 7, j 8, j 9, j 10, j 11, j 12, j 13, j 14, j 15, j 16, j 17, j 18, j 19, j 20, j 21, j 22, j 23, j 24, j 25, j 26, j 27, j 28, j 29, j 30]) ∧ H' = H ∧ i + d = s.length ∧ (s.take i).all okByte = true) ?_ s.length _ _
    ⟨0, junk rfl, rfl, by omega, by simp⟩
  rintro d fr H' ⟨i, ⟨j, rfl⟩, rfl, hi, hall⟩
  cases d with
  | zero =>
    have hlt : decide ((i : Int) < s.length) = false := by simp; omega
    have hn : s.all okByte = true := by rw [← List.take_length (l := s), ← hi, Nat.add_zero, hall]
    repeat' (first
    | refine do_end ?_ | refine then_n ?_ | refine then_r ?_ | refine then_e ?_ | refine block_n ?_ | refine block_r ?_ | refine block_e ?_ | refine block_o (by decide) ?_
    | refine go_seq ?_ | refine go_region ?_ | refine go_draw (by rfl) ?_ | refine do_block ?_ | refine do_scope ?_ | refine do_label ?_ | refine do_skip ?_ | refine do_ret ?_ | refine do_exit ?_
    | (apply do_op; (· simp only [go_sem, hlt]; first | done | rfl); (· simp only [go_sem]; first | done | rfl))
    | (apply do_take; (· simp only [go_sem, hlt]); (· simp only [go_sem, hlt]; first | done | rfl); (· simp only [go_sem]; first | done | rfl))
    | (apply do_pass; (· simp only [go_sem, hlt]; first | done | rfl); (· rfl); (· simp only [go_sem]; first | done | rfl))
    | (apply do_pass0; (· simp only [go_sem, hlt]; first | done | rfl); (· simp only [go_sem]; first | done | rfl))
    | (apply do_split; (· simp only [go_sem, hlt]; first | done | rfl); all_goals (intro hc; rw [hc]))
    | (refine do_drawn ?_ ?_; (· simp only [go_sem, hlt]; done))
    | (apply cond_t; (· simp only [go_sem, hlt])) | (apply cond_f; (· simp only [go_sem, hlt]))
    | (apply do_cond; (· simp only [go_sem, hlt]; first | done | rfl); all_goals (intro hc; try rw [hc])))
    all_goals
      refine fin_ret (by simp only [aresults, Try.f10, go_sem]; first | done | rfl) ?_
      first
      | (have hf : refName s = false := by simp only [refName, *, Bool.true_and, Bool.false_and, Bool.and_false]
         rw [hf] at hk
         exact hk)
      | (have hf : refName s = !(s == [46, 46]) := by simp only [refName, *, Bool.true_and]
         rw [hf] at hk
         exact hk)
  | succ d =>
    have hlt : decide ((i : Int) < s.length) = true := by simp; omega
    obtain ⟨b, hb⟩ : ∃ b, s[i]? = some b := ⟨s[i]'(by omega), List.getElem?_eq_getElem (by omega)⟩
    have hx : aindex T 9 (.str s) (.int .i64 i) = some (.int .u8 b.toNat) := index_str (by simp only [T_9, ty9]) (by omega) (by simpa using hb)
    have hw : IntKind.i64.wrap ((i : Int) + 1) = ((i + 1 : Nat) : Int) := wrap_succ (by omega)
    repeat' (first
    | refine do_end ?_ | refine then_n ?_ | refine then_r ?_ | refine then_e ?_ | refine block_n ?_ | refine block_r ?_ | refine block_e ?_ | refine block_o (by decide) ?_
    | refine go_seq ?_ | refine go_region ?_ | refine go_draw (by rfl) ?_ | refine do_block ?_ | refine do_scope ?_ | refine do_label ?_ | refine do_skip ?_ | refine do_ret ?_ | refine do_exit ?_
    | (apply do_op; (· simp only [go_sem, hlt, hw, hx]; first | done | rfl); (· simp only [go_sem]; first | done | rfl))
    | (apply do_take; (· simp only [go_sem, hlt, hw, hx]); (· simp only [go_sem, hlt, hw, hx]; first | done | rfl); (· simp only [go_sem]; first | done | rfl))
    | (apply do_pass; (· simp only [go_sem, hlt, hw, hx]; first | done | rfl); (· rfl); (· simp only [go_sem]; first | done | rfl))
    | (apply do_pass0; (· simp only [go_sem, hlt, hw, hx]; first | done | rfl); (· simp only [go_sem]; first | done | rfl))
    | (apply go_call (hC := callMono); (· simp only [go_sem, hlt, hw, hx]; first | done | rfl); (· simp only [go_sem, hlt, hw, hx]; first | done | rfl))
    | (apply go_call_take (hC := callMono); (· simp only [go_sem, hlt, hw, hx]); (· simp only [go_sem, hlt, hw, hx]; first | done | rfl); (· simp only [go_sem, hlt, hw, hx]; first | done | rfl))
    | (intro fr' hfr; simp only [go_sem, hlt, hw, hx] at hfr; subst hfr)
    | refine letter_ev _ _ _ ?_
    | (apply do_split; (· simp only [go_sem, hlt, hw, hx]; first | done | rfl); all_goals (intro hc; rw [hc]))
    | (refine do_drawn ?_ ?_; (· simp only [go_sem, hlt, hw, hx]; done))
    | (apply cond_t; (· simp only [go_sem, hlt, hw, hx])) | (apply cond_f; (· simp only [go_sem, hlt, hw, hx]))
    | (apply do_cond; (· simp only [go_sem, hlt, hw, hx]; first | done | rfl); all_goals (intro hc; try rw [hc])))
    · refine fin_ret (by simp only [aresults, Try.f10, go_sem]; first | done | rfl) ?_
      have hf : okByte b = false := by simpa using hc
      have hf : refName s = false := by simp only [refName, all_take hb okByte hf, Bool.false_and]
      rw [hf] at hk
      exact hk
    · skip
      have hf : okByte b = true := by simpa using hc
      exact ⟨d, Nat.lt_succ_self d, i + 1, junk rfl, rfl, by omega, by rw [all_split hb, hall, hf]; rfl⟩
end Go.Proofs.Ytecjmbglnkpnnaa
