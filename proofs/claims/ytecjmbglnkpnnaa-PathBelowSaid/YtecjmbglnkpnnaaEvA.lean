/- The path seat of the affidavit module: path.Name, stepped through on the abstract heap: for every string of less than 2^62 bytes. -/
import Derived.Test.YtecjmbglnkpnnaaTy
import Derived.Test.YtecjmbglnkpnnaaAbsAuto
namespace Go.Proofs.Ytecjmbglnkpnnaa
open Go.Abs
attribute [local irreducible] ev evList evOp evRes EvCall VS aop FnEnd AX.then AX.inBlock
attribute [local go_sem] T_3 T_4 T_5 T_9 T_24 ty3 ty4 ty5 ty9 ty24
set_option linter.unusedSimpArgs false
def G0 : Nat → Option (List AV) := fun _ => none

def okByte (b : UInt8) : Bool := (decide ((b.toNat : Int) ≥ 97) && decide ((b.toNat : Int) ≤ 122)) || (decide ((b.toNat : Int) ≥ 48) && decide ((b.toNat : Int) ≤ 57)) || ((b.toNat : Int) == 46) || ((b.toNat : Int) == 45) || ((b.toNat : Int) == 95)
def nameOf (s : List UInt8) : Bool := !(s == []) && !(decide ((s.length : Int) > 12)) && !(s == [46]) && !(s == [46, 46]) && s.all okByte
theorem all_split {s : List UInt8} {i : Nat} {b : UInt8} (hb : s[i]? = some b) (p : UInt8 → Bool) : (s.take (i + 1)).all p = ((s.take i).all p && p b) := by
  rw [List.take_add_one, hb]
  simp
theorem all_take {s : List UInt8} {i : Nat} {b : UInt8} (hb : s[i]? = some b) (p : UInt8 → Bool) (h : p b = false) : s.all p = false := by
  rw [List.all_eq_false]
  exact ⟨b, List.mem_of_getElem? hb, by simp [h]⟩

set_option maxRecDepth 10000 in
theorem name_ev (s : List UInt8) (H : AH) (k : AV → AH → Prop) (hs : s.length ≤ 9223372036854775807) (hk : k (.bool (nameOf s)) H) : EvCall Try.prog T G0 9 [.str s] H k := by
  refine call_go (Try.func9) rfl (by decide) (by simp only [Try.ntmps9, List.length_cons, List.length_nil, Nat.reduceAdd, Nat.reduceSub, List.replicate, List.cons_append, List.nil_append]; rfl) ?_
  repeat' (first
    | refine do_end ?_ | refine then_n ?_ | refine then_r ?_ | refine then_e ?_ | refine block_n ?_ | refine block_r ?_ | refine block_e ?_ | refine block_o (by decide) ?_
    | refine go_seq ?_ | refine go_region ?_ | refine go_draw (by rfl) ?_ | refine do_block ?_ | refine do_scope ?_ | refine do_label ?_ | refine do_skip ?_ | refine do_ret ?_ | refine do_exit ?_
    | (apply do_op; (· simp only [go_sem]; first | done | rfl); (· simp only [go_sem]; first | done | rfl))
    | (apply do_take; (· simp only [go_sem]); (· simp only [go_sem]; first | done | rfl); (· simp only [go_sem]; first | done | rfl))
    | (apply do_pass; (· simp only [go_sem]; first | done | rfl); (· rfl); (· simp only [go_sem]; first | done | rfl))
    | (apply do_pass0; (· simp only [go_sem]; first | done | rfl); (· simp only [go_sem]; first | done | rfl))
    | (apply do_split; (· simp only [go_sem]; first | done | rfl); all_goals (intro hc; rw [hc]))
    | (refine do_drawn ?_ ?_; (· simp only [go_sem]; done))
    | (apply cond_t; (· simp only [go_sem])) | (apply cond_f; (· simp only [go_sem]))
    | (apply do_cond; (· simp only [go_sem]; first | done | rfl); all_goals (intro hc; try rw [hc])))
  rotate_left 4
  all_goals (try (refine fin_ret (by simp only [aresults, Try.f9, go_sem]; first | done | rfl) ?_; have hf : nameOf s = false := by simp only [nameOf, *, Bool.not_true, Bool.false_and, Bool.and_false, Bool.not_false, Bool.true_and]
                  rw [hf] at hk; exact hk))
  rename_i h1 h2 h3
  have hn : nameOf s = s.all okByte := by simp only [nameOf, h1, h2, h3, hc, Bool.not_false, Bool.true_and]
  refine loop_ind (fun d fr H' => ∃ i : Nat, (∃ j : Nat → AV, fr = [.str s, j 1, .bool false, .bool true, j 4, j 5, j 6, j 7, j 8, j 9, j 10, j 11, j 12, j 13, j 14, j 15, j 16, j 17, j 18, j 19, j 20, j 21, .int .i64 s.length, .int .i64 i, j 24, j 25, j 26, j 27, j 28, j 29, j 30, j 31, j 32, j 33, j 34, j 35, j 36, j 37, j 38, j 39, j 40, j 41, j 42, j 43, j 44, j 45, j 46, j 47, j 48, j 49]) ∧ H' = H ∧ i + d = s.length ∧ (s.take i).all okByte = true) ?_ s.length _ _
    ⟨0, junk rfl, rfl, by omega, by simp⟩
  rintro d fr H' ⟨i, ⟨j, rfl⟩, rfl, hi, hall⟩
  cases d with
  | zero =>
    have hlt : decide ((i : Int) < s.length) = false := by simp; omega
    repeat' (first
    | refine do_end ?_ | refine then_n ?_ | refine then_r ?_ | refine then_e ?_ | refine block_n ?_ | refine block_r ?_ | refine block_e ?_ | refine block_o (by decide) ?_
    | refine go_seq ?_ | refine go_region ?_ | refine go_draw (by rfl) ?_ | refine do_block ?_ | refine do_scope ?_ | refine do_label ?_ | refine do_skip ?_ | refine do_ret ?_ | refine do_exit ?_
    | (apply do_op; (· simp only [go_sem, hlt]; first | done | rfl); (· simp only [go_sem]; first | done | rfl))
    | (apply do_take; (· simp only [go_sem, hlt]); (· simp only [go_sem, hlt]; first | done | rfl); (· simp only [go_sem]; first | done | rfl))
    | (apply do_pass; (· simp only [go_sem, hlt]; first | done | rfl); (· rfl); (· simp only [go_sem]; first | done | rfl))
    | (apply do_pass0; (· simp only [go_sem, hlt]; first | done | rfl); (· simp only [go_sem]; first | done | rfl))
    | (apply do_split; (· simp only [go_sem, hlt]; first | done | rfl); all_goals (intro hc; rw [hc]))
    | (refine do_drawn ?_ ?_; (· simp only [go_sem, hlt]; done))
    | (apply cond_t; (· simp only [go_sem, hlt])) | (apply cond_f; (· simp only [go_sem, hlt]))
    | (apply do_cond; (· simp only [go_sem, hlt]; first | done | rfl); all_goals (intro hc; try rw [hc])))
    refine fin_ret (by simp only [aresults, Try.f9, go_sem]; first | done | rfl) ?_
    rw [hn, ← List.take_length (l := s), ← hi, Nat.add_zero, hall] at hk
    exact hk
  | succ d =>
    have hlt : decide ((i : Int) < s.length) = true := by simp; omega
    obtain ⟨b, hb⟩ : ∃ b, s[i]? = some b := ⟨s[i]'(by omega), List.getElem?_eq_getElem (by omega)⟩
    have hx : aindex T 9 (.str s) (.int .i64 i) = some (.int .u8 b.toNat) := index_str (by simp only [T_9, ty9]) (by omega) (by simpa using hb)
    have hw : IntKind.i64.wrap ((i : Int) + 1) = ((i + 1 : Nat) : Int) := wrap_succ (by omega)
    repeat' (first
    | refine do_end ?_ | refine then_n ?_ | refine then_r ?_ | refine then_e ?_ | refine block_n ?_ | refine block_r ?_ | refine block_e ?_ | refine block_o (by decide) ?_
    | refine go_seq ?_ | refine go_region ?_ | refine go_draw (by rfl) ?_ | refine do_block ?_ | refine do_scope ?_ | refine do_label ?_ | refine do_skip ?_ | refine do_ret ?_ | refine do_exit ?_
    | (apply do_op; (· simp only [go_sem, hlt, hw, hx]; first | done | rfl); (· simp only [go_sem]; first | done | rfl))
    | (apply do_take; (· simp only [go_sem, hlt, hw, hx]); (· simp only [go_sem, hlt, hw, hx]; first | done | rfl); (· simp only [go_sem]; first | done | rfl))
    | (apply do_pass; (· simp only [go_sem, hlt, hw, hx]; first | done | rfl); (· rfl); (· simp only [go_sem]; first | done | rfl))
    | (apply do_pass0; (· simp only [go_sem, hlt, hw, hx]; first | done | rfl); (· simp only [go_sem]; first | done | rfl))
    | (apply do_split; (· simp only [go_sem, hlt, hw, hx]; first | done | rfl); all_goals (intro hc; rw [hc]))
    | (refine do_drawn ?_ ?_; (· simp only [go_sem, hlt, hw, hx]; done))
    | (apply cond_t; (· simp only [go_sem, hlt, hw, hx])) | (apply cond_f; (· simp only [go_sem, hlt, hw, hx]))
    | (apply do_cond; (· simp only [go_sem, hlt, hw, hx]; first | done | rfl); all_goals (intro hc; try rw [hc])))
    all_goals first
      | (refine fin_ret (by simp only [aresults, Try.f9, go_sem]; first | done | rfl) ?_
         have hf : okByte b = false := by simp only [okByte, *, Bool.true_and, Bool.false_and, Bool.or_false]
         rw [hn, all_take hb okByte hf] at hk
         exact hk)
      | (have ht : okByte b = true := by simp only [okByte, *, Bool.true_and, Bool.true_or, Bool.or_true]
         exact ⟨d, Nat.lt_succ_self d, i + 1, junk rfl, rfl, by omega, by rw [all_split hb, hall, ht]; rfl⟩)
end Go.Proofs.Ytecjmbglnkpnnaa
