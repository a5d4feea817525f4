import Derived.Test.YtecjmbglnkpnnaaEvC
namespace Go.Proofs.Ytecjmbglnkpnnaa
open Go.Abs
attribute [local irreducible] ev evList evOp evRes EvCall VS aop FnEnd AX.then AX.inBlock abuiltin aindexAddr aload aconvert astore aslice
attribute [local go_sem] T_3 T_4 T_5 T_9 T_24 T_25 T_38 ty3 ty4 ty5 ty9 ty24 ty25 ty38
set_option linter.unusedSimpArgs false

theorem slice_str {s : List UInt8} {H : AH} {i j : Nat} (h1 : i ≤ j) (h2 : j ≤ s.length) : aslice T H 9 (.str s) (some (.int .i64 i)) (some (.int .i64 j)) none = some (.str ((s.take j).drop i)) := by
  unfold aslice
  simp [T_9, ty9, boundOf, numOf, h1, h2]

set_option maxRecDepth 10000 in
theorem split1_ev (P : AH) (i frm : Nat) (s : List UInt8) (ls lf lo : Nat) (x : AV) (cs : List (List UInt8)) (H : AH) (k : AV → AH → Prop)
    (hB : Buf P H x (cs.map .str)) (h1 : P[ls]? = some (.cells [.str s])) (h2 : P[lf]? = some (.cells [.int .i64 frm])) (h3 : P[lo]? = some (.cells [x])) (_hne : lf ≠ ls) (hne2 : lo ≠ lf)
    (hfi : frm ≤ i) (his : i ≤ s.length) (hs : s.length < 2 ^ 40) (hcs : cs.length < 2 ^ 40)
    (hno : nameOf ((s.take i).drop frm) = false → ∀ H1, Buf (P.set lf (.cells [.int .i64 (i + 1 : Nat)])) H1 x (cs.map .str) → k (.bool false) H1)
    (hyes : nameOf ((s.take i).drop frm) = true → ∀ x2 H2, Buf ((P.set lf (.cells [.int .i64 (i + 1 : Nat)])).set lo (.cells [x2])) H2 x2 ((cs ++ [(s.take i).drop frm]).map .str) → k (.bool true) H2) :
    EvCall Try.prog T G0 21 [.int .i64 i, .ptr ls 0, .ptr lf 0, .ptr lo 0] H k := by
  have a1 : aload T H 9 (.ptr ls 0) = some (.str s) := load1 (hB.get h1) (by rfl) (by rfl)
  have a2 : aload T H 3 (.ptr lf 0) = some (.int .i64 frm) := load1 (hB.get h2) (by rfl) (by rfl)
  have sl := slice_str (s := s) (H := H) hfi his
  have hw : IntKind.i64.wrap ((i : Int) + 1) = ((i + 1 : Nat) : Int) := wrap_succ (by omega)
  have st : astore T H 3 (.ptr lf 0) (.int .i64 (i + 1 : Nat)) = some (H.set lf (.cells [.int .i64 (i + 1 : Nat)])) := store1 (hB.get h2) (by rfl) (by rfl) (by rfl)
  have hlf := (List.getElem?_eq_some_iff.1 h2).1
  have hlo := (List.getElem?_eq_some_iff.1 h3).1
  have hB1 := hB.store (.cells [.int .i64 (i + 1 : Nat)]) hlf
  have h3' : (P.set lf (.cells [.int .i64 (i + 1 : Nat)]))[lo]? = some (.cells [x]) := by rw [List.getElem?_set_ne (Ne.symm hne2)]; exact h3
  have a3 : aload T (H.set lf (.cells [.int .i64 (i + 1 : Nat)])) 24 (.ptr lo 0) = some x := load1 (hB1.get h3') (by rfl) (by rfl)
  have hplen : ((s.take i).drop frm).length ≤ 9223372036854775807 := by simp; omega
  obtain ⟨x2, H2, ha, hB2⟩ := (hB1.push (.cells [.str ((s.take i).drop frm)])).append (T := T) (t := 24) (u := 24) (e := 9) (y := .ref true (H.set lf (.cells [.int .i64 (i + 1 : Nat)])).length 0 1 1) (new := [.str ((s.take i).drop frm)]) (by rfl) (by rfl) (by rfl) (by rfl) (by simp [acells])
    (by simp only [List.length_map, List.length_cons, List.length_nil]; unfold maxLen; omega) (by simp only [List.length_map, List.length_cons, List.length_nil, T_9, ty9]; omega)
  have st2 : astore T H2 24 (.ptr lo 0) x2 = some (H2.set lo (.cells [x2])) := store1 (hB2.get h3') hB2.cell (by rfl) (by rfl)
  have hB3 := hB2.store (.cells [x2]) (l := lo) (by simpa using hlo)
  refine call_go (Try.func21) rfl (by decide) (by simp only [Try.ntmps21, List.length_cons, List.length_nil, Nat.reduceAdd, Nat.reduceSub, List.replicate, List.cons_append, List.nil_append]; rfl) ?_
  repeat' (first
    | refine do_end ?_ | refine then_n ?_ | refine then_r ?_ | refine then_e ?_ | refine block_n ?_ | refine block_r ?_ | refine block_e ?_ | refine block_o (by decide) ?_
    | refine go_seq ?_ | refine go_region ?_ | refine go_draw (by rfl) ?_ | refine do_block ?_ | refine do_scope ?_ | refine do_label ?_ | refine do_skip ?_ | refine do_ret ?_ | refine do_exit ?_
    | (apply do_op; (· simp only [go_sem, a1, a2, sl, hw, st, a3, ha, st2]; first | done | rfl); (· simp only [go_sem]; first | done | rfl))
    | (apply do_take; (· simp only [go_sem, a1, a2, sl, hw, st, a3, ha, st2]); (· simp only [go_sem, a1, a2, sl, hw, st, a3, ha, st2]; first | done | rfl); (· simp only [go_sem]; first | done | rfl))
    | (apply do_pass; (· simp only [go_sem, a1, a2, sl, hw, st, a3, ha, st2]; first | done | rfl); (· rfl); (· simp only [go_sem]; first | done | rfl))
    | (apply do_pass0; (· simp only [go_sem, a1, a2, sl, hw, st, a3, ha, st2]; first | done | rfl); (· simp only [go_sem]; first | done | rfl))
    | (apply go_call (hC := callMono); (· simp only [go_sem, a1, a2, sl, hw, st, a3, ha, st2]; first | done | rfl); (· simp only [go_sem, a1, a2, sl, hw, st, a3, ha, st2]; first | done | rfl))
    | (apply go_call_take (hC := callMono); (· simp only [go_sem, a1, a2, sl, hw, st, a3, ha, st2]); (· simp only [go_sem, a1, a2, sl, hw, st, a3, ha, st2]; first | done | rfl); (· simp only [go_sem, a1, a2, sl, hw, st, a3, ha, st2]; first | done | rfl))
    | (intro fr' hfr; simp only [go_sem, a1, a2, sl, hw, st, a3, ha, st2] at hfr; subst hfr)
    | refine name_ev _ _ _ hplen ?_
    | (apply do_split; (· simp only [go_sem, a1, a2, sl, hw, st, a3, ha, st2]; first | done | rfl); all_goals (intro hc; rw [hc]))
    | (refine do_drawn ?_ ?_; (· simp only [go_sem, a1, a2, sl, hw, st, a3, ha, st2]; done))
    | (apply cond_t; (· simp only [go_sem, a1, a2, sl, hw, st, a3, ha, st2])) | (apply cond_f; (· simp only [go_sem, a1, a2, sl, hw, st, a3, ha, st2]))
    | (apply do_cond; (· simp only [go_sem, a1, a2, sl, hw, st, a3, ha, st2]; first | done | rfl); all_goals (intro hc; try rw [hc])))
  · refine fin_ret (by simp only [aresults, Try.f21, go_sem]; first | done | rfl) ?_
    exact hno (by simpa using hc) _ hB1
  · refine fin_ret (by simp only [aresults, Try.f21, go_sem]; first | done | rfl) ?_
    exact hyes (by simpa using hc) x2 _ (by simpa using hB3)
end Go.Proofs.Ytecjmbglnkpnnaa
