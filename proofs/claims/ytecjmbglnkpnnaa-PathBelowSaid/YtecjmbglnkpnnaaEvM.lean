import Derived.Test.YtecjmbglnkpnnaaEvL
namespace Go.Proofs.Ytecjmbglnkpnnaa
open Go.Abs
attribute [local irreducible] ev evList evOp evRes EvCall VS aop FnEnd AX.then AX.inBlock abuiltin aindexAddr aload aconvert astore aslice aindex
attribute [local go_sem] T_3 T_4 T_5 T_9 T_24 T_25 T_38 ty3 ty4 ty5 ty9 ty24 ty25 ty38
set_option linter.unusedSimpArgs false
set_option linter.unusedVariables false

theorem few_len (l : List (List UInt8)) : (fewOf l).length ≤ 12 := by unfold fewOf; simp; omega
theorem below_self (a : List (List UInt8)) : belowOf a a = false := by simp [belowOf]
theorem below_back {a b : List (List UInt8)} (h : belowOf a b = true) : belowOf b a = false := by
  unfold belowOf at *
  simp only [Bool.and_eq_true, decide_eq_true_eq] at h
  simp only [Bool.and_eq_false_iff, decide_eq_false_iff_not]
  left
  omega
theorem below_trans {a b c : List (List UInt8)} (h : belowOf a b = true) (h2 : belowOf b c = true) : belowOf a c = true := by
  unfold belowOf at *
  simp only [Bool.and_eq_true, decide_eq_true_eq, beq_iff_eq] at *
  obtain ⟨h1, h3⟩ := h
  obtain ⟨h4, h5⟩ := h2
  refine ⟨by omega, ?_⟩
  have h6 : b.take c.length = a.take c.length := by
    conv => lhs; rw [← h3]
    rw [List.take_take, Nat.min_eq_left (by omega)]
  rw [← h6, h5]
theorem below_app (a b : List (List UInt8)) : belowOf (a ++ b) a = decide ((b.length : Int) > 0) := by
  unfold belowOf
  cases b <;> simp
theorem below_is (x y : AV) (l a : List (List UInt8)) {v : Bool} (e : belowOf l a = v) (H : AH) (k : AV → AH → Prop) (hx : Cuts H x l) (hy : Cuts H y a) (hl : l.length < 2 ^ 40) (hk : k (.bool v) H) : EvCall Try.prog T G0 16 [x, y] H k := below_ev x y l a H k hx hy hl (by rw [e]; exact hk)
theorem rbelow_is (x y : AV) (l a : List (List UInt8)) {v : Bool} (e : belowOf l a = v) (H : AH) (k : AV → AH → Prop) (hx : Cuts H x l) (hy : Cuts H y a) (hl : l.length < 2 ^ 40) (hk : k (.bool v) H) : EvCall Try.prog T G0 19 [x, y] H k := rbelow_ev x y l a H k hx hy hl (by rw [e]; exact hk)
theorem below_lit {nl ex nl2 ex2 : Bool} {l a : List (List UInt8)} {v : Bool} (e : belowOf l a = v) {H : AH} {k : AV → AH → Prop} (hl : l.length ≤ 12) (hk : k (.bool v) H) : EvCall Try.prog T G0 16 [.lit nl ex (l.map .str) l.length, .lit nl2 ex2 (a.map .str) a.length] H k :=
  below_is _ _ l a e H k Cuts.lit Cuts.lit (by omega) hk
theorem joined_few : ∀ (l : List (List UInt8)), (∀ y ∈ l, y.length ≤ 40) → (joined l).length ≤ 41 * l.length
  | [], _ => by simp [joined]
  | x :: t, h => by
    have ih := joined_few t (fun y hy => h y (by simp [hy]))
    have hx := h x (by simp)
    rw [joined_cons]
    simp only [List.length_cons, List.length_append]
    omega
theorem few_small (l : List (List UInt8)) : ∀ y ∈ fewOf l, y.length ≤ 40 := by
  intro y hy
  unfold fewOf at hy
  obtain ⟨z, _, rfl⟩ := List.mem_map.1 hy
  simp
  omega

theorem few_is (nl ex : Bool) (l L : List (List UInt8)) (e : fewOf l = L) (H : AH) (k : AV → AH → Prop) (hW : WF H) (hk : ∀ nl ex, k (.lit nl ex (L.map .str) L.length) H) : EvCall Try.prog T G0 15 [.lit nl ex (l.map .str) l.length] H k :=
  few_ev nl ex l H k hW (by rw [e]; exact hk)
set_option maxRecDepth 10000 in
set_option maxHeartbeats 2000000 in
theorem pathBelow_ev (na xa nb xb nc xc : Bool) (a b c : List (List UInt8)) (H : AH) (k : AV → AH → Prop) (hW : WF H) (hk : ∀ H' , k (.bool true) H') : EvCall Try.prog T G0 6 [.lit na xa (a.map .str) a.length, .lit nb xb (b.map .str) b.length, .lit nc xc (c.map .str) c.length] H k := by
  have la := few_len a
  have lb := few_len b
  have lc := few_len c
  generalize hA : fewOf a = A at la
  generalize hB : fewOf b = B at lb
  generalize hC : fewOf c = C at lc
  have q1 := below_self A
  refine call_go (Try.func6) rfl (by decide) (by simp only [Try.ntmps6, List.length_cons, List.length_nil, Nat.reduceAdd, Nat.reduceSub, List.replicate, List.cons_append, List.nil_append]; rfl) ?_
  cases q2 : belowOf A B with
  | false =>
    repeat' (first
    | refine pick_end ?_ | refine pick_head (by rfl) ?_ | refine pick_one (by rfl) ?_
    | refine do_end ?_ | refine then_n ?_ | refine then_r ?_ | refine then_e ?_ | refine block_n ?_ | refine block_r ?_ | refine block_e ?_ | refine block_o (by decide) ?_
    | refine go_seq ?_ | refine go_region ?_ | refine plan_nil ?_ | refine plan_cons ?_ | refine do_block ?_ | refine do_scope ?_ | refine do_label ?_ | refine do_skip ?_ | refine do_ret ?_ | refine do_exit ?_
    | (apply do_op; (· simp only [go_sem, q1]; first | done | rfl); (· simp only [go_sem]; first | done | rfl))
    | (apply do_take; (· simp only [go_sem, q1]); (· simp only [go_sem, q1]; first | done | rfl); (· simp only [go_sem]; first | done | rfl))
    | (apply do_pass; (· simp only [go_sem, q1]; first | done | rfl); (· rfl); (· simp only [go_sem]; first | done | rfl))
    | (apply do_pass0; (· simp only [go_sem, q1]; first | done | rfl); (· simp only [go_sem]; first | done | rfl))
    | (apply go_call (hC := callMono); (· simp only [go_sem, q1]; first | done | rfl); (· simp only [go_sem, q1]; first | done | rfl))
    | (apply go_call_take (hC := callMono); (· simp only [go_sem, q1]); (· simp only [go_sem, q1]; first | done | rfl); (· simp only [go_sem, q1]; first | done | rfl))
    | (intro fr' hfr; simp only [go_sem, q1] at hfr; subst hfr)
    | refine few_is _ _ _ _ hA _ _ hW (fun na xa => ?_)
    | refine few_is _ _ _ _ hB _ _ hW (fun nb xb => ?_)
    | refine few_is _ _ _ _ hC _ _ hW (fun nc xc => ?_)
    | refine below_lit q1 la ?_
    | refine below_lit q2 la ?_
    | (apply do_split; (· simp only [go_sem, q1]; first | done | rfl); all_goals (intro hc; rw [hc]))
    | (refine do_drawn ?_ ?_; (· simp only [go_sem, q1]; done))
    | refine do_drawn2 ?_ ?_ ?_ | exact chk_end | exact chkC_end
    | (refine chk_head (by rfl) ?_ ?_; (· simp only [go_sem, q1]; done)) | refine chkC_head (by rfl) ?_ ?_
    | (apply chkc_call; (· simp only [go_sem, q1]; first | done | rfl); (· simp only [go_sem, q1]; first | done | rfl); (· simp only [go_sem, q1]; first | done | rfl))
    | (apply chkc_take; (· simp only [go_sem, q1]); (· simp only [go_sem, q1]; first | done | rfl); (· simp only [go_sem, q1]; first | done | rfl); (· simp only [go_sem, q1]; first | done | rfl))
    | (apply chkc_pass; (· simp only [go_sem, q1]; first | done | rfl); (· rfl); (· simp only [go_sem, q1]; first | done | rfl))
    | (apply chkc_pass0; (· simp only [go_sem, q1]; first | done | rfl); (· simp only [go_sem, q1]; first | done | rfl))
    | (refine all_k ?_; intro kk hkk) | exact hkk
    | (apply cond_t; (· simp only [go_sem, q1])) | (apply cond_f; (· simp only [go_sem, q1]))
    | (apply do_cond; (· simp only [go_sem, q1]; first | done | rfl); all_goals (intro hc; try rw [hc])))
    have hW1 : WF (H ++ [.cells []]) := hW.snoc rfl
    obtain ⟨x1, H1, hap1, hB1⟩ := (Buf.ref (H := H) (ex := true) (cs := [])).append (T := T) (t := 24) (u := 24) (e := 9) (y := .lit na xa (A.map .str) A.length) (new := A.map .str) (by rfl) (by rfl) (by rfl) (by simp [alen]) (by simp [acells, List.take_of_length_le])
      (by simp; unfold maxLen; omega) (by simp [T_9, ty9]; omega)
    rw [List.nil_append] at hB1
    simp only [List.length_nil] at hap1
    have hW2 : WF H1 := by
      have := hap1
      rw [app_two] at this
      exact aappend_wf hW1 (by simp [AV.low]) (by simp [AV.low, lows_str]) this
    obtain ⟨x2, H2, hap2, hB2⟩ := hB1.append (T := T) (t := 24) (u := 24) (e := 9) (y := .lit nb xb (B.map .str) B.length) (new := B.map .str) (by rfl) (by rfl) (by rfl) (by simp [alen]) (by simp [acells, List.take_of_length_le])
      (by simp; unfold maxLen; omega) (by simp [T_9, ty9]; omega)
    have hW3 : WF H2 := by
      have := hap2
      rw [app_two] at this
      exact aappend_wf hW2 hB1.low (by simp [AV.low, lows_str]) this
    rw [← List.map_append] at hB2
    have hCt : Cuts H2 x2 (A ++ B) := Cuts.buf hB2
    have hlb : abuiltin T H2 .len #[24] [.lit nb xb (B.map .str) B.length] = some (.int .i64 B.length, H2) := (Strs.lit (T := T) (H := H2) (by rfl) (by rfl) (by rfl)).len
    repeat' (first
    | refine pick_end ?_ | refine pick_head (by rfl) ?_ | refine pick_one (by rfl) ?_
    | refine do_end ?_ | refine then_n ?_ | refine then_r ?_ | refine then_e ?_ | refine block_n ?_ | refine block_r ?_ | refine block_e ?_ | refine block_o (by decide) ?_
    | refine go_seq ?_ | refine go_region ?_ | refine plan_nil ?_ | refine plan_cons ?_ | refine do_block ?_ | refine do_scope ?_ | refine do_label ?_ | refine do_skip ?_ | refine do_ret ?_ | refine do_exit ?_
    | (apply do_op; (· simp only [go_sem, hap1, hap2, hlb, below_app, beq_self_eq_true]; first | done | rfl); (· simp only [go_sem]; first | done | rfl))
    | (apply do_take; (· simp only [go_sem, hap1, hap2, hlb, below_app, beq_self_eq_true]); (· simp only [go_sem, hap1, hap2, hlb, below_app, beq_self_eq_true]; first | done | rfl); (· simp only [go_sem]; first | done | rfl))
    | (apply do_pass; (· simp only [go_sem, hap1, hap2, hlb, below_app, beq_self_eq_true]; first | done | rfl); (· rfl); (· simp only [go_sem]; first | done | rfl))
    | (apply do_pass0; (· simp only [go_sem, hap1, hap2, hlb, below_app, beq_self_eq_true]; first | done | rfl); (· simp only [go_sem]; first | done | rfl))
    | (apply go_call (hC := callMono); (· simp only [go_sem, hap1, hap2, hlb, below_app, beq_self_eq_true]; first | done | rfl); (· simp only [go_sem, hap1, hap2, hlb, below_app, beq_self_eq_true]; first | done | rfl))
    | (apply go_call_take (hC := callMono); (· simp only [go_sem, hap1, hap2, hlb, below_app, beq_self_eq_true]); (· simp only [go_sem, hap1, hap2, hlb, below_app, beq_self_eq_true]; first | done | rfl); (· simp only [go_sem, hap1, hap2, hlb, below_app, beq_self_eq_true]; first | done | rfl))
    | (intro fr' hfr; simp only [go_sem, hap1, hap2, hlb, below_app, beq_self_eq_true] at hfr; subst hfr)
    | refine below_lit q2 la ?_
    | refine awake_ev _ _ hW3 ?_
    | refine below_is _ _ _ _ (below_app A B) _ _ hCt Cuts.lit (by simp; omega) ?_
    | (apply do_split; (· simp only [go_sem, hap1, hap2, hlb, below_app, beq_self_eq_true]; first | done | rfl); all_goals (intro hc; rw [hc]))
    | (refine do_drawn ?_ ?_; (· simp only [go_sem, hap1, hap2, hlb, below_app, beq_self_eq_true]; done))
    | refine do_drawn2 ?_ ?_ ?_ | exact chk_end | exact chkC_end
    | (refine chk_head (by rfl) ?_ ?_; (· simp only [go_sem, hap1, hap2, hlb, below_app, beq_self_eq_true]; done)) | refine chkC_head (by rfl) ?_ ?_
    | (apply chkc_call; (· simp only [go_sem, hap1, hap2, hlb, below_app, beq_self_eq_true]; first | done | rfl); (· simp only [go_sem, hap1, hap2, hlb, below_app, beq_self_eq_true]; first | done | rfl); (· simp only [go_sem, hap1, hap2, hlb, below_app, beq_self_eq_true]; first | done | rfl))
    | (apply chkc_take; (· simp only [go_sem, hap1, hap2, hlb, below_app, beq_self_eq_true]); (· simp only [go_sem, hap1, hap2, hlb, below_app, beq_self_eq_true]; first | done | rfl); (· simp only [go_sem, hap1, hap2, hlb, below_app, beq_self_eq_true]; first | done | rfl); (· simp only [go_sem, hap1, hap2, hlb, below_app, beq_self_eq_true]; first | done | rfl))
    | (apply chkc_pass; (· simp only [go_sem, hap1, hap2, hlb, below_app, beq_self_eq_true]; first | done | rfl); (· rfl); (· simp only [go_sem, hap1, hap2, hlb, below_app, beq_self_eq_true]; first | done | rfl))
    | (apply chkc_pass0; (· simp only [go_sem, hap1, hap2, hlb, below_app, beq_self_eq_true]; first | done | rfl); (· simp only [go_sem, hap1, hap2, hlb, below_app, beq_self_eq_true]; first | done | rfl))
    | (refine all_k ?_; intro kk hkk) | exact hkk
    | (apply cond_t; (· simp only [go_sem, hap1, hap2, hlb, below_app, beq_self_eq_true])) | (apply cond_f; (· simp only [go_sem, hap1, hap2, hlb, below_app, beq_self_eq_true]))
    | (apply do_cond; (· simp only [go_sem, hap1, hap2, hlb, below_app, beq_self_eq_true]; first | done | rfl); all_goals (intro hc; try rw [hc])))
    refine fin_ret (by simp only [aresults, Try.f6, go_sem]; first | done | rfl) ?_
    exact hk _
  | true =>
    have q3 := below_back q2
    repeat' (first
    | refine pick_end ?_ | refine pick_head (by rfl) ?_ | refine pick_one (by rfl) ?_
    | refine do_end ?_ | refine then_n ?_ | refine then_r ?_ | refine then_e ?_ | refine block_n ?_ | refine block_r ?_ | refine block_e ?_ | refine block_o (by decide) ?_
    | refine go_seq ?_ | refine go_region ?_ | refine plan_nil ?_ | refine plan_cons ?_ | refine do_block ?_ | refine do_scope ?_ | refine do_label ?_ | refine do_skip ?_ | refine do_ret ?_ | refine do_exit ?_
    | (apply do_op; (· simp only [go_sem, q1]; first | done | rfl); (· simp only [go_sem]; first | done | rfl))
    | (apply do_take; (· simp only [go_sem, q1]); (· simp only [go_sem, q1]; first | done | rfl); (· simp only [go_sem]; first | done | rfl))
    | (apply do_pass; (· simp only [go_sem, q1]; first | done | rfl); (· rfl); (· simp only [go_sem]; first | done | rfl))
    | (apply do_pass0; (· simp only [go_sem, q1]; first | done | rfl); (· simp only [go_sem]; first | done | rfl))
    | (apply go_call (hC := callMono); (· simp only [go_sem, q1]; first | done | rfl); (· simp only [go_sem, q1]; first | done | rfl))
    | (apply go_call_take (hC := callMono); (· simp only [go_sem, q1]); (· simp only [go_sem, q1]; first | done | rfl); (· simp only [go_sem, q1]; first | done | rfl))
    | (intro fr' hfr; simp only [go_sem, q1] at hfr; subst hfr)
    | refine few_is _ _ _ _ hA _ _ hW (fun na xa => ?_)
    | refine few_is _ _ _ _ hB _ _ hW (fun nb xb => ?_)
    | refine few_is _ _ _ _ hC _ _ hW (fun nc xc => ?_)
    | refine below_lit q1 la ?_
    | refine below_lit q2 la ?_
    | refine below_lit q3 lb ?_
    | (apply do_split; (· simp only [go_sem, q1]; first | done | rfl); all_goals (intro hc; rw [hc]))
    | (refine do_drawn ?_ ?_; (· simp only [go_sem, q1]; done))
    | refine do_drawn2 ?_ ?_ ?_ | exact chk_end | exact chkC_end
    | (refine chk_head (by rfl) ?_ ?_; (· simp only [go_sem, q1]; done)) | refine chkC_head (by rfl) ?_ ?_
    | (apply chkc_call; (· simp only [go_sem, q1]; first | done | rfl); (· simp only [go_sem, q1]; first | done | rfl); (· simp only [go_sem, q1]; first | done | rfl))
    | (apply chkc_take; (· simp only [go_sem, q1]); (· simp only [go_sem, q1]; first | done | rfl); (· simp only [go_sem, q1]; first | done | rfl); (· simp only [go_sem, q1]; first | done | rfl))
    | (apply chkc_pass; (· simp only [go_sem, q1]; first | done | rfl); (· rfl); (· simp only [go_sem, q1]; first | done | rfl))
    | (apply chkc_pass0; (· simp only [go_sem, q1]; first | done | rfl); (· simp only [go_sem, q1]; first | done | rfl))
    | (refine all_k ?_; intro kk hkk) | exact hkk
    | (apply cond_t; (· simp only [go_sem, q1])) | (apply cond_f; (· simp only [go_sem, q1]))
    | (apply do_cond; (· simp only [go_sem, q1]; first | done | rfl); all_goals (intro hc; try rw [hc])))
    have hW1 : WF (H ++ [.cells []]) := hW.snoc rfl
    obtain ⟨x1, H1, hap1, hB1⟩ := (Buf.ref (H := H) (ex := true) (cs := [])).append (T := T) (t := 24) (u := 24) (e := 9) (y := .lit na xa (A.map .str) A.length) (new := A.map .str) (by rfl) (by rfl) (by rfl) (by simp [alen]) (by simp [acells, List.take_of_length_le])
      (by simp; unfold maxLen; omega) (by simp [T_9, ty9]; omega)
    rw [List.nil_append] at hB1
    simp only [List.length_nil] at hap1
    have hW2 : WF H1 := by
      have := hap1
      rw [app_two] at this
      exact aappend_wf hW1 (by simp [AV.low]) (by simp [AV.low, lows_str]) this
    obtain ⟨x2, H2, hap2, hB2⟩ := hB1.append (T := T) (t := 24) (u := 24) (e := 9) (y := .lit nb xb (B.map .str) B.length) (new := B.map .str) (by rfl) (by rfl) (by rfl) (by simp [alen]) (by simp [acells, List.take_of_length_le])
      (by simp; unfold maxLen; omega) (by simp [T_9, ty9]; omega)
    have hW3 : WF H2 := by
      have := hap2
      rw [app_two] at this
      exact aappend_wf hW2 hB1.low (by simp [AV.low, lows_str]) this
    rw [← List.map_append] at hB2
    have hCt : Cuts H2 x2 (A ++ B) := Cuts.buf hB2
    have hlb : abuiltin T H2 .len #[24] [.lit nb xb (B.map .str) B.length] = some (.int .i64 B.length, H2) := (Strs.lit (T := T) (H := H2) (by rfl) (by rfl) (by rfl)).len
    cases q4 : belowOf B C with
    | false =>
      repeat' (first
    | refine pick_end ?_ | refine pick_head (by rfl) ?_ | refine pick_one (by rfl) ?_
    | refine do_end ?_ | refine then_n ?_ | refine then_r ?_ | refine then_e ?_ | refine block_n ?_ | refine block_r ?_ | refine block_e ?_ | refine block_o (by decide) ?_
    | refine go_seq ?_ | refine go_region ?_ | refine plan_nil ?_ | refine plan_cons ?_ | refine do_block ?_ | refine do_scope ?_ | refine do_label ?_ | refine do_skip ?_ | refine do_ret ?_ | refine do_exit ?_
    | (apply do_op; (· simp only [go_sem, hap1, hap2, hlb, below_app, beq_self_eq_true]; first | done | rfl); (· simp only [go_sem]; first | done | rfl))
    | (apply do_take; (· simp only [go_sem, hap1, hap2, hlb, below_app, beq_self_eq_true]); (· simp only [go_sem, hap1, hap2, hlb, below_app, beq_self_eq_true]; first | done | rfl); (· simp only [go_sem]; first | done | rfl))
    | (apply do_pass; (· simp only [go_sem, hap1, hap2, hlb, below_app, beq_self_eq_true]; first | done | rfl); (· rfl); (· simp only [go_sem]; first | done | rfl))
    | (apply do_pass0; (· simp only [go_sem, hap1, hap2, hlb, below_app, beq_self_eq_true]; first | done | rfl); (· simp only [go_sem]; first | done | rfl))
    | (apply go_call (hC := callMono); (· simp only [go_sem, hap1, hap2, hlb, below_app, beq_self_eq_true]; first | done | rfl); (· simp only [go_sem, hap1, hap2, hlb, below_app, beq_self_eq_true]; first | done | rfl))
    | (apply go_call_take (hC := callMono); (· simp only [go_sem, hap1, hap2, hlb, below_app, beq_self_eq_true]); (· simp only [go_sem, hap1, hap2, hlb, below_app, beq_self_eq_true]; first | done | rfl); (· simp only [go_sem, hap1, hap2, hlb, below_app, beq_self_eq_true]; first | done | rfl))
    | (intro fr' hfr; simp only [go_sem, hap1, hap2, hlb, below_app, beq_self_eq_true] at hfr; subst hfr)
    | refine below_lit q2 la ?_
    | refine below_lit q4 lb ?_
    | refine awake_ev _ _ hW3 ?_
    | refine below_is _ _ _ _ (below_app A B) _ _ hCt Cuts.lit (by simp; omega) ?_
    | (apply do_split; (· simp only [go_sem, hap1, hap2, hlb, below_app, beq_self_eq_true]; first | done | rfl); all_goals (intro hc; rw [hc]))
    | (refine do_drawn ?_ ?_; (· simp only [go_sem, hap1, hap2, hlb, below_app, beq_self_eq_true]; done))
    | refine do_drawn2 ?_ ?_ ?_ | exact chk_end | exact chkC_end
    | (refine chk_head (by rfl) ?_ ?_; (· simp only [go_sem, hap1, hap2, hlb, below_app, beq_self_eq_true]; done)) | refine chkC_head (by rfl) ?_ ?_
    | (apply chkc_call; (· simp only [go_sem, hap1, hap2, hlb, below_app, beq_self_eq_true]; first | done | rfl); (· simp only [go_sem, hap1, hap2, hlb, below_app, beq_self_eq_true]; first | done | rfl); (· simp only [go_sem, hap1, hap2, hlb, below_app, beq_self_eq_true]; first | done | rfl))
    | (apply chkc_take; (· simp only [go_sem, hap1, hap2, hlb, below_app, beq_self_eq_true]); (· simp only [go_sem, hap1, hap2, hlb, below_app, beq_self_eq_true]; first | done | rfl); (· simp only [go_sem, hap1, hap2, hlb, below_app, beq_self_eq_true]; first | done | rfl); (· simp only [go_sem, hap1, hap2, hlb, below_app, beq_self_eq_true]; first | done | rfl))
    | (apply chkc_pass; (· simp only [go_sem, hap1, hap2, hlb, below_app, beq_self_eq_true]; first | done | rfl); (· rfl); (· simp only [go_sem, hap1, hap2, hlb, below_app, beq_self_eq_true]; first | done | rfl))
    | (apply chkc_pass0; (· simp only [go_sem, hap1, hap2, hlb, below_app, beq_self_eq_true]; first | done | rfl); (· simp only [go_sem, hap1, hap2, hlb, below_app, beq_self_eq_true]; first | done | rfl))
    | (refine all_k ?_; intro kk hkk) | exact hkk
    | (apply cond_t; (· simp only [go_sem, hap1, hap2, hlb, below_app, beq_self_eq_true])) | (apply cond_f; (· simp only [go_sem, hap1, hap2, hlb, below_app, beq_self_eq_true]))
    | (apply do_cond; (· simp only [go_sem, hap1, hap2, hlb, below_app, beq_self_eq_true]; first | done | rfl); all_goals (intro hc; try rw [hc])))
      refine fin_ret (by simp only [aresults, Try.f6, go_sem]; first | done | rfl) ?_
      exact hk _
    | true =>
      have q5 := below_trans q2 q4
      repeat' (first
    | refine pick_end ?_ | refine pick_head (by rfl) ?_ | refine pick_one (by rfl) ?_
    | refine do_end ?_ | refine then_n ?_ | refine then_r ?_ | refine then_e ?_ | refine block_n ?_ | refine block_r ?_ | refine block_e ?_ | refine block_o (by decide) ?_
    | refine go_seq ?_ | refine go_region ?_ | refine plan_nil ?_ | refine plan_cons ?_ | refine do_block ?_ | refine do_scope ?_ | refine do_label ?_ | refine do_skip ?_ | refine do_ret ?_ | refine do_exit ?_
    | (apply do_op; (· simp only [go_sem, hap1, hap2, hlb, below_app, beq_self_eq_true]; first | done | rfl); (· simp only [go_sem]; first | done | rfl))
    | (apply do_take; (· simp only [go_sem, hap1, hap2, hlb, below_app, beq_self_eq_true]); (· simp only [go_sem, hap1, hap2, hlb, below_app, beq_self_eq_true]; first | done | rfl); (· simp only [go_sem]; first | done | rfl))
    | (apply do_pass; (· simp only [go_sem, hap1, hap2, hlb, below_app, beq_self_eq_true]; first | done | rfl); (· rfl); (· simp only [go_sem]; first | done | rfl))
    | (apply do_pass0; (· simp only [go_sem, hap1, hap2, hlb, below_app, beq_self_eq_true]; first | done | rfl); (· simp only [go_sem]; first | done | rfl))
    | (apply go_call (hC := callMono); (· simp only [go_sem, hap1, hap2, hlb, below_app, beq_self_eq_true]; first | done | rfl); (· simp only [go_sem, hap1, hap2, hlb, below_app, beq_self_eq_true]; first | done | rfl))
    | (apply go_call_take (hC := callMono); (· simp only [go_sem, hap1, hap2, hlb, below_app, beq_self_eq_true]); (· simp only [go_sem, hap1, hap2, hlb, below_app, beq_self_eq_true]; first | done | rfl); (· simp only [go_sem, hap1, hap2, hlb, below_app, beq_self_eq_true]; first | done | rfl))
    | (intro fr' hfr; simp only [go_sem, hap1, hap2, hlb, below_app, beq_self_eq_true] at hfr; subst hfr)
    | refine below_lit q2 la ?_
    | refine below_lit q4 lb ?_
    | refine below_lit q5 la ?_
    | refine awake_ev _ _ hW3 ?_
    | refine below_is _ _ _ _ (below_app A B) _ _ hCt Cuts.lit (by simp; omega) ?_
    | (apply do_split; (· simp only [go_sem, hap1, hap2, hlb, below_app, beq_self_eq_true]; first | done | rfl); all_goals (intro hc; rw [hc]))
    | (refine do_drawn ?_ ?_; (· simp only [go_sem, hap1, hap2, hlb, below_app, beq_self_eq_true]; done))
    | refine do_drawn2 ?_ ?_ ?_ | exact chk_end | exact chkC_end
    | (refine chk_head (by rfl) ?_ ?_; (· simp only [go_sem, hap1, hap2, hlb, below_app, beq_self_eq_true]; done)) | refine chkC_head (by rfl) ?_ ?_
    | (apply chkc_call; (· simp only [go_sem, hap1, hap2, hlb, below_app, beq_self_eq_true]; first | done | rfl); (· simp only [go_sem, hap1, hap2, hlb, below_app, beq_self_eq_true]; first | done | rfl); (· simp only [go_sem, hap1, hap2, hlb, below_app, beq_self_eq_true]; first | done | rfl))
    | (apply chkc_take; (· simp only [go_sem, hap1, hap2, hlb, below_app, beq_self_eq_true]); (· simp only [go_sem, hap1, hap2, hlb, below_app, beq_self_eq_true]; first | done | rfl); (· simp only [go_sem, hap1, hap2, hlb, below_app, beq_self_eq_true]; first | done | rfl); (· simp only [go_sem, hap1, hap2, hlb, below_app, beq_self_eq_true]; first | done | rfl))
    | (apply chkc_pass; (· simp only [go_sem, hap1, hap2, hlb, below_app, beq_self_eq_true]; first | done | rfl); (· rfl); (· simp only [go_sem, hap1, hap2, hlb, below_app, beq_self_eq_true]; first | done | rfl))
    | (apply chkc_pass0; (· simp only [go_sem, hap1, hap2, hlb, below_app, beq_self_eq_true]; first | done | rfl); (· simp only [go_sem, hap1, hap2, hlb, below_app, beq_self_eq_true]; first | done | rfl))
    | (refine all_k ?_; intro kk hkk) | exact hkk
    | (apply cond_t; (· simp only [go_sem, hap1, hap2, hlb, below_app, beq_self_eq_true])) | (apply cond_f; (· simp only [go_sem, hap1, hap2, hlb, below_app, beq_self_eq_true]))
    | (apply do_cond; (· simp only [go_sem, hap1, hap2, hlb, below_app, beq_self_eq_true]; first | done | rfl); all_goals (intro hc; try rw [hc])))
      refine fin_ret (by simp only [aresults, Try.f6, go_sem]; first | done | rfl) ?_
      exact hk _

set_option maxRecDepth 10000 in
set_option maxHeartbeats 2000000 in
theorem pathJoins_ev (na xa nb xb : Bool) (a b : List (List UInt8)) (H : AH) (k : AV → AH → Prop) (hW : WF H) (hk : ∀ H' , k (.bool true) H') : EvCall Try.prog T G0 7 [.lit na xa (a.map .str) a.length, .lit nb xb (b.map .str) b.length] H k := by
  have la := few_len a
  have lb := few_len b
  have ja := joined_few _ (few_small a)
  generalize hA : fewOf a = A at la ja
  generalize hB : fewOf b = B at lb
  have hlb : ∀ (H' : AH) nl ex, abuiltin T H' .len #[24] [.lit nl ex (A.map .str) A.length] = some (.int .i64 A.length, H') := fun H' nl ex => (Strs.lit (T := T) (H := H') (by rfl) (by rfl) (by rfl)).len
  refine call_go (Try.func7) rfl (by decide) (by simp only [Try.ntmps7, List.length_cons, List.length_nil, Nat.reduceAdd, Nat.reduceSub, List.replicate, List.cons_append, List.nil_append]; rfl) ?_
  by_cases hn : A = []
  · subst hn
    have hz : (((([] : List (List UInt8)).length : Nat) : Int) == 0) = true := rfl
    have hl0 : ∀ (H' : AH) nl ex, abuiltin T H' .len #[24] [.lit nl ex [] 0] = some (.int .i64 0, H') := fun H' nl ex => len_lit (by rfl)
    repeat' (first
    | refine pick_end ?_ | refine pick_head (by rfl) ?_ | refine pick_one (by rfl) ?_
    | refine do_end ?_ | refine then_n ?_ | refine then_r ?_ | refine then_e ?_ | refine block_n ?_ | refine block_r ?_ | refine block_e ?_ | refine block_o (by decide) ?_
    | refine go_seq ?_ | refine go_region ?_ | refine plan_nil ?_ | refine plan_cons ?_ | refine do_block ?_ | refine do_scope ?_ | refine do_label ?_ | refine do_skip ?_ | refine do_ret ?_ | refine do_exit ?_
    | (apply do_op; (· simp only [go_sem, hlb, hz, hl0, List.map_nil, List.length_nil, beq_self_eq_true, bne_self_eq_false]; first | done | rfl); (· simp only [go_sem]; first | done | rfl))
    | (apply do_take; (· simp only [go_sem, hlb, hz, hl0, List.map_nil, List.length_nil, beq_self_eq_true, bne_self_eq_false]); (· simp only [go_sem, hlb, hz, hl0, List.map_nil, List.length_nil, beq_self_eq_true, bne_self_eq_false]; first | done | rfl); (· simp only [go_sem]; first | done | rfl))
    | (apply do_pass; (· simp only [go_sem, hlb, hz, hl0, List.map_nil, List.length_nil, beq_self_eq_true, bne_self_eq_false]; first | done | rfl); (· rfl); (· simp only [go_sem]; first | done | rfl))
    | (apply do_pass0; (· simp only [go_sem, hlb, hz, hl0, List.map_nil, List.length_nil, beq_self_eq_true, bne_self_eq_false]; first | done | rfl); (· simp only [go_sem]; first | done | rfl))
    | (apply go_call (hC := callMono); (· simp only [go_sem, hlb, hz, hl0, List.map_nil, List.length_nil, beq_self_eq_true, bne_self_eq_false]; first | done | rfl); (· simp only [go_sem, hlb, hz, hl0, List.map_nil, List.length_nil, beq_self_eq_true, bne_self_eq_false]; first | done | rfl))
    | (apply go_call_take (hC := callMono); (· simp only [go_sem, hlb, hz, hl0, List.map_nil, List.length_nil, beq_self_eq_true, bne_self_eq_false]); (· simp only [go_sem, hlb, hz, hl0, List.map_nil, List.length_nil, beq_self_eq_true, bne_self_eq_false]; first | done | rfl); (· simp only [go_sem, hlb, hz, hl0, List.map_nil, List.length_nil, beq_self_eq_true, bne_self_eq_false]; first | done | rfl))
    | (intro fr' hfr; simp only [go_sem, hlb, hz, hl0, List.map_nil, List.length_nil, beq_self_eq_true, bne_self_eq_false] at hfr; subst hfr)
    | refine few_is _ _ _ _ hA _ _ hW (fun na xa => ?_)
    | refine few_is _ _ _ _ hB _ _ hW (fun nb xb => ?_)
    | refine parent0_ev _ _ _ _ ?_
    | refine join_ev (.lit na xa [] 0) [] _ _ hW (fun G => Strs.lit (l := []) (by rfl) (by rfl) (by rfl)) (by simp) (by simp [joined]) ?_
    | refine rjoin_ev (.lit na xa [] 0) [] _ _ (Strs.lit (l := []) (by rfl) (by rfl) (by rfl)) (by simp) (by simp [joined]) ?_
    | refine below_is (.lit na xa [] 0) _ [] B rfl _ _ (Cuts.lit (l := [])) Cuts.lit (by simp) ?_
    | refine rbelow_is (.lit na xa [] 0) _ [] B rfl _ _ (Cuts.lit (l := [])) Cuts.lit (by simp) ?_
    | refine awake_ev _ _ hW ?_
    | (apply do_split; (· simp only [go_sem, hlb, hz, hl0, List.map_nil, List.length_nil, beq_self_eq_true, bne_self_eq_false]; first | done | rfl); all_goals (intro hc; rw [hc]))
    | (refine do_drawn ?_ ?_; (· simp only [go_sem, hlb, hz, hl0, List.map_nil, List.length_nil, beq_self_eq_true, bne_self_eq_false]; done))
    | refine do_drawn2 ?_ ?_ ?_ | exact chk_end | exact chkC_end
    | (refine chk_head (by rfl) ?_ ?_; (· simp only [go_sem, hlb, hz, hl0, List.map_nil, List.length_nil, beq_self_eq_true, bne_self_eq_false]; done)) | refine chkC_head (by rfl) ?_ ?_
    | (apply chkc_call; (· simp only [go_sem, hlb, hz, hl0, List.map_nil, List.length_nil, beq_self_eq_true, bne_self_eq_false]; first | done | rfl); (· simp only [go_sem, hlb, hz, hl0, List.map_nil, List.length_nil, beq_self_eq_true, bne_self_eq_false]; first | done | rfl); (· simp only [go_sem, hlb, hz, hl0, List.map_nil, List.length_nil, beq_self_eq_true, bne_self_eq_false]; first | done | rfl))
    | (apply chkc_take; (· simp only [go_sem, hlb, hz, hl0, List.map_nil, List.length_nil, beq_self_eq_true, bne_self_eq_false]); (· simp only [go_sem, hlb, hz, hl0, List.map_nil, List.length_nil, beq_self_eq_true, bne_self_eq_false]; first | done | rfl); (· simp only [go_sem, hlb, hz, hl0, List.map_nil, List.length_nil, beq_self_eq_true, bne_self_eq_false]; first | done | rfl); (· simp only [go_sem, hlb, hz, hl0, List.map_nil, List.length_nil, beq_self_eq_true, bne_self_eq_false]; first | done | rfl))
    | (apply chkc_pass; (· simp only [go_sem, hlb, hz, hl0, List.map_nil, List.length_nil, beq_self_eq_true, bne_self_eq_false]; first | done | rfl); (· rfl); (· simp only [go_sem, hlb, hz, hl0, List.map_nil, List.length_nil, beq_self_eq_true, bne_self_eq_false]; first | done | rfl))
    | (apply chkc_pass0; (· simp only [go_sem, hlb, hz, hl0, List.map_nil, List.length_nil, beq_self_eq_true, bne_self_eq_false]; first | done | rfl); (· simp only [go_sem, hlb, hz, hl0, List.map_nil, List.length_nil, beq_self_eq_true, bne_self_eq_false]; first | done | rfl))
    | (refine all_k ?_; intro kk hkk) | exact hkk
    | (apply cond_t; (· simp only [go_sem, hlb, hz, hl0, List.map_nil, List.length_nil, beq_self_eq_true, bne_self_eq_false])) | (apply cond_f; (· simp only [go_sem, hlb, hz, hl0, List.map_nil, List.length_nil, beq_self_eq_true, bne_self_eq_false]))
    | (apply do_cond; (· simp only [go_sem, hlb, hz, hl0, List.map_nil, List.length_nil, beq_self_eq_true, bne_self_eq_false]; first | done | rfl); all_goals (intro hc; try rw [hc])))
    refine fin_ret (by simp only [aresults, Try.f7, go_sem]; first | done | rfl) ?_
    exact hk _
  · obtain ⟨l, s, rfl⟩ : ∃ l s, A = l ++ [s] := ⟨_, _, (List.dropLast_concat_getLast hn).symm⟩
    have hz : (((l ++ [s]).length : Int) == 0) = false := by simp; omega
    generalize q : belowOf (l ++ [s]) B = q
    repeat' (first
    | refine pick_end ?_ | refine pick_head (by rfl) ?_ | refine pick_one (by rfl) ?_
    | refine do_end ?_ | refine then_n ?_ | refine then_r ?_ | refine then_e ?_ | refine block_n ?_ | refine block_r ?_ | refine block_e ?_ | refine block_o (by decide) ?_
    | refine go_seq ?_ | refine go_region ?_ | refine plan_nil ?_ | refine plan_cons ?_ | refine do_block ?_ | refine do_scope ?_ | refine do_label ?_ | refine do_skip ?_ | refine do_ret ?_ | refine do_exit ?_
    | (apply do_op; (· simp only [go_sem, hlb, hz, beq_self_eq_true, bne_self_eq_false]; first | done | rfl); (· simp only [go_sem]; first | done | rfl))
    | (apply do_take; (· simp only [go_sem, hlb, hz, beq_self_eq_true, bne_self_eq_false]); (· simp only [go_sem, hlb, hz, beq_self_eq_true, bne_self_eq_false]; first | done | rfl); (· simp only [go_sem]; first | done | rfl))
    | (apply do_pass; (· simp only [go_sem, hlb, hz, beq_self_eq_true, bne_self_eq_false]; first | done | rfl); (· rfl); (· simp only [go_sem]; first | done | rfl))
    | (apply do_pass0; (· simp only [go_sem, hlb, hz, beq_self_eq_true, bne_self_eq_false]; first | done | rfl); (· simp only [go_sem]; first | done | rfl))
    | (apply go_call (hC := callMono); (· simp only [go_sem, hlb, hz, beq_self_eq_true, bne_self_eq_false]; first | done | rfl); (· simp only [go_sem, hlb, hz, beq_self_eq_true, bne_self_eq_false]; first | done | rfl))
    | (apply go_call_take (hC := callMono); (· simp only [go_sem, hlb, hz, beq_self_eq_true, bne_self_eq_false]); (· simp only [go_sem, hlb, hz, beq_self_eq_true, bne_self_eq_false]; first | done | rfl); (· simp only [go_sem, hlb, hz, beq_self_eq_true, bne_self_eq_false]; first | done | rfl))
    | (intro fr' hfr; simp only [go_sem, hlb, hz, beq_self_eq_true, bne_self_eq_false] at hfr; subst hfr)
    | refine few_is _ _ _ _ hA _ _ hW (fun na xa => ?_)
    | refine few_is _ _ _ _ hB _ _ hW (fun nb xb => ?_)
    | refine parent_ev _ _ _ _ _ _ hW (by omega) (fun x H1 hW1 hB1 => ?_)
    | refine join_ev _ _ _ _ hW1 (fun G => Strs.lit (by rfl) (by rfl) (by rfl)) (by omega) (by omega) ?_
    | refine rjoin_ev _ _ _ _ (Strs.lit (by rfl) (by rfl) (by rfl)) (by omega) (by omega) ?_
    | refine below_is _ _ _ _ q _ _ Cuts.lit Cuts.lit (by omega) ?_
    | refine rbelow_is _ _ _ _ q _ _ Cuts.lit Cuts.lit (by omega) ?_
    | refine awake_ev _ _ hW1 ?_
    | (apply do_split; (· simp only [go_sem, hlb, hz, beq_self_eq_true, bne_self_eq_false]; first | done | rfl); all_goals (intro hc; rw [hc]))
    | (refine do_drawn ?_ ?_; (· simp only [go_sem, hlb, hz, beq_self_eq_true, bne_self_eq_false]; done))
    | refine do_drawn2 ?_ ?_ ?_ | exact chk_end | exact chkC_end
    | (refine chk_head (by rfl) ?_ ?_; (· simp only [go_sem, hlb, hz, beq_self_eq_true, bne_self_eq_false]; done)) | refine chkC_head (by rfl) ?_ ?_
    | (apply chkc_call; (· simp only [go_sem, hlb, hz, beq_self_eq_true, bne_self_eq_false]; first | done | rfl); (· simp only [go_sem, hlb, hz, beq_self_eq_true, bne_self_eq_false]; first | done | rfl); (· simp only [go_sem, hlb, hz, beq_self_eq_true, bne_self_eq_false]; first | done | rfl))
    | (apply chkc_take; (· simp only [go_sem, hlb, hz, beq_self_eq_true, bne_self_eq_false]); (· simp only [go_sem, hlb, hz, beq_self_eq_true, bne_self_eq_false]; first | done | rfl); (· simp only [go_sem, hlb, hz, beq_self_eq_true, bne_self_eq_false]; first | done | rfl); (· simp only [go_sem, hlb, hz, beq_self_eq_true, bne_self_eq_false]; first | done | rfl))
    | (apply chkc_pass; (· simp only [go_sem, hlb, hz, beq_self_eq_true, bne_self_eq_false]; first | done | rfl); (· rfl); (· simp only [go_sem, hlb, hz, beq_self_eq_true, bne_self_eq_false]; first | done | rfl))
    | (apply chkc_pass0; (· simp only [go_sem, hlb, hz, beq_self_eq_true, bne_self_eq_false]; first | done | rfl); (· simp only [go_sem, hlb, hz, beq_self_eq_true, bne_self_eq_false]; first | done | rfl))
    | (refine all_k ?_; intro kk hkk) | exact hkk
    | (apply cond_t; (· simp only [go_sem, hlb, hz, beq_self_eq_true, bne_self_eq_false])) | (apply cond_f; (· simp only [go_sem, hlb, hz, beq_self_eq_true, bne_self_eq_false]))
    | (apply do_cond; (· simp only [go_sem, hlb, hz, beq_self_eq_true, bne_self_eq_false]; first | done | rfl); all_goals (intro hc; try rw [hc])))
    have hol : (l.map AV.str).length ≤ 12 := by simp at la ⊢; omega
    obtain ⟨x2, H2, hap, hB2⟩ := (hB1.push (.cells [.str s])).append (T := T) (t := 24) (u := 24) (e := 9) (y := .ref true H1.length 0 1 1) (new := [.str s]) (by rfl) (by rfl) (by rfl) (by rfl) (by simp [acells])
      (by simp only [List.length_cons, List.length_nil]; unfold maxLen; omega) (by simp only [List.length_cons, List.length_nil, T_9, ty9]; omega)
    have hB3 : Buf H H2 x2 ((l ++ [s]).map .str) := by simpa using hB2
    repeat' (first
    | refine pick_end ?_ | refine pick_head (by rfl) ?_ | refine pick_one (by rfl) ?_
    | refine do_end ?_ | refine then_n ?_ | refine then_r ?_ | refine then_e ?_ | refine block_n ?_ | refine block_r ?_ | refine block_e ?_ | refine block_o (by decide) ?_
    | refine go_seq ?_ | refine go_region ?_ | refine plan_nil ?_ | refine plan_cons ?_ | refine do_block ?_ | refine do_scope ?_ | refine do_label ?_ | refine do_skip ?_ | refine do_ret ?_ | refine do_exit ?_
    | (apply do_op; (· simp only [go_sem, hlb, hap, beq_self_eq_true]; first | done | rfl); (· simp only [go_sem]; first | done | rfl))
    | (apply do_take; (· simp only [go_sem, hlb, hap, beq_self_eq_true]); (· simp only [go_sem, hlb, hap, beq_self_eq_true]; first | done | rfl); (· simp only [go_sem]; first | done | rfl))
    | (apply do_pass; (· simp only [go_sem, hlb, hap, beq_self_eq_true]; first | done | rfl); (· rfl); (· simp only [go_sem]; first | done | rfl))
    | (apply do_pass0; (· simp only [go_sem, hlb, hap, beq_self_eq_true]; first | done | rfl); (· simp only [go_sem]; first | done | rfl))
    | (apply go_call (hC := callMono); (· simp only [go_sem, hlb, hap, beq_self_eq_true]; first | done | rfl); (· simp only [go_sem, hlb, hap, beq_self_eq_true]; first | done | rfl))
    | (apply go_call_take (hC := callMono); (· simp only [go_sem, hlb, hap, beq_self_eq_true]); (· simp only [go_sem, hlb, hap, beq_self_eq_true]; first | done | rfl); (· simp only [go_sem, hlb, hap, beq_self_eq_true]; first | done | rfl))
    | (intro fr' hfr; simp only [go_sem, hlb, hap, beq_self_eq_true] at hfr; subst hfr)
    | refine same_is _ _ (l ++ [s]) (l ++ [s]) _ _ (Cuts.buf hB3).strs (Strs.lit (by rfl) (by rfl) (by rfl)) (by omega) (v := true) (beq_self_eq_true _) ?_
    | (apply do_split; (· simp only [go_sem, hlb, hap, beq_self_eq_true]; first | done | rfl); all_goals (intro hc; rw [hc]))
    | (refine do_drawn ?_ ?_; (· simp only [go_sem, hlb, hap, beq_self_eq_true]; done))
    | refine do_drawn2 ?_ ?_ ?_ | exact chk_end | exact chkC_end
    | (refine chk_head (by rfl) ?_ ?_; (· simp only [go_sem, hlb, hap, beq_self_eq_true]; done)) | refine chkC_head (by rfl) ?_ ?_
    | (apply chkc_call; (· simp only [go_sem, hlb, hap, beq_self_eq_true]; first | done | rfl); (· simp only [go_sem, hlb, hap, beq_self_eq_true]; first | done | rfl); (· simp only [go_sem, hlb, hap, beq_self_eq_true]; first | done | rfl))
    | (apply chkc_take; (· simp only [go_sem, hlb, hap, beq_self_eq_true]); (· simp only [go_sem, hlb, hap, beq_self_eq_true]; first | done | rfl); (· simp only [go_sem, hlb, hap, beq_self_eq_true]; first | done | rfl); (· simp only [go_sem, hlb, hap, beq_self_eq_true]; first | done | rfl))
    | (apply chkc_pass; (· simp only [go_sem, hlb, hap, beq_self_eq_true]; first | done | rfl); (· rfl); (· simp only [go_sem, hlb, hap, beq_self_eq_true]; first | done | rfl))
    | (apply chkc_pass0; (· simp only [go_sem, hlb, hap, beq_self_eq_true]; first | done | rfl); (· simp only [go_sem, hlb, hap, beq_self_eq_true]; first | done | rfl))
    | (refine all_k ?_; intro kk hkk) | exact hkk
    | (apply cond_t; (· simp only [go_sem, hlb, hap, beq_self_eq_true])) | (apply cond_f; (· simp only [go_sem, hlb, hap, beq_self_eq_true]))
    | (apply do_cond; (· simp only [go_sem, hlb, hap, beq_self_eq_true]; first | done | rfl); all_goals (intro hc; try rw [hc])))
    refine fin_ret (by simp only [aresults, Try.f7, go_sem]; first | done | rfl) ?_
    exact hk _
end Go.Proofs.Ytecjmbglnkpnnaa
