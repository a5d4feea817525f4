import Derived.Test.YtecjmbglnkpnnaaEvD
namespace Go.Proofs.Ytecjmbglnkpnnaa
open Go.Abs
attribute [local irreducible] ev evList evOp evRes EvCall VS aop FnEnd AX.then AX.inBlock abuiltin aindexAddr aload aconvert astore aslice aindex
attribute [local go_sem] T_3 T_4 T_5 T_9 T_24 T_25 T_38 ty3 ty4 ty5 ty9 ty24 ty25 ty38
set_option linter.unusedSimpArgs false

def splitGo (s : List UInt8) : Nat → Nat → Nat → List (List UInt8) → Option (List (List UInt8))
  | 0, _, _, out => some out
  | d + 1, i, frm, out => if i < s.length ∧ s[i]? ≠ some 47 then splitGo s d (i + 1) frm out
    else if nameOf ((s.take i).drop frm) = true then splitGo s d (i + 1) (i + 1) (out ++ [(s.take i).drop frm]) else none
def splitOf (s : List UInt8) : List (List UInt8) × Int :=
  match s with
  | [] => ([], 2)
  | b :: r => if b ≠ 47 then ([], 2) else if r = [] then ([], 0) else match splitGo s s.length 1 1 [] with
    | none => ([], 15)
    | some out => if out.length > 6 then ([], 16) else (out, 0)

theorem byte_eq {b : UInt8} : ((b.toNat : Int) != 47) = !(b == 47) := by
  by_cases h : b = 47
  · subst h; rfl
  · have h1 : b.toNat ≠ 47 := fun e => h (UInt8.toNat_inj.1 e)
    have h2 : (b.toNat : Int) ≠ 47 := by omega
    rw [beq_false_of_ne h, bne_iff_ne.2 h2]
    rfl

set_option maxRecDepth 10000 in
theorem split_ev (s : List UInt8) (H : AH) (k : AV → AH → Prop) (hW : WF H) (hs : s.length < 2 ^ 40)
    (hk : ∀ nl ex, k (.tup [.lit nl ex ((splitOf s).1.map .str) (splitOf s).1.length, .int .i64 (splitOf s).2]) H) : EvCall Try.prog T G0 11 [.str s] H k := by
  have b1 : aload T (H ++ [.cells [.str s]]) 9 (.ptr H.length 0) = some (.str s) := load1 (by simp) (by rfl) (by rfl)
  have hempty : ∀ (G : AH) (c : Int), splitOf s = ([], c) → ∃ r' H'', VS H.length [.tup [.lit true true [] 0, .int .i64 c]] (H ++ G) [r'] H'' ∧ k r' H'' := fun G c hc =>
    ⟨_, _, VS.drop (Nat.le_refl _) hW (by rfl), by have := hk true true; rw [hc] at this; exact this⟩
  refine call_go (Try.func11) rfl (by decide) (by simp only [Try.ntmps11, List.length_cons, List.length_nil, Nat.reduceAdd, Nat.reduceSub, List.replicate, List.cons_append, List.nil_append]; rfl) ?_
  cases s with
  | nil =>
    have he0 : (([] : List UInt8) == []) = true := rfl
    repeat' (first
    | refine do_end ?_ | refine then_n ?_ | refine then_r ?_ | refine then_e ?_ | refine block_n ?_ | refine block_r ?_ | refine block_e ?_ | refine block_o (by decide) ?_
    | refine go_seq ?_ | refine go_region ?_ | refine go_draw (by rfl) ?_ | refine do_block ?_ | refine do_scope ?_ | refine do_label ?_ | refine do_skip ?_ | refine do_ret ?_ | refine do_exit ?_
    | (apply do_op; (· simp only [go_sem, b1, he0]; first | done | rfl); (· simp only [go_sem]; first | done | rfl))
    | (apply do_take; (· simp only [go_sem, b1, he0]); (· simp only [go_sem, b1, he0]; first | done | rfl); (· simp only [go_sem]; first | done | rfl))
    | (apply do_pass; (· simp only [go_sem, b1, he0]; first | done | rfl); (· rfl); (· simp only [go_sem]; first | done | rfl))
    | (apply do_pass0; (· simp only [go_sem, b1, he0]; first | done | rfl); (· simp only [go_sem]; first | done | rfl))
    | (apply do_split; (· simp only [go_sem, b1, he0]; first | done | rfl); all_goals (intro hc; rw [hc]))
    | (refine do_drawn ?_ ?_; (· simp only [go_sem, b1, he0]; done))
    | (apply cond_t; (· simp only [go_sem, b1, he0])) | (apply cond_f; (· simp only [go_sem, b1, he0]))
    | (apply do_cond; (· simp only [go_sem, b1, he0]; first | done | rfl); all_goals (intro hc; try rw [hc])))
    obtain ⟨r', H'', hv, hr⟩ := hempty _ 2 rfl
    exact fin_vs (by simp only [aresults, Try.f11, go_sem]; first | done | rfl) hv hr
  | cons b r =>
    have hx : aindex T 9 (.str (b :: r)) (.int .i64 0) = some (.int .u8 b.toNat) := index_str (by rfl) (by omega) (by rfl)
    have he : ((b :: r) == ([] : List UInt8)) = false := rfl
    have st0 : astore T (H ++ [AB.cells [AV.str (b :: r)]] ++ [AB.cells [AV.lit true true [] 0]] ++ [AB.cells [AV.int .i64 0]]) 3 (.ptr (H ++ [AB.cells [AV.str (b :: r)]] ++ [AB.cells [AV.lit true true [] 0]]).length 0) (.int .i64 1) =
        some ((H ++ [AB.cells [AV.str (b :: r)]] ++ [AB.cells [AV.lit true true [] 0]] ++ [AB.cells [AV.int .i64 0]]).set (H ++ [AB.cells [AV.str (b :: r)]] ++ [AB.cells [AV.lit true true [] 0]]).length (.cells [.int .i64 1])) := store1 (w := .int .i64 0) (by simp) (by rfl) (by rfl) (by rfl)
    repeat' (first
    | refine do_end ?_ | refine then_n ?_ | refine then_r ?_ | refine then_e ?_ | refine block_n ?_ | refine block_r ?_ | refine block_e ?_ | refine block_o (by decide) ?_
    | refine go_seq ?_ | refine go_region ?_ | refine go_draw (by rfl) ?_ | refine do_block ?_ | refine do_scope ?_ | refine do_label ?_ | refine do_skip ?_ | refine do_ret ?_ | refine do_exit ?_
    | (apply do_op; (· simp only [go_sem, b1, hx, he, byte_eq, st0]; first | done | rfl); (· simp only [go_sem]; first | done | rfl))
    | (apply do_take; (· simp only [go_sem, b1, hx, he, byte_eq, st0]); (· simp only [go_sem, b1, hx, he, byte_eq, st0]; first | done | rfl); (· simp only [go_sem]; first | done | rfl))
    | (apply do_pass; (· simp only [go_sem, b1, hx, he, byte_eq, st0]; first | done | rfl); (· rfl); (· simp only [go_sem]; first | done | rfl))
    | (apply do_pass0; (· simp only [go_sem, b1, hx, he, byte_eq, st0]; first | done | rfl); (· simp only [go_sem]; first | done | rfl))
    | (apply do_split; (· simp only [go_sem, b1, hx, he, byte_eq, st0]; first | done | rfl); all_goals (intro hc; rw [hc]))
    | (refine do_drawn ?_ ?_; (· simp only [go_sem, b1, hx, he, byte_eq, st0]; done))
    | (apply cond_t; (· simp only [go_sem, b1, hx, he, byte_eq, st0])) | (apply cond_f; (· simp only [go_sem, b1, hx, he, byte_eq, st0]))
    | (apply do_cond; (· simp only [go_sem, b1, hx, he, byte_eq, st0]; first | done | rfl); all_goals (intro hc; try rw [hc])))
    · obtain ⟨r', H'', hv, hr⟩ := hempty _ 2 (by simp at hc; simp [splitOf, hc])
      exact fin_vs (by simp only [aresults, Try.f11, go_sem]; first | done | rfl) hv hr
    · obtain ⟨r', H'', hv, hr⟩ := hempty _ 0 (by simp at hc; simp [splitOf, hc])
      exact fin_vs (by simp only [aresults, Try.f11, go_sem]; first | done | rfl) hv hr
    rename_i hb47
    have hb : b = 47 := by simpa using hb47
    have hr : r ≠ [] := fun e => by subst hb e; simp at hc
    have hsp : splitOf (b :: r) = match splitGo (b :: r) (b :: r).length 1 1 [] with
        | none => ([], 15)
        | some out => if out.length > 6 then ([], 16) else (out, 0) := by simp [splitOf, hb, hr]
    clear hb47 hc hx he b1 st0
    subst hb
    generalize hsr : (47 :: r : List UInt8) = s at *
    have hlen : 1 ≤ s.length := by rw [← hsr]; simp
    refine loop_ind (fun d fr H' => ∃ (i frm : Nat) (out : List (List UInt8)) (x : AV), (∃ j : Nat → AV, fr = [j 0, .ptr H.length 0, j 2, j 3, .ptr (H ++ [AB.cells [AV.str s]]).length 0, .ptr (H ++ [AB.cells [AV.str s]] ++ [AB.cells [AV.lit true true [] 0]]).length 0, .fn 21 [] [.ptr H.length 0, .ptr (H ++ [AB.cells [AV.str s]] ++ [AB.cells [AV.lit true true [] 0]]).length 0, .ptr (H ++ [AB.cells [AV.str s]]).length 0], .int .i64 i, j 8, j 9, j 10, j 11, j 12, j 13, j 14, j 15, j 16, j 17, j 18, j 19, j 20, j 21, j 22, j 23, j 24, j 25, j 26, j 27, j 28, j 29, j 30, j 31, j 32, j 33, j 34, j 35, j 36, j 37, j 38, j 39, j 40, j 41, j 42, j 43]) ∧
        Buf (H ++ [.cells [.str s], .cells [x], .cells [.int .i64 frm]]) H' x (out.map .str) ∧ frm ≤ i ∧ 1 ≤ i ∧ i + d = s.length + 1 ∧ out.length ≤ i ∧ splitGo s d i frm out = splitGo s s.length 1 1 []) ?_ s.length _ _
      ⟨1, 1, [], .lit true true [] 0, junk rfl, ?_, by omega, by omega, by omega, by simp, rfl⟩
    rotate_left
    · refine ⟨⟨[], by simp [List.set_append]⟩, .inl ⟨true, rfl, rfl⟩⟩
    rintro d fr H' ⟨i, frm, out, x, ⟨j, rfl⟩, hB, hfi, hi1, hid, hout, hgo⟩
    have hP1 : (H ++ [AB.cells [.str s], .cells [x], .cells [.int .i64 frm]])[H.length]? = some (.cells [.str s]) := by simp
    have hP2 : (H ++ [AB.cells [.str s], .cells [x], .cells [.int .i64 frm]])[(H ++ [AB.cells [AV.str s]] ++ [AB.cells [AV.lit true true [] 0]]).length]? = some (.cells [.int .i64 frm]) := by simp
    have hP3 : (H ++ [AB.cells [.str s], .cells [x], .cells [.int .i64 frm]])[(H ++ [AB.cells [AV.str s]]).length]? = some (.cells [x]) := by simp
    have c1 : aload T H' 9 (.ptr H.length 0) = some (.str s) := load1 (hB.get hP1) (by rfl) (by rfl)
    have c2 : aload T H' 24 (.ptr (H ++ [AB.cells [AV.str s]]).length 0) = some x := load1 (hB.get hP3) (by rfl) (by rfl)
    have c3 : abuiltin T H' .len #[24] [x] = some (.int .i64 out.length, H') := by
      have := hB.len (T := T) (t := 24) (e := 9) (by rfl)
      rwa [List.length_map] at this
    cases d with
    | zero =>
      have hlt : decide ((i : Int) ≤ s.length) = false := by simp; omega
      rw [← hgo] at hsp
      repeat' (first
    | refine do_end ?_ | refine then_n ?_ | refine then_r ?_ | refine then_e ?_ | refine block_n ?_ | refine block_r ?_ | refine block_e ?_ | refine block_o (by decide) ?_
    | refine go_seq ?_ | refine go_region ?_ | refine go_draw (by rfl) ?_ | refine do_block ?_ | refine do_scope ?_ | refine do_label ?_ | refine do_skip ?_ | refine do_ret ?_ | refine do_exit ?_
    | (apply do_op; (· simp only [go_sem, hlt, c1, c2, c3]; first | done | rfl); (· simp only [go_sem]; first | done | rfl))
    | (apply do_take; (· simp only [go_sem, hlt, c1, c2, c3]); (· simp only [go_sem, hlt, c1, c2, c3]; first | done | rfl); (· simp only [go_sem]; first | done | rfl))
    | (apply do_pass; (· simp only [go_sem, hlt, c1, c2, c3]; first | done | rfl); (· rfl); (· simp only [go_sem]; first | done | rfl))
    | (apply do_pass0; (· simp only [go_sem, hlt, c1, c2, c3]; first | done | rfl); (· simp only [go_sem]; first | done | rfl))
    | (apply do_split; (· simp only [go_sem, hlt, c1, c2, c3]; first | done | rfl); all_goals (intro hc; rw [hc]))
    | (refine do_drawn ?_ ?_; (· simp only [go_sem, hlt, c1, c2, c3]; done))
    | (apply cond_t; (· simp only [go_sem, hlt, c1, c2, c3])) | (apply cond_f; (· simp only [go_sem, hlt, c1, c2, c3]))
    | (apply do_cond; (· simp only [go_sem, hlt, c1, c2, c3]; first | done | rfl); all_goals (intro hc; try rw [hc])))
      · obtain ⟨G, rfl⟩ := hB.less.ext
        obtain ⟨r', H'', hv, hr⟩ := hempty G 16 (by rw [hsp]; simp [splitGo]; simp at hc; omega)
        exact fin_vs (by simp only [aresults, Try.f11, go_sem]; first | done | rfl) hv hr
      · obtain ⟨nl, ex, hv⟩ := hB.less.ret hW lows_str
        refine fin_vs (by simp only [aresults, Try.f11, go_sem]; first | done | rfl) (VS.tup (VS.flat (by rfl) hv)) ?_
        have : splitOf s = (out, 0) := by rw [hsp]; simp [splitGo]; simp at hc; omega
        have hk1 := hk nl ex
        rw [this] at hk1
        simpa using hk1
    | succ d =>
      have hle : decide ((i : Int) ≤ s.length) = true := by simp; omega
      have hw : IntKind.i64.wrap ((i : Int) + 1) = ((i + 1 : Nat) : Int) := wrap_succ (by omega)
      have hset1 : (H ++ [AB.cells [.str s], .cells [x], .cells [.int .i64 frm]]).set (H ++ [AB.cells [AV.str s]] ++ [AB.cells [AV.lit true true [] 0]]).length (.cells [.int .i64 (i + 1 : Nat)]) = H ++ [.cells [.str s], .cells [x], .cells [.int .i64 (i + 1 : Nat)]] := by simp [List.set_append]
      have hset2 : ∀ x2, ((H ++ [AB.cells [.str s], .cells [x], .cells [.int .i64 frm]]).set (H ++ [AB.cells [AV.str s]] ++ [AB.cells [AV.lit true true [] 0]]).length (.cells [.int .i64 (i + 1 : Nat)])).set (H ++ [AB.cells [AV.str s]]).length (.cells [x2]) = H ++ [.cells [.str s], .cells [x2], .cells [.int .i64 (i + 1 : Nat)]] := by simp [List.set_append]
      rcases Nat.lt_or_ge i s.length with hil | hil
      · have hlt : decide ((i : Int) < s.length) = true := by simp; omega
        obtain ⟨b, hb⟩ : ∃ b, s[i]? = some b := ⟨s[i]'(by omega), List.getElem?_eq_getElem (by omega)⟩
        have hx : aindex T 9 (.str s) (.int .i64 i) = some (.int .u8 b.toNat) := index_str (by rfl) (by omega) (by simpa using hb)
        by_cases hb47 : b = 47
        · have hbt : (b == 47) = true := by simp [hb47]
          have hcond : ¬(i < s.length ∧ s[i]? ≠ some 47) := by rw [hb, hb47]; simp
          repeat' (first
    | refine do_end ?_ | refine then_n ?_ | refine then_r ?_ | refine then_e ?_ | refine block_n ?_ | refine block_r ?_ | refine block_e ?_ | refine block_o (by decide) ?_
    | refine go_seq ?_ | refine go_region ?_ | refine go_draw (by rfl) ?_ | refine do_block ?_ | refine do_scope ?_ | refine do_label ?_ | refine do_skip ?_ | refine do_ret ?_ | refine do_exit ?_
    | (apply do_op; (· simp only [go_sem, hle, hlt, hw, c1, c2, hx, byte_eq, hbt]; first | done | rfl); (· simp only [go_sem]; first | done | rfl))
    | (apply do_take; (· simp only [go_sem, hle, hlt, hw, c1, c2, hx, byte_eq, hbt]); (· simp only [go_sem, hle, hlt, hw, c1, c2, hx, byte_eq, hbt]; first | done | rfl); (· simp only [go_sem]; first | done | rfl))
    | (apply do_pass; (· simp only [go_sem, hle, hlt, hw, c1, c2, hx, byte_eq, hbt]; first | done | rfl); (· rfl); (· simp only [go_sem]; first | done | rfl))
    | (apply do_pass0; (· simp only [go_sem, hle, hlt, hw, c1, c2, hx, byte_eq, hbt]; first | done | rfl); (· simp only [go_sem]; first | done | rfl))
    | (apply go_call (hC := callMono); (· simp only [go_sem, hle, hlt, hw, c1, c2, hx, byte_eq, hbt]; first | done | rfl); (· simp only [go_sem, hle, hlt, hw, c1, c2, hx, byte_eq, hbt]; first | done | rfl))
    | (apply go_call_take (hC := callMono); (· simp only [go_sem, hle, hlt, hw, c1, c2, hx, byte_eq, hbt]); (· simp only [go_sem, hle, hlt, hw, c1, c2, hx, byte_eq, hbt]; first | done | rfl); (· simp only [go_sem, hle, hlt, hw, c1, c2, hx, byte_eq, hbt]; first | done | rfl))
    | (intro fr' hfr; simp only [go_sem, hle, hlt, hw, c1, c2, hx, byte_eq, hbt] at hfr; subst hfr)
    | refine split1_ev (H ++ [.cells [.str s], .cells [x], .cells [.int .i64 frm]]) i frm s _ _ _ x out _ _ hB hP1 hP2 hP3 (by simp) (by simp) hfi (by omega) hs (by omega) (fun hnm H1 hB1 => ?_) (fun hnm x2 H2 hB2 => ?_)
    | (apply do_split; (· simp only [go_sem, hle, hlt, hw, c1, c2, hx, byte_eq, hbt]; first | done | rfl); all_goals (intro hc; rw [hc]))
    | (refine do_drawn ?_ ?_; (· simp only [go_sem, hle, hlt, hw, c1, c2, hx, byte_eq, hbt]; done))
    | (apply cond_t; (· simp only [go_sem, hle, hlt, hw, c1, c2, hx, byte_eq, hbt])) | (apply cond_f; (· simp only [go_sem, hle, hlt, hw, c1, c2, hx, byte_eq, hbt]))
    | (apply do_cond; (· simp only [go_sem, hle, hlt, hw, c1, c2, hx, byte_eq, hbt]; first | done | rfl); all_goals (intro hc; try rw [hc])))
          · rw [hset1] at hB1
            obtain ⟨G, rfl⟩ := hB1.less.ext
            obtain ⟨r', H'', hv, hr⟩ := hempty G 15 (by rw [hsp, ← hgo, splitGo, if_neg hcond, if_neg (by simp [hnm])])
            exact fin_vs (by simp only [aresults, Try.f11, go_sem]; first | done | rfl) hv hr
          · rw [hset2] at hB2
            refine ⟨d, Nat.lt_succ_self d, i + 1, i + 1, _, x2, junk rfl, hB2, by omega, by omega, by omega, by simp; omega, ?_⟩
            rw [← hgo, splitGo, if_neg hcond, if_pos hnm]

        · have hbt : (b == 47) = false := by simp [hb47]
          repeat' (first
    | refine do_end ?_ | refine then_n ?_ | refine then_r ?_ | refine then_e ?_ | refine block_n ?_ | refine block_r ?_ | refine block_e ?_ | refine block_o (by decide) ?_
    | refine go_seq ?_ | refine go_region ?_ | refine go_draw (by rfl) ?_ | refine do_block ?_ | refine do_scope ?_ | refine do_label ?_ | refine do_skip ?_ | refine do_ret ?_ | refine do_exit ?_
    | (apply do_op; (· simp only [go_sem, hle, hlt, hw, c1, c2, hx, byte_eq, hbt]; first | done | rfl); (· simp only [go_sem]; first | done | rfl))
    | (apply do_take; (· simp only [go_sem, hle, hlt, hw, c1, c2, hx, byte_eq, hbt]); (· simp only [go_sem, hle, hlt, hw, c1, c2, hx, byte_eq, hbt]; first | done | rfl); (· simp only [go_sem]; first | done | rfl))
    | (apply do_pass; (· simp only [go_sem, hle, hlt, hw, c1, c2, hx, byte_eq, hbt]; first | done | rfl); (· rfl); (· simp only [go_sem]; first | done | rfl))
    | (apply do_pass0; (· simp only [go_sem, hle, hlt, hw, c1, c2, hx, byte_eq, hbt]; first | done | rfl); (· simp only [go_sem]; first | done | rfl))
    | (apply do_split; (· simp only [go_sem, hle, hlt, hw, c1, c2, hx, byte_eq, hbt]; first | done | rfl); all_goals (intro hc; rw [hc]))
    | (refine do_drawn ?_ ?_; (· simp only [go_sem, hle, hlt, hw, c1, c2, hx, byte_eq, hbt]; done))
    | (apply cond_t; (· simp only [go_sem, hle, hlt, hw, c1, c2, hx, byte_eq, hbt])) | (apply cond_f; (· simp only [go_sem, hle, hlt, hw, c1, c2, hx, byte_eq, hbt]))
    | (apply do_cond; (· simp only [go_sem, hle, hlt, hw, c1, c2, hx, byte_eq, hbt]; first | done | rfl); all_goals (intro hc; try rw [hc])))
          refine ⟨d, Nat.lt_succ_self d, i + 1, frm, out, x, junk rfl, hB, by omega, by omega, by omega, by omega, ?_⟩
          rw [← hgo, splitGo, if_pos ⟨hil, by rw [hb]; simp [hb47]⟩]
      · have hlt : decide ((i : Int) < s.length) = false := by simp; omega
        have hcond : ¬(i < s.length ∧ s[i]? ≠ some 47) := fun h => by omega
        repeat' (first
    | refine do_end ?_ | refine then_n ?_ | refine then_r ?_ | refine then_e ?_ | refine block_n ?_ | refine block_r ?_ | refine block_e ?_ | refine block_o (by decide) ?_
    | refine go_seq ?_ | refine go_region ?_ | refine go_draw (by rfl) ?_ | refine do_block ?_ | refine do_scope ?_ | refine do_label ?_ | refine do_skip ?_ | refine do_ret ?_ | refine do_exit ?_
    | (apply do_op; (· simp only [go_sem, hle, hlt, hw, c1, c2]; first | done | rfl); (· simp only [go_sem]; first | done | rfl))
    | (apply do_take; (· simp only [go_sem, hle, hlt, hw, c1, c2]); (· simp only [go_sem, hle, hlt, hw, c1, c2]; first | done | rfl); (· simp only [go_sem]; first | done | rfl))
    | (apply do_pass; (· simp only [go_sem, hle, hlt, hw, c1, c2]; first | done | rfl); (· rfl); (· simp only [go_sem]; first | done | rfl))
    | (apply do_pass0; (· simp only [go_sem, hle, hlt, hw, c1, c2]; first | done | rfl); (· simp only [go_sem]; first | done | rfl))
    | (apply go_call (hC := callMono); (· simp only [go_sem, hle, hlt, hw, c1, c2]; first | done | rfl); (· simp only [go_sem, hle, hlt, hw, c1, c2]; first | done | rfl))
    | (apply go_call_take (hC := callMono); (· simp only [go_sem, hle, hlt, hw, c1, c2]); (· simp only [go_sem, hle, hlt, hw, c1, c2]; first | done | rfl); (· simp only [go_sem, hle, hlt, hw, c1, c2]; first | done | rfl))
    | (intro fr' hfr; simp only [go_sem, hle, hlt, hw, c1, c2] at hfr; subst hfr)
    | refine split1_ev (H ++ [.cells [.str s], .cells [x], .cells [.int .i64 frm]]) i frm s _ _ _ x out _ _ hB hP1 hP2 hP3 (by simp) (by simp) hfi (by omega) hs (by omega) (fun hnm H1 hB1 => ?_) (fun hnm x2 H2 hB2 => ?_)
    | (apply do_split; (· simp only [go_sem, hle, hlt, hw, c1, c2]; first | done | rfl); all_goals (intro hc; rw [hc]))
    | (refine do_drawn ?_ ?_; (· simp only [go_sem, hle, hlt, hw, c1, c2]; done))
    | (apply cond_t; (· simp only [go_sem, hle, hlt, hw, c1, c2])) | (apply cond_f; (· simp only [go_sem, hle, hlt, hw, c1, c2]))
    | (apply do_cond; (· simp only [go_sem, hle, hlt, hw, c1, c2]; first | done | rfl); all_goals (intro hc; try rw [hc])))
        · rw [hset1] at hB1
          obtain ⟨G, rfl⟩ := hB1.less.ext
          obtain ⟨r', H'', hv, hr⟩ := hempty G 15 (by rw [hsp, ← hgo, splitGo, if_neg hcond, if_neg (by simp [hnm])])
          exact fin_vs (by simp only [aresults, Try.f11, go_sem]; first | done | rfl) hv hr
        · rw [hset2] at hB2
          refine ⟨d, Nat.lt_succ_self d, i + 1, i + 1, _, x2, junk rfl, hB2, by omega, by omega, by omega, by simp; omega, ?_⟩
          rw [← hgo, splitGo, if_neg hcond, if_pos hnm]

end Go.Proofs.Ytecjmbglnkpnnaa
