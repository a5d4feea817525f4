/- The path seat of the affidavit module: the reference split and the law PathSplits, walked: for every string. -/
import Derived.Test.YtecjmbglnkpnnaaEvG
namespace Go.Proofs.Ytecjmbglnkpnnaa
open Go.Abs
attribute [local irreducible] ev evList evOp evRes EvCall VS aop FnEnd AX.then AX.inBlock abuiltin aindexAddr aload aconvert astore aslice aindex
attribute [local go_sem] T_3 T_4 T_5 T_9 T_24 T_25 T_38 ty3 ty4 ty5 ty9 ty24 ty25 ty38
set_option linter.unusedSimpArgs false
set_option linter.unusedVariables false

theorem byte_is {b : UInt8} : ((b.toNat : Int) == 47) = (b == 47) := by
  have h := byte_eq (b := b)
  rw [bne, Bool.not_eq_eq_eq_not] at h
  rw [h, Bool.not_not]

set_option maxRecDepth 10000 in
theorem parts_ev (s : List UInt8) (H : AH) (k : AV → AH → Prop) (hW : WF H) (hs : s.length < 2 ^ 40) (hk : ∀ nl ex, k (.lit nl ex ((partsGo s [] []).map .str) (partsGo s [] []).length) H) : EvCall Try.prog T G0 22 [.str s] H k := by
  refine call_go (Try.func22) rfl (by decide) (by simp only [Try.ntmps22, List.length_cons, List.length_nil, Nat.reduceAdd, Nat.reduceSub, List.replicate, List.cons_append, List.nil_append]; rfl) ?_
  repeat' (first
    | refine do_end ?_ | refine then_n ?_ | refine then_r ?_ | refine then_e ?_ | refine block_n ?_ | refine block_r ?_ | refine block_e ?_ | refine block_o (by decide) ?_
    | refine go_seq ?_ | refine go_region ?_ | refine go_draw (by rfl) ?_ | refine do_block ?_ | refine do_scope ?_ | refine do_label ?_ | refine do_skip ?_ | refine do_ret ?_ | refine do_exit ?_
    | (apply do_op; (· simp only [go_sem]; first | done | rfl); (· simp only [go_sem]; first | done | rfl))
    | (apply do_take; (· simp only [go_sem]); (· simp only [go_sem]; first | done | rfl); (· simp only [go_sem]; first | done | rfl))
    | (apply do_pass; (· simp only [go_sem]; first | done | rfl); (· rfl); (· simp only [go_sem]; first | done | rfl))
    | (apply do_pass0; (· simp only [go_sem]; first | done | rfl); (· simp only [go_sem]; first | done | rfl))
    | (apply do_split; (· simp only [go_sem]; first | done | rfl); all_goals (intro hc; rw [hc]))
    | (refine do_drawn ?_ ?_; (· simp only [go_sem]; done))
    | (apply cond_t; (· simp only [go_sem])) | (apply cond_f; (· simp only [go_sem]))
    | (apply do_cond; (· simp only [go_sem]; first | done | rfl); all_goals (intro hc; try rw [hc])))
  refine loop_ind (fun d fr H' => ∃ (i : Nat) (x : AV) (out : List (List UInt8)) (cur : List UInt8), (∃ j : Nat → AV, fr = [.str s, j 1, j 2, x, .str cur, .int .i64 i, j 6, j 7, j 8, j 9, j 10, j 11, j 12, j 13, j 14, j 15, j 16, j 17, j 18, j 19, j 20, j 21, j 22, j 23, j 24, j 25, j 26, j 27, j 28, j 29, j 30]) ∧ Buf H H' x (out.map .str) ∧ i + d = s.length ∧ out.length ≤ i ∧ cur.length ≤ i ∧ partsGo (s.drop i) out cur = partsGo s [] []) ?_ s.length _ _
    ⟨0, _, [], [], junk rfl, Buf.nil, by omega, by simp, by simp, by simp⟩
  rintro d fr H' ⟨i, x, out, cur, ⟨j, rfl⟩, hB, hi, hout, hcur, hp⟩
  have hol : (out.map AV.str).length = out.length := by simp
  obtain ⟨x2, H2, ha, hB2⟩ := (hB.push (.cells [.str cur])).append (T := T) (t := 24) (u := 24) (e := 9) (y := .ref true H'.length 0 1 1) (new := [.str cur]) (by rfl) (by rfl) (by rfl) (by rfl) (by simp [acells])
    (by simp only [hol, List.length_cons, List.length_nil]; unfold maxLen; omega) (by simp only [hol, List.length_cons, List.length_nil, T_9, ty9]; omega)
  have hB3 : Buf H H2 x2 ((out ++ [cur]).map .str) := by simpa using hB2
  cases d with
  | zero =>
    have hlt : decide ((i : Int) < s.length) = false := by simp; omega
    repeat' (first
    | refine do_end ?_ | refine then_n ?_ | refine then_r ?_ | refine then_e ?_ | refine block_n ?_ | refine block_r ?_ | refine block_e ?_ | refine block_o (by decide) ?_
    | refine go_seq ?_ | refine go_region ?_ | refine go_draw (by rfl) ?_ | refine do_block ?_ | refine do_scope ?_ | refine do_label ?_ | refine do_skip ?_ | refine do_ret ?_ | refine do_exit ?_
    | (apply do_op; (· simp only [go_sem, hlt, ha]; first | done | rfl); (· simp only [go_sem]; first | done | rfl))
    | (apply do_take; (· simp only [go_sem, hlt, ha]); (· simp only [go_sem, hlt, ha]; first | done | rfl); (· simp only [go_sem]; first | done | rfl))
    | (apply do_pass; (· simp only [go_sem, hlt, ha]; first | done | rfl); (· rfl); (· simp only [go_sem]; first | done | rfl))
    | (apply do_pass0; (· simp only [go_sem, hlt, ha]; first | done | rfl); (· simp only [go_sem]; first | done | rfl))
    | (apply do_split; (· simp only [go_sem, hlt, ha]; first | done | rfl); all_goals (intro hc; rw [hc]))
    | (refine do_drawn ?_ ?_; (· simp only [go_sem, hlt, ha]; done))
    | (apply cond_t; (· simp only [go_sem, hlt, ha])) | (apply cond_f; (· simp only [go_sem, hlt, ha]))
    | (apply do_cond; (· simp only [go_sem, hlt, ha]; first | done | rfl); all_goals (intro hc; try rw [hc])))
    have hdrop : s.drop i = [] := List.drop_eq_nil_of_le (by omega)
    rw [hdrop, partsGo] at hp
    rw [hp] at hB3
    obtain ⟨nl, ex, hv⟩ := hB3.ret hW lows_str
    refine fin_vs (by simp only [aresults, Try.f22, go_sem]; first | done | rfl) hv ?_
    simpa using hk nl ex
  | succ d =>
    have hlt : decide ((i : Int) < s.length) = true := by simp; omega
    obtain ⟨b, hb⟩ : ∃ b, s[i]? = some b := ⟨s[i]'(by omega), List.getElem?_eq_getElem (by omega)⟩
    have hx : aindex T 9 (.str s) (.int .i64 i) = some (.int .u8 b.toNat) := index_str (by rfl) (by omega) (by simpa using hb)
    have hw : IntKind.i64.wrap ((i : Int) + 1) = ((i + 1 : Nat) : Int) := wrap_succ (by omega)
    have hdrop : s.drop i = b :: s.drop (i + 1) := by
      rw [List.drop_eq_getElem_cons (by omega)]
      rw [List.getElem?_eq_getElem (by omega)] at hb
      cases hb
      rfl
    have hsl : aslice T H' 9 (.str s) (some (.int .i64 i)) (some (.int .i64 (i + 1 : Nat))) none = some (.str [b]) := by
      rw [slice_str (Nat.le_succ i) (by omega)]
      rw [List.take_add_one, hb, List.drop_append_of_le_length (by simp; omega)]
      simp
    have hsa : abin T .add 9 (.str cur) (.str [b]) = some (.str (cur ++ [b])) := bin_sadd (by simp; omega)
    rw [hdrop] at hp
    repeat' (first
    | refine do_end ?_ | refine then_n ?_ | refine then_r ?_ | refine then_e ?_ | refine block_n ?_ | refine block_r ?_ | refine block_e ?_ | refine block_o (by decide) ?_
    | refine go_seq ?_ | refine go_region ?_ | refine go_draw (by rfl) ?_ | refine do_block ?_ | refine do_scope ?_ | refine do_label ?_ | refine do_skip ?_ | refine do_ret ?_ | refine do_exit ?_
    | (apply do_op; (· simp only [go_sem, hlt, hw, hx, byte_is, ha, hsl, hsa]; first | done | rfl); (· simp only [go_sem]; first | done | rfl))
    | (apply do_take; (· simp only [go_sem, hlt, hw, hx, byte_is, ha, hsl, hsa]); (· simp only [go_sem, hlt, hw, hx, byte_is, ha, hsl, hsa]; first | done | rfl); (· simp only [go_sem]; first | done | rfl))
    | (apply do_pass; (· simp only [go_sem, hlt, hw, hx, byte_is, ha, hsl, hsa]; first | done | rfl); (· rfl); (· simp only [go_sem]; first | done | rfl))
    | (apply do_pass0; (· simp only [go_sem, hlt, hw, hx, byte_is, ha, hsl, hsa]; first | done | rfl); (· simp only [go_sem]; first | done | rfl))
    | (apply do_split; (· simp only [go_sem, hlt, hw, hx, byte_is, ha, hsl, hsa]; first | done | rfl); all_goals (intro hc; rw [hc]))
    | (refine do_drawn ?_ ?_; (· simp only [go_sem, hlt, hw, hx, byte_is, ha, hsl, hsa]; done))
    | (apply cond_t; (· simp only [go_sem, hlt, hw, hx, byte_is, ha, hsl, hsa])) | (apply cond_f; (· simp only [go_sem, hlt, hw, hx, byte_is, ha, hsl, hsa]))
    | (apply do_cond; (· simp only [go_sem, hlt, hw, hx, byte_is, ha, hsl, hsa]; first | done | rfl); all_goals (intro hc; try rw [hc])))
    · have hb47 : b = 47 := by simpa using hc
      refine ⟨d, Nat.lt_succ_self d, i + 1, x2, out ++ [cur], [], junk rfl, hB3, by omega, by simp; omega, by simp, ?_⟩
      rw [← hp, partsGo, if_pos hb47]
    · have hb47 : b ≠ 47 := by simpa using hc
      refine ⟨d, Nat.lt_succ_self d, i + 1, x, out, cur ++ [b], junk rfl, hB, by omega, by omega, by simp; omega, ?_⟩
      rw [← hp, partsGo, if_neg hb47]

theorem all_take' {l : List (List UInt8)} {i : Nat} {b : List UInt8} (hb : l[i]? = some b) (p : List UInt8 → Bool) (h : p b = false) : l.all p = false := by
  rw [List.all_eq_false]
  exact ⟨b, List.mem_of_getElem? hb, by simp [h]⟩
theorem all_split' {l : List (List UInt8)} {i : Nat} {b : List UInt8} (hb : l[i]? = some b) (p : List UInt8 → Bool) : (l.take (i + 1)).all p = ((l.take i).all p && p b) := by
  rw [List.take_add_one, hb]
  simp
theorem parts_le : ∀ (r : List UInt8) (cur : List UInt8), (partsGo r [] cur).length ≤ r.length + 1 ∧ ∀ x ∈ partsGo r [] cur, x.length ≤ r.length + cur.length
  | [], cur => by simp [partsGo]
  | b :: r, cur => by
    rw [partsGo]
    by_cases h : b = 47
    · rw [if_pos h, partsGo_out]
      have := parts_le r []
      refine ⟨by simp; omega, fun x hx => ?_⟩
      rcases List.mem_append.1 hx with hx | hx
      · simp at hx; subst hx; simp
      · have := this.2 x hx; simp at this ⊢; omega
    · rw [if_neg h]
      have := parts_le r (cur ++ [b])
      refine ⟨by simp; omega, fun x hx => ?_⟩
      have := this.2 x hx
      simp at this ⊢; omega

set_option maxRecDepth 10000 in
theorem rsplit_ev (s : List UInt8) (H : AH) (k : AV → AH → Prop) (hW : WF H) (hs : s.length < 2 ^ 40)
    (hk : ∀ nl ex, k (.tup [.lit nl ex ((splitOf s).1.map .str) (splitOf s).1.length, .int .i64 (splitOf s).2]) H) : EvCall Try.prog T G0 12 [.str s] H k := by
  rw [refSplit_eq] at hk
  have hempty : ∀ (c : Int), refSplit s = ([], c) → k (.tup [.lit true true [] 0, .int .i64 c]) H := fun c hc => by
    have := hk true true; rw [hc] at this; exact this
  refine call_go (Try.func12) rfl (by decide) (by simp only [Try.ntmps12, List.length_cons, List.length_nil, Nat.reduceAdd, Nat.reduceSub, List.replicate, List.cons_append, List.nil_append]; rfl) ?_
  cases s with
  | nil =>
    have hl00 : ((([] : List UInt8).length : Int) == 0) = true := rfl
    repeat' (first
    | refine do_end ?_ | refine then_n ?_ | refine then_r ?_ | refine then_e ?_ | refine block_n ?_ | refine block_r ?_ | refine block_e ?_ | refine block_o (by decide) ?_
    | refine go_seq ?_ | refine go_region ?_ | refine go_draw (by rfl) ?_ | refine do_block ?_ | refine do_scope ?_ | refine do_label ?_ | refine do_skip ?_ | refine do_ret ?_ | refine do_exit ?_
    | (apply do_op; (· simp only [go_sem, hl00]; first | done | rfl); (· simp only [go_sem]; first | done | rfl))
    | (apply do_take; (· simp only [go_sem, hl00]); (· simp only [go_sem, hl00]; first | done | rfl); (· simp only [go_sem]; first | done | rfl))
    | (apply do_pass; (· simp only [go_sem, hl00]; first | done | rfl); (· rfl); (· simp only [go_sem]; first | done | rfl))
    | (apply do_pass0; (· simp only [go_sem, hl00]; first | done | rfl); (· simp only [go_sem]; first | done | rfl))
    | (apply do_split; (· simp only [go_sem, hl00]; first | done | rfl); all_goals (intro hc; rw [hc]))
    | (refine do_drawn ?_ ?_; (· simp only [go_sem, hl00]; done))
    | (apply cond_t; (· simp only [go_sem, hl00])) | (apply cond_f; (· simp only [go_sem, hl00]))
    | (apply do_cond; (· simp only [go_sem, hl00]; first | done | rfl); all_goals (intro hc; try rw [hc])))
    refine fin_ret (by simp only [aresults, Try.f12, go_sem]; first | done | rfl) ?_
    exact hempty 2 rfl
  | cons b r =>
    have hx : aindex T 9 (.str (b :: r)) (.int .i64 0) = some (.int .u8 b.toNat) := index_str (by rfl) (by omega) (by rfl)
    have hl0 : (((b :: r : List UInt8).length : Int) == 0) = false := by rw [beq_eq_false_iff_ne]; simp; omega
    have hsl : aslice T H 9 (.str (b :: r)) (some (.int .i64 1)) none none = some (.str r) := by
      unfold aslice
      simp [T_9, ty9, boundOf, numOf]
    repeat' (first
    | refine do_end ?_ | refine then_n ?_ | refine then_r ?_ | refine then_e ?_ | refine block_n ?_ | refine block_r ?_ | refine block_e ?_ | refine block_o (by decide) ?_
    | refine go_seq ?_ | refine go_region ?_ | refine go_draw (by rfl) ?_ | refine do_block ?_ | refine do_scope ?_ | refine do_label ?_ | refine do_skip ?_ | refine do_ret ?_ | refine do_exit ?_
    | (apply do_op; (· simp only [go_sem, hx, hl0, byte_eq, hsl]; first | done | rfl); (· simp only [go_sem]; first | done | rfl))
    | (apply do_take; (· simp only [go_sem, hx, hl0, byte_eq, hsl]); (· simp only [go_sem, hx, hl0, byte_eq, hsl]; first | done | rfl); (· simp only [go_sem]; first | done | rfl))
    | (apply do_pass; (· simp only [go_sem, hx, hl0, byte_eq, hsl]; first | done | rfl); (· rfl); (· simp only [go_sem]; first | done | rfl))
    | (apply do_pass0; (· simp only [go_sem, hx, hl0, byte_eq, hsl]; first | done | rfl); (· simp only [go_sem]; first | done | rfl))
    | (apply go_call (hC := callMono); (· simp only [go_sem, hx, hl0, byte_eq, hsl]; first | done | rfl); (· simp only [go_sem, hx, hl0, byte_eq, hsl]; first | done | rfl))
    | (apply go_call_take (hC := callMono); (· simp only [go_sem, hx, hl0, byte_eq, hsl]); (· simp only [go_sem, hx, hl0, byte_eq, hsl]; first | done | rfl); (· simp only [go_sem, hx, hl0, byte_eq, hsl]; first | done | rfl))
    | (intro fr' hfr; simp only [go_sem, hx, hl0, byte_eq, hsl] at hfr; subst hfr)
    | refine parts_ev _ _ _ hW (by simp at hs; omega) (fun nl ex => ?_)
    | (apply do_split; (· simp only [go_sem, hx, hl0, byte_eq, hsl]; first | done | rfl); all_goals (intro hc; rw [hc]))
    | (refine do_drawn ?_ ?_; (· simp only [go_sem, hx, hl0, byte_eq, hsl]; done))
    | (apply cond_t; (· simp only [go_sem, hx, hl0, byte_eq, hsl])) | (apply cond_f; (· simp only [go_sem, hx, hl0, byte_eq, hsl]))
    | (apply do_cond; (· simp only [go_sem, hx, hl0, byte_eq, hsl]; first | done | rfl); all_goals (intro hc; try rw [hc])))
    · refine fin_ret (by simp only [aresults, Try.f12, go_sem]; first | done | rfl) ?_
      exact hempty 2 (by simp at hc; simp [refSplit, hc])
    · refine fin_ret (by simp only [aresults, Try.f12, go_sem]; first | done | rfl) ?_
      rename_i hb
      have hb' : b = 47 := by simpa using hb
      have hr : r = [] := by
        cases r with
        | nil => rfl
        | cons a t => simp at hc; omega
      exact hempty 0 (by simp [refSplit, hb', hr])
    rename_i hb0 
    have hb : b = 47 := by simpa using hb0
    have hr : r ≠ [] := fun e => by subst e; simp at hc
    have hle := parts_le r []
    have hrs : refSplit (b :: r) = if (partsGo r [] []).all nameOf = true then (if (partsGo r [] []).length > 6 then ([], 16) else (partsGo r [] [], 0)) else ([], 15) := by simp [refSplit, hb, hr]
    simp only [List.length_cons] at hs
    clear hb0 hc
    generalize partsGo r [] [] = l at *
    have hS : Strs T H 24 9 (.lit nl ex (l.map .str) l.length) l := Strs.lit (by rfl) (by rfl) (by rfl)
    have hlx := hS.len
    refine loop_ind (fun d fr H' => ∃ (i : Nat), (∃ j : Nat → AV, fr = [j 0, j 1, j 2, j 3, .lit nl ex (l.map .str) l.length, .int .i64 i, j 6, j 7, j 8, j 9, j 10, j 11, j 12, j 13, j 14, j 15, j 16, j 17, j 18, j 19, j 20, j 21, j 22, j 23, j 24, j 25, j 26, j 27, j 28, j 29, j 30, j 31, j 32, j 33, j 34, j 35]) ∧ H' = H ∧ i + d = l.length ∧ (l.take i).all nameOf = true) ?_ l.length _ _
      ⟨0, junk rfl, rfl, by omega, by simp⟩
    rintro d fr H' ⟨i, ⟨j, rfl⟩, rfl, hi, hall⟩
    cases d with
    | zero =>
      have hlt : decide ((i : Int) < l.length) = false := by simp; omega
      rw [List.take_of_length_le (by omega)] at hall
      rw [if_pos hall] at hrs
      repeat' (first
    | refine do_end ?_ | refine then_n ?_ | refine then_r ?_ | refine then_e ?_ | refine block_n ?_ | refine block_r ?_ | refine block_e ?_ | refine block_o (by decide) ?_
    | refine go_seq ?_ | refine go_region ?_ | refine go_draw (by rfl) ?_ | refine do_block ?_ | refine do_scope ?_ | refine do_label ?_ | refine do_skip ?_ | refine do_ret ?_ | refine do_exit ?_
    | (apply do_op; (· simp only [go_sem, hlt, hlx]; first | done | rfl); (· simp only [go_sem]; first | done | rfl))
    | (apply do_take; (· simp only [go_sem, hlt, hlx]); (· simp only [go_sem, hlt, hlx]; first | done | rfl); (· simp only [go_sem]; first | done | rfl))
    | (apply do_pass; (· simp only [go_sem, hlt, hlx]; first | done | rfl); (· rfl); (· simp only [go_sem]; first | done | rfl))
    | (apply do_pass0; (· simp only [go_sem, hlt, hlx]; first | done | rfl); (· simp only [go_sem]; first | done | rfl))
    | (apply do_split; (· simp only [go_sem, hlt, hlx]; first | done | rfl); all_goals (intro hc; rw [hc]))
    | (refine do_drawn ?_ ?_; (· simp only [go_sem, hlt, hlx]; done))
    | (apply cond_t; (· simp only [go_sem, hlt, hlx])) | (apply cond_f; (· simp only [go_sem, hlt, hlx]))
    | (apply do_cond; (· simp only [go_sem, hlt, hlx]; first | done | rfl); all_goals (intro hc; try rw [hc])))
      · refine fin_ret (by simp only [aresults, Try.f12, go_sem]; first | done | rfl) ?_
        exact hempty 16 (by rw [hrs, if_pos (by simp at hc; omega)])
      · refine fin_ret (by simp only [aresults, Try.f12, go_sem]; first | done | rfl) ?_
        have hk1 := hk nl ex
        rw [hrs, if_neg (by simp at hc; omega)] at hk1
        exact hk1
    | succ d =>
      have hlt : decide ((i : Int) < l.length) = true := by simp; omega
      obtain ⟨z, hz⟩ : ∃ s, l[i]? = some s := ⟨l[i]'(by omega), List.getElem?_eq_getElem (by omega)⟩
      obtain ⟨p, hp1, hp2⟩ := hS.item i z hz
      have hw : IntKind.i64.wrap ((i : Int) + 1) = ((i + 1 : Nat) : Int) := wrap_succ (by omega)
      have hzl : z.length ≤ 9223372036854775807 := by have := hle.2 z (List.mem_of_getElem? hz); simp at this; omega
      repeat' (first
    | refine do_end ?_ | refine then_n ?_ | refine then_r ?_ | refine then_e ?_ | refine block_n ?_ | refine block_r ?_ | refine block_e ?_ | refine block_o (by decide) ?_
    | refine go_seq ?_ | refine go_region ?_ | refine go_draw (by rfl) ?_ | refine do_block ?_ | refine do_scope ?_ | refine do_label ?_ | refine do_skip ?_ | refine do_ret ?_ | refine do_exit ?_
    | (apply do_op; (· simp only [go_sem, hlt, hw, hlx, hp1, hp2]; first | done | rfl); (· simp only [go_sem]; first | done | rfl))
    | (apply do_take; (· simp only [go_sem, hlt, hw, hlx, hp1, hp2]); (· simp only [go_sem, hlt, hw, hlx, hp1, hp2]; first | done | rfl); (· simp only [go_sem]; first | done | rfl))
    | (apply do_pass; (· simp only [go_sem, hlt, hw, hlx, hp1, hp2]; first | done | rfl); (· rfl); (· simp only [go_sem]; first | done | rfl))
    | (apply do_pass0; (· simp only [go_sem, hlt, hw, hlx, hp1, hp2]; first | done | rfl); (· simp only [go_sem]; first | done | rfl))
    | (apply go_call (hC := callMono); (· simp only [go_sem, hlt, hw, hlx, hp1, hp2]; first | done | rfl); (· simp only [go_sem, hlt, hw, hlx, hp1, hp2]; first | done | rfl))
    | (apply go_call_take (hC := callMono); (· simp only [go_sem, hlt, hw, hlx, hp1, hp2]); (· simp only [go_sem, hlt, hw, hlx, hp1, hp2]; first | done | rfl); (· simp only [go_sem, hlt, hw, hlx, hp1, hp2]; first | done | rfl))
    | (intro fr' hfr; simp only [go_sem, hlt, hw, hlx, hp1, hp2] at hfr; subst hfr)
    | refine rname_ev _ _ _ hzl ?_
    | (apply do_split; (· simp only [go_sem, hlt, hw, hlx, hp1, hp2]; first | done | rfl); all_goals (intro hc; rw [hc]))
    | (refine do_drawn ?_ ?_; (· simp only [go_sem, hlt, hw, hlx, hp1, hp2]; done))
    | (apply cond_t; (· simp only [go_sem, hlt, hw, hlx, hp1, hp2])) | (apply cond_f; (· simp only [go_sem, hlt, hw, hlx, hp1, hp2]))
    | (apply do_cond; (· simp only [go_sem, hlt, hw, hlx, hp1, hp2]; first | done | rfl); all_goals (intro hc; try rw [hc])))
      · refine fin_ret (by simp only [aresults, Try.f12, go_sem]; first | done | rfl) ?_
        exact hempty 15 (by rw [hrs, if_neg]; rw [all_take' hz nameOf (by simpa using hc)]; simp)
      · exact ⟨d, Nat.lt_succ_self d, i + 1, junk rfl, rfl, by omega, by rw [all_split' hz, hall]; simpa using hc⟩

set_option maxRecDepth 10000 in
theorem pathSplits_ev (s : List UInt8) (H : AH) (k : AV → AH → Prop) (hW : WF H) (hk : k (.bool true) H) : EvCall Try.prog T G0 4 [.str s] H k := by
  refine call_go (Try.func4) rfl (by decide) (by simp only [Try.ntmps4, List.length_cons, List.length_nil, Nat.reduceAdd, Nat.reduceSub, List.replicate, List.cons_append, List.nil_append]; rfl) ?_
  by_cases h4 : (s.length : Int) > 400
  · have hd : decide ((s.length : Int) > 400) = true := by simpa using h4
    repeat' (first
    | refine do_end ?_ | refine then_n ?_ | refine then_r ?_ | refine then_e ?_ | refine block_n ?_ | refine block_r ?_ | refine block_e ?_ | refine block_o (by decide) ?_
    | refine go_seq ?_ | refine go_region ?_ | refine go_draw (by rfl) ?_ | refine do_block ?_ | refine do_scope ?_ | refine do_label ?_ | refine do_skip ?_ | refine do_ret ?_ | refine do_exit ?_
    | (apply do_op; (· simp only [go_sem, hd]; first | done | rfl); (· simp only [go_sem]; first | done | rfl))
    | (apply do_take; (· simp only [go_sem, hd]); (· simp only [go_sem, hd]; first | done | rfl); (· simp only [go_sem]; first | done | rfl))
    | (apply do_pass; (· simp only [go_sem, hd]; first | done | rfl); (· rfl); (· simp only [go_sem]; first | done | rfl))
    | (apply do_pass0; (· simp only [go_sem, hd]; first | done | rfl); (· simp only [go_sem]; first | done | rfl))
    | (apply go_call (hC := callMono); (· simp only [go_sem, hd]; first | done | rfl); (· simp only [go_sem, hd]; first | done | rfl))
    | (apply go_call_take (hC := callMono); (· simp only [go_sem, hd]); (· simp only [go_sem, hd]; first | done | rfl); (· simp only [go_sem, hd]; first | done | rfl))
    | (intro fr' hfr; simp only [go_sem, hd] at hfr; subst hfr)
    | refine awake_ev _ _ hW ?_
    | (apply do_split; (· simp only [go_sem, hd]; first | done | rfl); all_goals (intro hc; rw [hc]))
    | (refine do_drawn ?_ ?_; (· simp only [go_sem, hd]; done))
    | (apply cond_t; (· simp only [go_sem, hd])) | (apply cond_f; (· simp only [go_sem, hd]))
    | (apply do_cond; (· simp only [go_sem, hd]; first | done | rfl); all_goals (intro hc; try rw [hc])))
    refine fin_ret (by simp only [aresults, Try.f4, go_sem]; first | done | rfl) ?_
    exact hk
  · have hd : decide ((s.length : Int) > 400) = false := by simpa using h4
    have hs : s.length < 2 ^ 40 := by omega
    have hl : (splitOf s).1.length < 2 ^ 62 := by
      rw [refSplit_eq]
      unfold refSplit
      have h6 : ∀ r : List UInt8, (if (partsGo r [] []).length > 6 then (([], 16) : List (List UInt8) × Int) else (partsGo r [] [], 0)).1.length < 2 ^ 62 := fun r => by
        by_cases h : (partsGo r [] []).length > 6
        · rw [if_pos h]; simp
        · rw [if_neg h]; simp; omega
      split
      · simp
      · rename_i b r
        split
        · simp
        · split
          · simp
          · split
            · exact h6 r
            · simp
    repeat' (first
    | refine do_end ?_ | refine then_n ?_ | refine then_r ?_ | refine then_e ?_ | refine block_n ?_ | refine block_r ?_ | refine block_e ?_ | refine block_o (by decide) ?_
    | refine go_seq ?_ | refine go_region ?_ | refine go_draw (by rfl) ?_ | refine do_block ?_ | refine do_scope ?_ | refine do_label ?_ | refine do_skip ?_ | refine do_ret ?_ | refine do_exit ?_
    | (apply do_op; (· simp only [go_sem, hd, beq_self_eq_true]; first | done | rfl); (· simp only [go_sem]; first | done | rfl))
    | (apply do_take; (· simp only [go_sem, hd, beq_self_eq_true]); (· simp only [go_sem, hd, beq_self_eq_true]; first | done | rfl); (· simp only [go_sem]; first | done | rfl))
    | (apply do_pass; (· simp only [go_sem, hd, beq_self_eq_true]; first | done | rfl); (· rfl); (· simp only [go_sem]; first | done | rfl))
    | (apply do_pass0; (· simp only [go_sem, hd, beq_self_eq_true]; first | done | rfl); (· simp only [go_sem]; first | done | rfl))
    | (apply go_call (hC := callMono); (· simp only [go_sem, hd, beq_self_eq_true]; first | done | rfl); (· simp only [go_sem, hd, beq_self_eq_true]; first | done | rfl))
    | (apply go_call_take (hC := callMono); (· simp only [go_sem, hd, beq_self_eq_true]); (· simp only [go_sem, hd, beq_self_eq_true]; first | done | rfl); (· simp only [go_sem, hd, beq_self_eq_true]; first | done | rfl))
    | (intro fr' hfr; simp only [go_sem, hd, beq_self_eq_true] at hfr; subst hfr)
    | refine awake_ev _ _ hW ?_
    | refine split_ev _ _ _ hW hs (fun nl ex => ?_)
    | refine rsplit_ev _ _ _ hW hs (fun nl2 ex2 => ?_)
    | refine same_is _ _ (splitOf s).1 (splitOf s).1 _ _ (Strs.lit (by rfl) (by rfl) (by rfl)) (Strs.lit (by rfl) (by rfl) (by rfl)) hl (v := true) (beq_self_eq_true _) ?_
    | (apply do_split; (· simp only [go_sem, hd, beq_self_eq_true]; first | done | rfl); all_goals (intro hc; rw [hc]))
    | (refine do_drawn ?_ ?_; (· simp only [go_sem, hd, beq_self_eq_true]; done))
    | (apply cond_t; (· simp only [go_sem, hd, beq_self_eq_true])) | (apply cond_f; (· simp only [go_sem, hd, beq_self_eq_true]))
    | (apply do_cond; (· simp only [go_sem, hd, beq_self_eq_true]; first | done | rfl); all_goals (intro hc; try rw [hc])))
    refine fin_ret (by simp only [aresults, Try.f4, go_sem]; first | done | rfl) ?_
    exact hk
end Go.Proofs.Ytecjmbglnkpnnaa
