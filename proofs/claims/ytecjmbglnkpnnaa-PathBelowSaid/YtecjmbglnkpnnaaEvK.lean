import Derived.Test.YtecjmbglnkpnnaaEvJ
import Derived.Test.YtecjmbglnkpnnaaAbsDraw2
namespace Go.Proofs.Ytecjmbglnkpnnaa
open Go.Abs
attribute [local irreducible] ev evList evOp evRes EvCall VS aop FnEnd AX.then AX.inBlock abuiltin aindexAddr aload aconvert astore aslice aindex
attribute [local go_sem] T_3 T_4 T_5 T_9 T_24 T_25 T_38 ty3 ty4 ty5 ty9 ty24 ty25 ty38
set_option linter.unusedSimpArgs false
set_option linter.unusedVariables false

def fewOf (l : List (List UInt8)) : List (List UInt8) := (l.take 12).map fun s => s.take 40
theorem cut_str {s : List UInt8} {H : AH} {j : Nat} (h2 : j ≤ s.length) : aslice T H 9 (.str s) none (some (.int .i64 j)) none = some (.str (s.take j)) := by
  unfold aslice
  simp only [T_9, ty9, boundOf, numOf]
  simp [h2]
theorem cut_lit {nl ex : Bool} {l : List (List UInt8)} {H : AH} {j : Nat} (h2 : j ≤ l.length) : aslice T H 24 (.lit nl ex (l.map .str) l.length) none (some (.int .i64 j)) none = some (.lit nl (ex && j == l.length) ((l.take j).map .str) (l.take j).length) := by
  unfold aslice
  simp only [T_24, ty24, T_9, ty9, boundOf, numOf]
  simp [h2, List.map_take]
  try omega
theorem Strs.more {H : AH} {ex : Bool} {m : Nat} {l r : List (List UInt8)} (hm : H[m]? = some (.cells ((l ++ r).map .str))) : Strs T H 24 9 (.ref ex m 0 l.length 1) l := by
  refine ⟨len_ref (by rfl), fun i s hs => ⟨.ptr m i, ?_, ?_⟩⟩
  · have hlt := (List.getElem?_eq_some_iff.1 hs).1
    have h3 : (T 9).size = 1 := by rfl
    have h1 : (T 24).d = .slice 9 := by rfl
    simp [aindexAddr, h1, h3, hlt]
  · rw [aload_ptr hm, apart_one (by rfl) (by rfl)]
    have hlt := (List.getElem?_eq_some_iff.1 hs).1
    rw [List.map_append, List.getElem?_append_left (by simpa using hlt)]
    simp [hs]
/-- A slice of strings, and its first parts. -/
structure Cuts (H : AH) (x : AV) (l : List (List UInt8)) : Prop where
  strs : Strs T H 24 9 x l
  cut : ∀ m : Nat, m ≤ l.length → ∃ y, aslice T H 24 x none (some (.int .i64 m)) none = some y ∧ Strs T H 24 9 y (l.take m)
theorem Cuts.lit {H : AH} {nl ex : Bool} {l : List (List UInt8)} : Cuts H (.lit nl ex (l.map .str) l.length) l :=
  ⟨Strs.lit (by rfl) (by rfl) (by rfl), fun m hm => ⟨_, cut_lit hm, Strs.lit (by rfl) (by rfl) (by rfl)⟩⟩
theorem Cuts.ref {H : AH} {ex : Bool} {m : Nat} {l : List (List UInt8)} (h : H[m]? = some (.cells (l.map .str))) : Cuts H (.ref ex m 0 l.length 1) l := by
  refine ⟨Strs.ref (by rfl) (by rfl) (by rfl) h, fun j hj => ⟨.ref (ex && j == l.length) m 0 (l.take j).length 1, ?_, ?_⟩⟩
  · unfold aslice
    simp only [T_24, ty24, T_9, ty9, boundOf, numOf]
    simp [hj]
    try omega
  · exact Strs.more (r := l.drop j) (by rw [List.take_append_drop]; exact h)
theorem Cuts.buf {B H : AH} {x : AV} {l : List (List UInt8)} (h : Buf B H x (l.map .str)) : Cuts H x l := by
  rcases h.shape with ⟨nl, rfl, e⟩ | ⟨ex, m, rfl, _, hm⟩
  · have : l = [] := by simpa using e
    subst this
    show Cuts H (.lit nl true (([] : List (List UInt8)).map .str) ([] : List (List UInt8)).length) []
    exact Cuts.lit
  · rw [List.length_map]
    exact Cuts.ref hm
def belowOf (l a : List (List UInt8)) : Bool := decide (a.length < l.length) && (l.take a.length == a)

set_option maxRecDepth 10000 in
theorem below_ev (x y : AV) (l a : List (List UInt8)) (H : AH) (k : AV → AH → Prop) (hx : Cuts H x l) (hy : Cuts H y a) (hl : l.length < 2 ^ 40) (hk : k (.bool (belowOf l a)) H) : EvCall Try.prog T G0 16 [x, y] H k := by
  have hlx := hx.strs.len
  have hly := hy.strs.len
  refine call_go (Try.func16) rfl (by decide) (by simp only [Try.ntmps16, List.length_cons, List.length_nil, Nat.reduceAdd, Nat.reduceSub, List.replicate, List.cons_append, List.nil_append]; rfl) ?_
  by_cases hlt : a.length < l.length
  · have hd : decide ((l.length : Int) > a.length) = true := by simp; omega
    obtain ⟨z, hz, hzs⟩ := hx.cut a.length (by omega)
    have hb : belowOf l a = (l.take a.length == a) := by simp [belowOf, hlt]
    repeat' (first
    | refine pick_end ?_ | refine pick_head (by rfl) ?_ | refine pick_one (by rfl) ?_
    | refine do_end ?_ | refine then_n ?_ | refine then_r ?_ | refine then_e ?_ | refine block_n ?_ | refine block_r ?_ | refine block_e ?_ | refine block_o (by decide) ?_
    | refine go_seq ?_ | refine go_region ?_ | refine plan_nil ?_ | refine plan_cons ?_ | refine do_block ?_ | refine do_scope ?_ | refine do_label ?_ | refine do_skip ?_ | refine do_ret ?_ | refine do_exit ?_
    | (apply do_op; (· simp only [go_sem, hlx, hly, hd, hz]; first | done | rfl); (· simp only [go_sem]; first | done | rfl))
    | (apply do_take; (· simp only [go_sem, hlx, hly, hd, hz]); (· simp only [go_sem, hlx, hly, hd, hz]; first | done | rfl); (· simp only [go_sem]; first | done | rfl))
    | (apply do_pass; (· simp only [go_sem, hlx, hly, hd, hz]; first | done | rfl); (· rfl); (· simp only [go_sem]; first | done | rfl))
    | (apply do_pass0; (· simp only [go_sem, hlx, hly, hd, hz]; first | done | rfl); (· simp only [go_sem]; first | done | rfl))
    | (apply go_call (hC := callMono); (· simp only [go_sem, hlx, hly, hd, hz]; first | done | rfl); (· simp only [go_sem, hlx, hly, hd, hz]; first | done | rfl))
    | (apply go_call_take (hC := callMono); (· simp only [go_sem, hlx, hly, hd, hz]); (· simp only [go_sem, hlx, hly, hd, hz]; first | done | rfl); (· simp only [go_sem, hlx, hly, hd, hz]; first | done | rfl))
    | (intro fr' hfr; simp only [go_sem, hlx, hly, hd, hz] at hfr; subst hfr)
    | refine equal_ev _ _ _ _ _ _ hzs hy.strs (by simp; omega) ?_
    | (apply do_split; (· simp only [go_sem, hlx, hly, hd, hz]; first | done | rfl); all_goals (intro hc; rw [hc]))
    | (refine do_drawn ?_ ?_; (· simp only [go_sem, hlx, hly, hd, hz]; done))
    | refine do_drawn2 ?_ ?_ ?_ | exact chk_end | exact chkC_end
    | (refine chk_head (by rfl) ?_ ?_; (· simp only [go_sem, hlx, hly, hd, hz]; done)) | refine chkC_head (by rfl) ?_ ?_
    | (apply chkc_call; (· simp only [go_sem, hlx, hly, hd, hz]; first | done | rfl); (· simp only [go_sem, hlx, hly, hd, hz]; first | done | rfl); (· simp only [go_sem, hlx, hly, hd, hz]; first | done | rfl))
    | (apply chkc_take; (· simp only [go_sem, hlx, hly, hd, hz]); (· simp only [go_sem, hlx, hly, hd, hz]; first | done | rfl); (· simp only [go_sem, hlx, hly, hd, hz]; first | done | rfl); (· simp only [go_sem, hlx, hly, hd, hz]; first | done | rfl))
    | (apply chkc_pass; (· simp only [go_sem, hlx, hly, hd, hz]; first | done | rfl); (· rfl); (· simp only [go_sem, hlx, hly, hd, hz]; first | done | rfl))
    | (apply chkc_pass0; (· simp only [go_sem, hlx, hly, hd, hz]; first | done | rfl); (· simp only [go_sem, hlx, hly, hd, hz]; first | done | rfl))
    | (refine all_k ?_; intro kk hkk) | exact hkk
    | (apply cond_t; (· simp only [go_sem, hlx, hly, hd, hz])) | (apply cond_f; (· simp only [go_sem, hlx, hly, hd, hz]))
    | (apply do_cond; (· simp only [go_sem, hlx, hly, hd, hz]; first | done | rfl); all_goals (intro hc; try rw [hc])))
    refine fin_ret (by simp only [aresults, Try.f16, go_sem]; first | done | rfl) ?_
    rw [hb] at hk
    exact hk
  · have hd : decide ((l.length : Int) > a.length) = false := by simp; omega
    have hb : belowOf l a = false := by simp [belowOf, hlt]
    repeat' (first
    | refine pick_end ?_ | refine pick_head (by rfl) ?_ | refine pick_one (by rfl) ?_
    | refine do_end ?_ | refine then_n ?_ | refine then_r ?_ | refine then_e ?_ | refine block_n ?_ | refine block_r ?_ | refine block_e ?_ | refine block_o (by decide) ?_
    | refine go_seq ?_ | refine go_region ?_ | refine plan_nil ?_ | refine plan_cons ?_ | refine do_block ?_ | refine do_scope ?_ | refine do_label ?_ | refine do_skip ?_ | refine do_ret ?_ | refine do_exit ?_
    | (apply do_op; (· simp only [go_sem, hlx, hly, hd]; first | done | rfl); (· simp only [go_sem]; first | done | rfl))
    | (apply do_take; (· simp only [go_sem, hlx, hly, hd]); (· simp only [go_sem, hlx, hly, hd]; first | done | rfl); (· simp only [go_sem]; first | done | rfl))
    | (apply do_pass; (· simp only [go_sem, hlx, hly, hd]; first | done | rfl); (· rfl); (· simp only [go_sem]; first | done | rfl))
    | (apply do_pass0; (· simp only [go_sem, hlx, hly, hd]; first | done | rfl); (· simp only [go_sem]; first | done | rfl))
    | (apply do_split; (· simp only [go_sem, hlx, hly, hd]; first | done | rfl); all_goals (intro hc; rw [hc]))
    | (refine do_drawn ?_ ?_; (· simp only [go_sem, hlx, hly, hd]; done))
    | refine do_drawn2 ?_ ?_ ?_ | exact chk_end | exact chkC_end
    | (refine chk_head (by rfl) ?_ ?_; (· simp only [go_sem, hlx, hly, hd]; done)) | refine chkC_head (by rfl) ?_ ?_
    | (apply chkc_call; (· simp only [go_sem, hlx, hly, hd]; first | done | rfl); (· simp only [go_sem, hlx, hly, hd]; first | done | rfl); (· simp only [go_sem, hlx, hly, hd]; first | done | rfl))
    | (apply chkc_take; (· simp only [go_sem, hlx, hly, hd]); (· simp only [go_sem, hlx, hly, hd]; first | done | rfl); (· simp only [go_sem, hlx, hly, hd]; first | done | rfl); (· simp only [go_sem, hlx, hly, hd]; first | done | rfl))
    | (apply chkc_pass; (· simp only [go_sem, hlx, hly, hd]; first | done | rfl); (· rfl); (· simp only [go_sem, hlx, hly, hd]; first | done | rfl))
    | (apply chkc_pass0; (· simp only [go_sem, hlx, hly, hd]; first | done | rfl); (· simp only [go_sem, hlx, hly, hd]; first | done | rfl))
    | (refine all_k ?_; intro kk hkk) | exact hkk
    | (apply cond_t; (· simp only [go_sem, hlx, hly, hd])) | (apply cond_f; (· simp only [go_sem, hlx, hly, hd]))
    | (apply do_cond; (· simp only [go_sem, hlx, hly, hd]; first | done | rfl); all_goals (intro hc; try rw [hc])))
    refine fin_ret (by simp only [aresults, Try.f16, go_sem]; first | done | rfl) ?_
    rw [hb] at hk
    exact hk
set_option maxRecDepth 10000 in
theorem rbelow_ev (x y : AV) (l a : List (List UInt8)) (H : AH) (k : AV → AH → Prop) (hx : Cuts H x l) (hy : Cuts H y a) (hl : l.length < 2 ^ 40) (hk : k (.bool (belowOf l a)) H) : EvCall Try.prog T G0 19 [x, y] H k := by
  have hlx := hx.strs.len
  have hly := hy.strs.len
  refine call_go (Try.func19) rfl (by decide) (by simp only [Try.ntmps19, List.length_cons, List.length_nil, Nat.reduceAdd, Nat.reduceSub, List.replicate, List.cons_append, List.nil_append]; rfl) ?_
  by_cases hlt : a.length < l.length
  · have hd : decide ((l.length : Int) ≤ a.length) = false := by simp; omega
    obtain ⟨z, hz, hzs⟩ := hx.cut a.length (by omega)
    have hb : belowOf l a = (l.take a.length == a) := by simp [belowOf, hlt]
    repeat' (first
    | refine pick_end ?_ | refine pick_head (by rfl) ?_ | refine pick_one (by rfl) ?_
    | refine do_end ?_ | refine then_n ?_ | refine then_r ?_ | refine then_e ?_ | refine block_n ?_ | refine block_r ?_ | refine block_e ?_ | refine block_o (by decide) ?_
    | refine go_seq ?_ | refine go_region ?_ | refine plan_nil ?_ | refine plan_cons ?_ | refine do_block ?_ | refine do_scope ?_ | refine do_label ?_ | refine do_skip ?_ | refine do_ret ?_ | refine do_exit ?_
    | (apply do_op; (· simp only [go_sem, hlx, hly, hd, hz]; first | done | rfl); (· simp only [go_sem]; first | done | rfl))
    | (apply do_take; (· simp only [go_sem, hlx, hly, hd, hz]); (· simp only [go_sem, hlx, hly, hd, hz]; first | done | rfl); (· simp only [go_sem]; first | done | rfl))
    | (apply do_pass; (· simp only [go_sem, hlx, hly, hd, hz]; first | done | rfl); (· rfl); (· simp only [go_sem]; first | done | rfl))
    | (apply do_pass0; (· simp only [go_sem, hlx, hly, hd, hz]; first | done | rfl); (· simp only [go_sem]; first | done | rfl))
    | (apply go_call (hC := callMono); (· simp only [go_sem, hlx, hly, hd, hz]; first | done | rfl); (· simp only [go_sem, hlx, hly, hd, hz]; first | done | rfl))
    | (apply go_call_take (hC := callMono); (· simp only [go_sem, hlx, hly, hd, hz]); (· simp only [go_sem, hlx, hly, hd, hz]; first | done | rfl); (· simp only [go_sem, hlx, hly, hd, hz]; first | done | rfl))
    | (intro fr' hfr; simp only [go_sem, hlx, hly, hd, hz] at hfr; subst hfr)
    | refine same_ev _ _ _ _ _ _ hzs hy.strs (by simp; omega) ?_
    | (apply do_split; (· simp only [go_sem, hlx, hly, hd, hz]; first | done | rfl); all_goals (intro hc; rw [hc]))
    | (refine do_drawn ?_ ?_; (· simp only [go_sem, hlx, hly, hd, hz]; done))
    | refine do_drawn2 ?_ ?_ ?_ | exact chk_end | exact chkC_end
    | (refine chk_head (by rfl) ?_ ?_; (· simp only [go_sem, hlx, hly, hd, hz]; done)) | refine chkC_head (by rfl) ?_ ?_
    | (apply chkc_call; (· simp only [go_sem, hlx, hly, hd, hz]; first | done | rfl); (· simp only [go_sem, hlx, hly, hd, hz]; first | done | rfl); (· simp only [go_sem, hlx, hly, hd, hz]; first | done | rfl))
    | (apply chkc_take; (· simp only [go_sem, hlx, hly, hd, hz]); (· simp only [go_sem, hlx, hly, hd, hz]; first | done | rfl); (· simp only [go_sem, hlx, hly, hd, hz]; first | done | rfl); (· simp only [go_sem, hlx, hly, hd, hz]; first | done | rfl))
    | (apply chkc_pass; (· simp only [go_sem, hlx, hly, hd, hz]; first | done | rfl); (· rfl); (· simp only [go_sem, hlx, hly, hd, hz]; first | done | rfl))
    | (apply chkc_pass0; (· simp only [go_sem, hlx, hly, hd, hz]; first | done | rfl); (· simp only [go_sem, hlx, hly, hd, hz]; first | done | rfl))
    | (refine all_k ?_; intro kk hkk) | exact hkk
    | (apply cond_t; (· simp only [go_sem, hlx, hly, hd, hz])) | (apply cond_f; (· simp only [go_sem, hlx, hly, hd, hz]))
    | (apply do_cond; (· simp only [go_sem, hlx, hly, hd, hz]; first | done | rfl); all_goals (intro hc; try rw [hc])))
    refine fin_ret (by simp only [aresults, Try.f19, go_sem]; first | done | rfl) ?_
    rw [hb] at hk
    exact hk
  · have hd : decide ((l.length : Int) ≤ a.length) = true := by simp; omega
    have hb : belowOf l a = false := by simp [belowOf, hlt]
    repeat' (first
    | refine pick_end ?_ | refine pick_head (by rfl) ?_ | refine pick_one (by rfl) ?_
    | refine do_end ?_ | refine then_n ?_ | refine then_r ?_ | refine then_e ?_ | refine block_n ?_ | refine block_r ?_ | refine block_e ?_ | refine block_o (by decide) ?_
    | refine go_seq ?_ | refine go_region ?_ | refine plan_nil ?_ | refine plan_cons ?_ | refine do_block ?_ | refine do_scope ?_ | refine do_label ?_ | refine do_skip ?_ | refine do_ret ?_ | refine do_exit ?_
    | (apply do_op; (· simp only [go_sem, hlx, hly, hd]; first | done | rfl); (· simp only [go_sem]; first | done | rfl))
    | (apply do_take; (· simp only [go_sem, hlx, hly, hd]); (· simp only [go_sem, hlx, hly, hd]; first | done | rfl); (· simp only [go_sem]; first | done | rfl))
    | (apply do_pass; (· simp only [go_sem, hlx, hly, hd]; first | done | rfl); (· rfl); (· simp only [go_sem]; first | done | rfl))
    | (apply do_pass0; (· simp only [go_sem, hlx, hly, hd]; first | done | rfl); (· simp only [go_sem]; first | done | rfl))
    | (apply do_split; (· simp only [go_sem, hlx, hly, hd]; first | done | rfl); all_goals (intro hc; rw [hc]))
    | (refine do_drawn ?_ ?_; (· simp only [go_sem, hlx, hly, hd]; done))
    | refine do_drawn2 ?_ ?_ ?_ | exact chk_end | exact chkC_end
    | (refine chk_head (by rfl) ?_ ?_; (· simp only [go_sem, hlx, hly, hd]; done)) | refine chkC_head (by rfl) ?_ ?_
    | (apply chkc_call; (· simp only [go_sem, hlx, hly, hd]; first | done | rfl); (· simp only [go_sem, hlx, hly, hd]; first | done | rfl); (· simp only [go_sem, hlx, hly, hd]; first | done | rfl))
    | (apply chkc_take; (· simp only [go_sem, hlx, hly, hd]); (· simp only [go_sem, hlx, hly, hd]; first | done | rfl); (· simp only [go_sem, hlx, hly, hd]; first | done | rfl); (· simp only [go_sem, hlx, hly, hd]; first | done | rfl))
    | (apply chkc_pass; (· simp only [go_sem, hlx, hly, hd]; first | done | rfl); (· rfl); (· simp only [go_sem, hlx, hly, hd]; first | done | rfl))
    | (apply chkc_pass0; (· simp only [go_sem, hlx, hly, hd]; first | done | rfl); (· simp only [go_sem, hlx, hly, hd]; first | done | rfl))
    | (refine all_k ?_; intro kk hkk) | exact hkk
    | (apply cond_t; (· simp only [go_sem, hlx, hly, hd])) | (apply cond_f; (· simp only [go_sem, hlx, hly, hd]))
    | (apply do_cond; (· simp only [go_sem, hlx, hly, hd]; first | done | rfl); all_goals (intro hc; try rw [hc])))
    refine fin_ret (by simp only [aresults, Try.f19, go_sem]; first | done | rfl) ?_
    rw [hb] at hk
    exact hk

set_option maxRecDepth 10000 in
set_option maxHeartbeats 1000000 in
theorem few_ev (nl ex : Bool) (l : List (List UInt8)) (H : AH) (k : AV → AH → Prop) (hW : WF H) (hk : ∀ nl ex, k (.lit nl ex ((fewOf l).map .str) (fewOf l).length) H) : EvCall Try.prog T G0 15 [.lit nl ex (l.map .str) l.length] H k := by
  have hS : Strs T H 24 9 (.lit nl ex (l.map .str) l.length) l := Strs.lit (by rfl) (by rfl) (by rfl)
  have hlx := hS.len
  generalize hf : fewOf l = F at hk
  refine call_go (Try.func15) rfl (by decide) (by simp only [Try.ntmps15, List.length_cons, List.length_nil, Nat.reduceAdd, Nat.reduceSub, List.replicate, List.cons_append, List.nil_append]; rfl) ?_
  by_cases h12 : 12 < l.length
  · have hd : decide ((l.length : Int) > 12) = true := by simp; omega
    have hc : aslice T H 24 (.lit nl ex (l.map .str) l.length) none (some (.int .i64 12)) none = some (.lit nl (ex && 12 == l.length) ((l.take 12).map .str) (l.take 12).length) := cut_lit (j := 12) (by omega)
    generalize (ex && 12 == l.length) = ex2 at hc
    have hu : ((l.take 12).map fun s => s.take 40) = F := hf
    have hul : (l.take 12).length ≤ 12 := by simp; omega
    repeat' (first
    | refine pick_end ?_ | refine pick_head (by rfl) ?_ | refine pick_one (by rfl) ?_
    | refine do_end ?_ | refine then_n ?_ | refine then_r ?_ | refine then_e ?_ | refine block_n ?_ | refine block_r ?_ | refine block_e ?_ | refine block_o (by decide) ?_
    | refine go_seq ?_ | refine go_region ?_ | refine plan_nil ?_ | refine plan_cons ?_ | refine do_block ?_ | refine do_scope ?_ | refine do_label ?_ | refine do_skip ?_ | refine do_ret ?_ | refine do_exit ?_
    | (apply do_op; (· simp only [go_sem, hlx, hd, hc]; first | done | rfl); (· simp only [go_sem]; first | done | rfl))
    | (apply do_take; (· simp only [go_sem, hlx, hd, hc]); (· simp only [go_sem, hlx, hd, hc]; first | done | rfl); (· simp only [go_sem]; first | done | rfl))
    | (apply do_pass; (· simp only [go_sem, hlx, hd, hc]; first | done | rfl); (· rfl); (· simp only [go_sem]; first | done | rfl))
    | (apply do_pass0; (· simp only [go_sem, hlx, hd, hc]; first | done | rfl); (· simp only [go_sem]; first | done | rfl))
    | (apply do_split; (· simp only [go_sem, hlx, hd, hc]; first | done | rfl); all_goals (intro hc; rw [hc]))
    | (refine do_drawn ?_ ?_; (· simp only [go_sem, hlx, hd, hc]; done))
    | refine do_drawn2 ?_ ?_ ?_ | exact chk_end | exact chkC_end
    | (refine chk_head (by rfl) ?_ ?_; (· simp only [go_sem, hlx, hd, hc]; done)) | refine chkC_head (by rfl) ?_ ?_
    | (apply chkc_call; (· simp only [go_sem, hlx, hd, hc]; first | done | rfl); (· simp only [go_sem, hlx, hd, hc]; first | done | rfl); (· simp only [go_sem, hlx, hd, hc]; first | done | rfl))
    | (apply chkc_take; (· simp only [go_sem, hlx, hd, hc]); (· simp only [go_sem, hlx, hd, hc]; first | done | rfl); (· simp only [go_sem, hlx, hd, hc]; first | done | rfl); (· simp only [go_sem, hlx, hd, hc]; first | done | rfl))
    | (apply chkc_pass; (· simp only [go_sem, hlx, hd, hc]; first | done | rfl); (· rfl); (· simp only [go_sem, hlx, hd, hc]; first | done | rfl))
    | (apply chkc_pass0; (· simp only [go_sem, hlx, hd, hc]; first | done | rfl); (· simp only [go_sem, hlx, hd, hc]; first | done | rfl))
    | (refine all_k ?_; intro kk hkk) | exact hkk
    | (apply cond_t; (· simp only [go_sem, hlx, hd, hc])) | (apply cond_f; (· simp only [go_sem, hlx, hd, hc]))
    | (apply do_cond; (· simp only [go_sem, hlx, hd, hc]; first | done | rfl); all_goals (intro hc; try rw [hc])))
    generalize l.take 12 = u at hu hul ⊢
    have hlu : ∀ H' : AH, abuiltin T H' .len #[24] [.lit nl ex2 (u.map .str) u.length] = some (.int .i64 u.length, H') := fun H' => (Strs.lit (T := T) (H := H') (by rfl) (by rfl) (by rfl)).len
    refine loop_ind (fun d fr H' => ∃ (i : Nat) (x : AV), (∃ j : Nat → AV, fr = [.lit nl ex2 (u.map .str) u.length, j 1, j 2, x, .int .i64 i, j 5, j 6, j 7, j 8, j 9, j 10, j 11, j 12, j 13, j 14, j 15, j 16, j 17, j 18, j 19, j 20, j 21, j 22, j 23, j 24, j 25, j 26, j 27, j 28, j 29, j 30]) ∧ Buf H H' x (((u.take i).map fun s => s.take 40).map .str) ∧ i + d = u.length) ?_ u.length _ _
      ⟨0, _, junk rfl, Buf.nil, by omega⟩
    rintro d fr H' ⟨i, x, ⟨j, rfl⟩, hB, hi⟩
    cases d with
    | zero =>
      have hlt : decide ((i : Int) < u.length) = false := by simp; omega
      rw [List.take_of_length_le (by omega)] at hB
      repeat' (first
    | refine pick_end ?_ | refine pick_head (by rfl) ?_ | refine pick_one (by rfl) ?_
    | refine do_end ?_ | refine then_n ?_ | refine then_r ?_ | refine then_e ?_ | refine block_n ?_ | refine block_r ?_ | refine block_e ?_ | refine block_o (by decide) ?_
    | refine go_seq ?_ | refine go_region ?_ | refine plan_nil ?_ | refine plan_cons ?_ | refine do_block ?_ | refine do_scope ?_ | refine do_label ?_ | refine do_skip ?_ | refine do_ret ?_ | refine do_exit ?_
    | (apply do_op; (· simp only [go_sem, hlt, hlu]; first | done | rfl); (· simp only [go_sem]; first | done | rfl))
    | (apply do_take; (· simp only [go_sem, hlt, hlu]); (· simp only [go_sem, hlt, hlu]; first | done | rfl); (· simp only [go_sem]; first | done | rfl))
    | (apply do_pass; (· simp only [go_sem, hlt, hlu]; first | done | rfl); (· rfl); (· simp only [go_sem]; first | done | rfl))
    | (apply do_pass0; (· simp only [go_sem, hlt, hlu]; first | done | rfl); (· simp only [go_sem]; first | done | rfl))
    | (apply do_split; (· simp only [go_sem, hlt, hlu]; first | done | rfl); all_goals (intro hc; rw [hc]))
    | (refine do_drawn ?_ ?_; (· simp only [go_sem, hlt, hlu]; done))
    | refine do_drawn2 ?_ ?_ ?_ | exact chk_end | exact chkC_end
    | (refine chk_head (by rfl) ?_ ?_; (· simp only [go_sem, hlt, hlu]; done)) | refine chkC_head (by rfl) ?_ ?_
    | (apply chkc_call; (· simp only [go_sem, hlt, hlu]; first | done | rfl); (· simp only [go_sem, hlt, hlu]; first | done | rfl); (· simp only [go_sem, hlt, hlu]; first | done | rfl))
    | (apply chkc_take; (· simp only [go_sem, hlt, hlu]); (· simp only [go_sem, hlt, hlu]; first | done | rfl); (· simp only [go_sem, hlt, hlu]; first | done | rfl); (· simp only [go_sem, hlt, hlu]; first | done | rfl))
    | (apply chkc_pass; (· simp only [go_sem, hlt, hlu]; first | done | rfl); (· rfl); (· simp only [go_sem, hlt, hlu]; first | done | rfl))
    | (apply chkc_pass0; (· simp only [go_sem, hlt, hlu]; first | done | rfl); (· simp only [go_sem, hlt, hlu]; first | done | rfl))
    | (refine all_k ?_; intro kk hkk) | exact hkk
    | (apply cond_t; (· simp only [go_sem, hlt, hlu])) | (apply cond_f; (· simp only [go_sem, hlt, hlu]))
    | (apply do_cond; (· simp only [go_sem, hlt, hlu]; first | done | rfl); all_goals (intro hc; try rw [hc])))
      obtain ⟨nl2, ex3, hv⟩ := hB.ret hW lows_str
      refine fin_vs (by simp only [aresults, Try.f15, go_sem]; first | done | rfl) hv ?_
      have := hk nl2 ex3
      rw [← hu] at this
      simpa using this
    | succ d =>
      have hlt : decide ((i : Int) < u.length) = true := by simp; omega
      obtain ⟨z, hz1⟩ : ∃ s, u[i]? = some s := ⟨u[i]'(by omega), List.getElem?_eq_getElem (by omega)⟩
      obtain ⟨p, hp1, hp2⟩ := (Strs.lit (T := T) (H := H') (t := 24) (e := 9) (by rfl) (by rfl) (by rfl) (nl := nl) (ex := ex2)).item i z hz1
      have hw : IntKind.i64.wrap ((i : Int) + 1) = ((i + 1 : Nat) : Int) := wrap_succ (by omega)
      have hol : (((u.take i).map fun s => s.take 40).map AV.str).length ≤ 12 := by simp; omega
      obtain ⟨x2, H2, ha, hB2⟩ := (hB.push (.cells [.str (z.take 40)])).append (T := T) (t := 24) (u := 24) (e := 9) (y := .ref true H'.length 0 1 1) (new := [.str (z.take 40)]) (by rfl) (by rfl) (by rfl) (by rfl) (by simp [acells])
        (by simp only [List.length_cons, List.length_nil]; unfold maxLen; omega) (by simp only [List.length_cons, List.length_nil, T_9, ty9]; omega)
      have hB3 : Buf H H2 x2 (((u.take (i + 1)).map fun s => s.take 40).map .str) := by
        rw [List.take_add_one, hz1]
        simpa using hB2
      by_cases h40 : 40 < z.length
      · have hd : decide ((z.length : Int) > 40) = true := by simp; omega
        have hcz : aslice T H' 9 (.str z) none (some (.int .i64 40)) none = some (.str (z.take 40)) := cut_str (j := 40) (by omega)
        repeat' (first
    | refine pick_end ?_ | refine pick_head (by rfl) ?_ | refine pick_one (by rfl) ?_
    | refine do_end ?_ | refine then_n ?_ | refine then_r ?_ | refine then_e ?_ | refine block_n ?_ | refine block_r ?_ | refine block_e ?_ | refine block_o (by decide) ?_
    | refine go_seq ?_ | refine go_region ?_ | refine plan_nil ?_ | refine plan_cons ?_ | refine do_block ?_ | refine do_scope ?_ | refine do_label ?_ | refine do_skip ?_ | refine do_ret ?_ | refine do_exit ?_
    | (apply do_op; (· simp only [go_sem, hlt, hw, hlu, hp1, hp2, hd, hcz, ha]; first | done | rfl); (· simp only [go_sem]; first | done | rfl))
    | (apply do_take; (· simp only [go_sem, hlt, hw, hlu, hp1, hp2, hd, hcz, ha]); (· simp only [go_sem, hlt, hw, hlu, hp1, hp2, hd, hcz, ha]; first | done | rfl); (· simp only [go_sem]; first | done | rfl))
    | (apply do_pass; (· simp only [go_sem, hlt, hw, hlu, hp1, hp2, hd, hcz, ha]; first | done | rfl); (· rfl); (· simp only [go_sem]; first | done | rfl))
    | (apply do_pass0; (· simp only [go_sem, hlt, hw, hlu, hp1, hp2, hd, hcz, ha]; first | done | rfl); (· simp only [go_sem]; first | done | rfl))
    | (apply do_split; (· simp only [go_sem, hlt, hw, hlu, hp1, hp2, hd, hcz, ha]; first | done | rfl); all_goals (intro hc; rw [hc]))
    | (refine do_drawn ?_ ?_; (· simp only [go_sem, hlt, hw, hlu, hp1, hp2, hd, hcz, ha]; done))
    | refine do_drawn2 ?_ ?_ ?_ | exact chk_end | exact chkC_end
    | (refine chk_head (by rfl) ?_ ?_; (· simp only [go_sem, hlt, hw, hlu, hp1, hp2, hd, hcz, ha]; done)) | refine chkC_head (by rfl) ?_ ?_
    | (apply chkc_call; (· simp only [go_sem, hlt, hw, hlu, hp1, hp2, hd, hcz, ha]; first | done | rfl); (· simp only [go_sem, hlt, hw, hlu, hp1, hp2, hd, hcz, ha]; first | done | rfl); (· simp only [go_sem, hlt, hw, hlu, hp1, hp2, hd, hcz, ha]; first | done | rfl))
    | (apply chkc_take; (· simp only [go_sem, hlt, hw, hlu, hp1, hp2, hd, hcz, ha]); (· simp only [go_sem, hlt, hw, hlu, hp1, hp2, hd, hcz, ha]; first | done | rfl); (· simp only [go_sem, hlt, hw, hlu, hp1, hp2, hd, hcz, ha]; first | done | rfl); (· simp only [go_sem, hlt, hw, hlu, hp1, hp2, hd, hcz, ha]; first | done | rfl))
    | (apply chkc_pass; (· simp only [go_sem, hlt, hw, hlu, hp1, hp2, hd, hcz, ha]; first | done | rfl); (· rfl); (· simp only [go_sem, hlt, hw, hlu, hp1, hp2, hd, hcz, ha]; first | done | rfl))
    | (apply chkc_pass0; (· simp only [go_sem, hlt, hw, hlu, hp1, hp2, hd, hcz, ha]; first | done | rfl); (· simp only [go_sem, hlt, hw, hlu, hp1, hp2, hd, hcz, ha]; first | done | rfl))
    | (refine all_k ?_; intro kk hkk) | exact hkk
    | (apply cond_t; (· simp only [go_sem, hlt, hw, hlu, hp1, hp2, hd, hcz, ha])) | (apply cond_f; (· simp only [go_sem, hlt, hw, hlu, hp1, hp2, hd, hcz, ha]))
    | (apply do_cond; (· simp only [go_sem, hlt, hw, hlu, hp1, hp2, hd, hcz, ha]; first | done | rfl); all_goals (intro hc; try rw [hc])))
        exact ⟨d, Nat.lt_succ_self d, i + 1, _, junk rfl, hB3, by omega⟩
      · have hd : decide ((z.length : Int) > 40) = false := by simp; omega
        have hzz : z.take 40 = z := List.take_of_length_le (by omega)
        rw [hzz] at ha
        repeat' (first
    | refine pick_end ?_ | refine pick_head (by rfl) ?_ | refine pick_one (by rfl) ?_
    | refine do_end ?_ | refine then_n ?_ | refine then_r ?_ | refine then_e ?_ | refine block_n ?_ | refine block_r ?_ | refine block_e ?_ | refine block_o (by decide) ?_
    | refine go_seq ?_ | refine go_region ?_ | refine plan_nil ?_ | refine plan_cons ?_ | refine do_block ?_ | refine do_scope ?_ | refine do_label ?_ | refine do_skip ?_ | refine do_ret ?_ | refine do_exit ?_
    | (apply do_op; (· simp only [go_sem, hlt, hw, hlu, hp1, hp2, hd, ha]; first | done | rfl); (· simp only [go_sem]; first | done | rfl))
    | (apply do_take; (· simp only [go_sem, hlt, hw, hlu, hp1, hp2, hd, ha]); (· simp only [go_sem, hlt, hw, hlu, hp1, hp2, hd, ha]; first | done | rfl); (· simp only [go_sem]; first | done | rfl))
    | (apply do_pass; (· simp only [go_sem, hlt, hw, hlu, hp1, hp2, hd, ha]; first | done | rfl); (· rfl); (· simp only [go_sem]; first | done | rfl))
    | (apply do_pass0; (· simp only [go_sem, hlt, hw, hlu, hp1, hp2, hd, ha]; first | done | rfl); (· simp only [go_sem]; first | done | rfl))
    | (apply do_split; (· simp only [go_sem, hlt, hw, hlu, hp1, hp2, hd, ha]; first | done | rfl); all_goals (intro hc; rw [hc]))
    | (refine do_drawn ?_ ?_; (· simp only [go_sem, hlt, hw, hlu, hp1, hp2, hd, ha]; done))
    | refine do_drawn2 ?_ ?_ ?_ | exact chk_end | exact chkC_end
    | (refine chk_head (by rfl) ?_ ?_; (· simp only [go_sem, hlt, hw, hlu, hp1, hp2, hd, ha]; done)) | refine chkC_head (by rfl) ?_ ?_
    | (apply chkc_call; (· simp only [go_sem, hlt, hw, hlu, hp1, hp2, hd, ha]; first | done | rfl); (· simp only [go_sem, hlt, hw, hlu, hp1, hp2, hd, ha]; first | done | rfl); (· simp only [go_sem, hlt, hw, hlu, hp1, hp2, hd, ha]; first | done | rfl))
    | (apply chkc_take; (· simp only [go_sem, hlt, hw, hlu, hp1, hp2, hd, ha]); (· simp only [go_sem, hlt, hw, hlu, hp1, hp2, hd, ha]; first | done | rfl); (· simp only [go_sem, hlt, hw, hlu, hp1, hp2, hd, ha]; first | done | rfl); (· simp only [go_sem, hlt, hw, hlu, hp1, hp2, hd, ha]; first | done | rfl))
    | (apply chkc_pass; (· simp only [go_sem, hlt, hw, hlu, hp1, hp2, hd, ha]; first | done | rfl); (· rfl); (· simp only [go_sem, hlt, hw, hlu, hp1, hp2, hd, ha]; first | done | rfl))
    | (apply chkc_pass0; (· simp only [go_sem, hlt, hw, hlu, hp1, hp2, hd, ha]; first | done | rfl); (· simp only [go_sem, hlt, hw, hlu, hp1, hp2, hd, ha]; first | done | rfl))
    | (refine all_k ?_; intro kk hkk) | exact hkk
    | (apply cond_t; (· simp only [go_sem, hlt, hw, hlu, hp1, hp2, hd, ha])) | (apply cond_f; (· simp only [go_sem, hlt, hw, hlu, hp1, hp2, hd, ha]))
    | (apply do_cond; (· simp only [go_sem, hlt, hw, hlu, hp1, hp2, hd, ha]; first | done | rfl); all_goals (intro hc; try rw [hc])))
        exact ⟨d, Nat.lt_succ_self d, i + 1, _, junk rfl, hB3, by omega⟩
  · have hd : decide ((l.length : Int) > 12) = false := by simp; omega
    have hu : (l.map fun s => s.take 40) = F := by rw [← hf]; unfold fewOf; rw [List.take_of_length_le (by omega)]
    clear hf
    repeat' (first
    | refine pick_end ?_ | refine pick_head (by rfl) ?_ | refine pick_one (by rfl) ?_
    | refine do_end ?_ | refine then_n ?_ | refine then_r ?_ | refine then_e ?_ | refine block_n ?_ | refine block_r ?_ | refine block_e ?_ | refine block_o (by decide) ?_
    | refine go_seq ?_ | refine go_region ?_ | refine plan_nil ?_ | refine plan_cons ?_ | refine do_block ?_ | refine do_scope ?_ | refine do_label ?_ | refine do_skip ?_ | refine do_ret ?_ | refine do_exit ?_
    | (apply do_op; (· simp only [go_sem, hlx, hd]; first | done | rfl); (· simp only [go_sem]; first | done | rfl))
    | (apply do_take; (· simp only [go_sem, hlx, hd]); (· simp only [go_sem, hlx, hd]; first | done | rfl); (· simp only [go_sem]; first | done | rfl))
    | (apply do_pass; (· simp only [go_sem, hlx, hd]; first | done | rfl); (· rfl); (· simp only [go_sem]; first | done | rfl))
    | (apply do_pass0; (· simp only [go_sem, hlx, hd]; first | done | rfl); (· simp only [go_sem]; first | done | rfl))
    | (apply do_split; (· simp only [go_sem, hlx, hd]; first | done | rfl); all_goals (intro hc; rw [hc]))
    | (refine do_drawn ?_ ?_; (· simp only [go_sem, hlx, hd]; done))
    | refine do_drawn2 ?_ ?_ ?_ | exact chk_end | exact chkC_end
    | (refine chk_head (by rfl) ?_ ?_; (· simp only [go_sem, hlx, hd]; done)) | refine chkC_head (by rfl) ?_ ?_
    | (apply chkc_call; (· simp only [go_sem, hlx, hd]; first | done | rfl); (· simp only [go_sem, hlx, hd]; first | done | rfl); (· simp only [go_sem, hlx, hd]; first | done | rfl))
    | (apply chkc_take; (· simp only [go_sem, hlx, hd]); (· simp only [go_sem, hlx, hd]; first | done | rfl); (· simp only [go_sem, hlx, hd]; first | done | rfl); (· simp only [go_sem, hlx, hd]; first | done | rfl))
    | (apply chkc_pass; (· simp only [go_sem, hlx, hd]; first | done | rfl); (· rfl); (· simp only [go_sem, hlx, hd]; first | done | rfl))
    | (apply chkc_pass0; (· simp only [go_sem, hlx, hd]; first | done | rfl); (· simp only [go_sem, hlx, hd]; first | done | rfl))
    | (refine all_k ?_; intro kk hkk) | exact hkk
    | (apply cond_t; (· simp only [go_sem, hlx, hd])) | (apply cond_f; (· simp only [go_sem, hlx, hd]))
    | (apply do_cond; (· simp only [go_sem, hlx, hd]; first | done | rfl); all_goals (intro hc; try rw [hc])))
    have hul : l.length ≤ 12 := by omega
    generalize l = u at hu hul ⊢
    generalize ex = ex2
    have hlu : ∀ H' : AH, abuiltin T H' .len #[24] [.lit nl ex2 (u.map .str) u.length] = some (.int .i64 u.length, H') := fun H' => (Strs.lit (T := T) (H := H') (by rfl) (by rfl) (by rfl)).len
    refine loop_ind (fun d fr H' => ∃ (i : Nat) (x : AV), (∃ j : Nat → AV, fr = [.lit nl ex2 (u.map .str) u.length, j 1, j 2, x, .int .i64 i, j 5, j 6, j 7, j 8, j 9, j 10, j 11, j 12, j 13, j 14, j 15, j 16, j 17, j 18, j 19, j 20, j 21, j 22, j 23, j 24, j 25, j 26, j 27, j 28, j 29, j 30]) ∧ Buf H H' x (((u.take i).map fun s => s.take 40).map .str) ∧ i + d = u.length) ?_ u.length _ _
      ⟨0, _, junk rfl, Buf.nil, by omega⟩
    rintro d fr H' ⟨i, x, ⟨j, rfl⟩, hB, hi⟩
    cases d with
    | zero =>
      have hlt : decide ((i : Int) < u.length) = false := by simp; omega
      rw [List.take_of_length_le (by omega)] at hB
      repeat' (first
    | refine pick_end ?_ | refine pick_head (by rfl) ?_ | refine pick_one (by rfl) ?_
    | refine do_end ?_ | refine then_n ?_ | refine then_r ?_ | refine then_e ?_ | refine block_n ?_ | refine block_r ?_ | refine block_e ?_ | refine block_o (by decide) ?_
    | refine go_seq ?_ | refine go_region ?_ | refine plan_nil ?_ | refine plan_cons ?_ | refine do_block ?_ | refine do_scope ?_ | refine do_label ?_ | refine do_skip ?_ | refine do_ret ?_ | refine do_exit ?_
    | (apply do_op; (· simp only [go_sem, hlt, hlu]; first | done | rfl); (· simp only [go_sem]; first | done | rfl))
    | (apply do_take; (· simp only [go_sem, hlt, hlu]); (· simp only [go_sem, hlt, hlu]; first | done | rfl); (· simp only [go_sem]; first | done | rfl))
    | (apply do_pass; (· simp only [go_sem, hlt, hlu]; first | done | rfl); (· rfl); (· simp only [go_sem]; first | done | rfl))
    | (apply do_pass0; (· simp only [go_sem, hlt, hlu]; first | done | rfl); (· simp only [go_sem]; first | done | rfl))
    | (apply do_split; (· simp only [go_sem, hlt, hlu]; first | done | rfl); all_goals (intro hc; rw [hc]))
    | (refine do_drawn ?_ ?_; (· simp only [go_sem, hlt, hlu]; done))
    | refine do_drawn2 ?_ ?_ ?_ | exact chk_end | exact chkC_end
    | (refine chk_head (by rfl) ?_ ?_; (· simp only [go_sem, hlt, hlu]; done)) | refine chkC_head (by rfl) ?_ ?_
    | (apply chkc_call; (· simp only [go_sem, hlt, hlu]; first | done | rfl); (· simp only [go_sem, hlt, hlu]; first | done | rfl); (· simp only [go_sem, hlt, hlu]; first | done | rfl))
    | (apply chkc_take; (· simp only [go_sem, hlt, hlu]); (· simp only [go_sem, hlt, hlu]; first | done | rfl); (· simp only [go_sem, hlt, hlu]; first | done | rfl); (· simp only [go_sem, hlt, hlu]; first | done | rfl))
    | (apply chkc_pass; (· simp only [go_sem, hlt, hlu]; first | done | rfl); (· rfl); (· simp only [go_sem, hlt, hlu]; first | done | rfl))
    | (apply chkc_pass0; (· simp only [go_sem, hlt, hlu]; first | done | rfl); (· simp only [go_sem, hlt, hlu]; first | done | rfl))
    | (refine all_k ?_; intro kk hkk) | exact hkk
    | (apply cond_t; (· simp only [go_sem, hlt, hlu])) | (apply cond_f; (· simp only [go_sem, hlt, hlu]))
    | (apply do_cond; (· simp only [go_sem, hlt, hlu]; first | done | rfl); all_goals (intro hc; try rw [hc])))
      obtain ⟨nl2, ex3, hv⟩ := hB.ret hW lows_str
      refine fin_vs (by simp only [aresults, Try.f15, go_sem]; first | done | rfl) hv ?_
      have := hk nl2 ex3
      rw [← hu] at this
      simpa using this
    | succ d =>
      have hlt : decide ((i : Int) < u.length) = true := by simp; omega
      obtain ⟨z, hz1⟩ : ∃ s, u[i]? = some s := ⟨u[i]'(by omega), List.getElem?_eq_getElem (by omega)⟩
      obtain ⟨p, hp1, hp2⟩ := (Strs.lit (T := T) (H := H') (t := 24) (e := 9) (by rfl) (by rfl) (by rfl) (nl := nl) (ex := ex2)).item i z hz1
      have hw : IntKind.i64.wrap ((i : Int) + 1) = ((i + 1 : Nat) : Int) := wrap_succ (by omega)
      have hol : (((u.take i).map fun s => s.take 40).map AV.str).length ≤ 12 := by simp; omega
      obtain ⟨x2, H2, ha, hB2⟩ := (hB.push (.cells [.str (z.take 40)])).append (T := T) (t := 24) (u := 24) (e := 9) (y := .ref true H'.length 0 1 1) (new := [.str (z.take 40)]) (by rfl) (by rfl) (by rfl) (by rfl) (by simp [acells])
        (by simp only [List.length_cons, List.length_nil]; unfold maxLen; omega) (by simp only [List.length_cons, List.length_nil, T_9, ty9]; omega)
      have hB3 : Buf H H2 x2 (((u.take (i + 1)).map fun s => s.take 40).map .str) := by
        rw [List.take_add_one, hz1]
        simpa using hB2
      by_cases h40 : 40 < z.length
      · have hd : decide ((z.length : Int) > 40) = true := by simp; omega
        have hcz : aslice T H' 9 (.str z) none (some (.int .i64 40)) none = some (.str (z.take 40)) := cut_str (j := 40) (by omega)
        repeat' (first
    | refine pick_end ?_ | refine pick_head (by rfl) ?_ | refine pick_one (by rfl) ?_
    | refine do_end ?_ | refine then_n ?_ | refine then_r ?_ | refine then_e ?_ | refine block_n ?_ | refine block_r ?_ | refine block_e ?_ | refine block_o (by decide) ?_
    | refine go_seq ?_ | refine go_region ?_ | refine plan_nil ?_ | refine plan_cons ?_ | refine do_block ?_ | refine do_scope ?_ | refine do_label ?_ | refine do_skip ?_ | refine do_ret ?_ | refine do_exit ?_
    | (apply do_op; (· simp only [go_sem, hlt, hw, hlu, hp1, hp2, hd, hcz, ha]; first | done | rfl); (· simp only [go_sem]; first | done | rfl))
    | (apply do_take; (· simp only [go_sem, hlt, hw, hlu, hp1, hp2, hd, hcz, ha]); (· simp only [go_sem, hlt, hw, hlu, hp1, hp2, hd, hcz, ha]; first | done | rfl); (· simp only [go_sem]; first | done | rfl))
    | (apply do_pass; (· simp only [go_sem, hlt, hw, hlu, hp1, hp2, hd, hcz, ha]; first | done | rfl); (· rfl); (· simp only [go_sem]; first | done | rfl))
    | (apply do_pass0; (· simp only [go_sem, hlt, hw, hlu, hp1, hp2, hd, hcz, ha]; first | done | rfl); (· simp only [go_sem]; first | done | rfl))
    | (apply do_split; (· simp only [go_sem, hlt, hw, hlu, hp1, hp2, hd, hcz, ha]; first | done | rfl); all_goals (intro hc; rw [hc]))
    | (refine do_drawn ?_ ?_; (· simp only [go_sem, hlt, hw, hlu, hp1, hp2, hd, hcz, ha]; done))
    | refine do_drawn2 ?_ ?_ ?_ | exact chk_end | exact chkC_end
    | (refine chk_head (by rfl) ?_ ?_; (· simp only [go_sem, hlt, hw, hlu, hp1, hp2, hd, hcz, ha]; done)) | refine chkC_head (by rfl) ?_ ?_
    | (apply chkc_call; (· simp only [go_sem, hlt, hw, hlu, hp1, hp2, hd, hcz, ha]; first | done | rfl); (· simp only [go_sem, hlt, hw, hlu, hp1, hp2, hd, hcz, ha]; first | done | rfl); (· simp only [go_sem, hlt, hw, hlu, hp1, hp2, hd, hcz, ha]; first | done | rfl))
    | (apply chkc_take; (· simp only [go_sem, hlt, hw, hlu, hp1, hp2, hd, hcz, ha]); (· simp only [go_sem, hlt, hw, hlu, hp1, hp2, hd, hcz, ha]; first | done | rfl); (· simp only [go_sem, hlt, hw, hlu, hp1, hp2, hd, hcz, ha]; first | done | rfl); (· simp only [go_sem, hlt, hw, hlu, hp1, hp2, hd, hcz, ha]; first | done | rfl))
    | (apply chkc_pass; (· simp only [go_sem, hlt, hw, hlu, hp1, hp2, hd, hcz, ha]; first | done | rfl); (· rfl); (· simp only [go_sem, hlt, hw, hlu, hp1, hp2, hd, hcz, ha]; first | done | rfl))
    | (apply chkc_pass0; (· simp only [go_sem, hlt, hw, hlu, hp1, hp2, hd, hcz, ha]; first | done | rfl); (· simp only [go_sem, hlt, hw, hlu, hp1, hp2, hd, hcz, ha]; first | done | rfl))
    | (refine all_k ?_; intro kk hkk) | exact hkk
    | (apply cond_t; (· simp only [go_sem, hlt, hw, hlu, hp1, hp2, hd, hcz, ha])) | (apply cond_f; (· simp only [go_sem, hlt, hw, hlu, hp1, hp2, hd, hcz, ha]))
    | (apply do_cond; (· simp only [go_sem, hlt, hw, hlu, hp1, hp2, hd, hcz, ha]; first | done | rfl); all_goals (intro hc; try rw [hc])))
        exact ⟨d, Nat.lt_succ_self d, i + 1, _, junk rfl, hB3, by omega⟩
      · have hd : decide ((z.length : Int) > 40) = false := by simp; omega
        have hzz : z.take 40 = z := List.take_of_length_le (by omega)
        rw [hzz] at ha
        repeat' (first
    | refine pick_end ?_ | refine pick_head (by rfl) ?_ | refine pick_one (by rfl) ?_
    | refine do_end ?_ | refine then_n ?_ | refine then_r ?_ | refine then_e ?_ | refine block_n ?_ | refine block_r ?_ | refine block_e ?_ | refine block_o (by decide) ?_
    | refine go_seq ?_ | refine go_region ?_ | refine plan_nil ?_ | refine plan_cons ?_ | refine do_block ?_ | refine do_scope ?_ | refine do_label ?_ | refine do_skip ?_ | refine do_ret ?_ | refine do_exit ?_
    | (apply do_op; (· simp only [go_sem, hlt, hw, hlu, hp1, hp2, hd, ha]; first | done | rfl); (· simp only [go_sem]; first | done | rfl))
    | (apply do_take; (· simp only [go_sem, hlt, hw, hlu, hp1, hp2, hd, ha]); (· simp only [go_sem, hlt, hw, hlu, hp1, hp2, hd, ha]; first | done | rfl); (· simp only [go_sem]; first | done | rfl))
    | (apply do_pass; (· simp only [go_sem, hlt, hw, hlu, hp1, hp2, hd, ha]; first | done | rfl); (· rfl); (· simp only [go_sem]; first | done | rfl))
    | (apply do_pass0; (· simp only [go_sem, hlt, hw, hlu, hp1, hp2, hd, ha]; first | done | rfl); (· simp only [go_sem]; first | done | rfl))
    | (apply do_split; (· simp only [go_sem, hlt, hw, hlu, hp1, hp2, hd, ha]; first | done | rfl); all_goals (intro hc; rw [hc]))
    | (refine do_drawn ?_ ?_; (· simp only [go_sem, hlt, hw, hlu, hp1, hp2, hd, ha]; done))
    | refine do_drawn2 ?_ ?_ ?_ | exact chk_end | exact chkC_end
    | (refine chk_head (by rfl) ?_ ?_; (· simp only [go_sem, hlt, hw, hlu, hp1, hp2, hd, ha]; done)) | refine chkC_head (by rfl) ?_ ?_
    | (apply chkc_call; (· simp only [go_sem, hlt, hw, hlu, hp1, hp2, hd, ha]; first | done | rfl); (· simp only [go_sem, hlt, hw, hlu, hp1, hp2, hd, ha]; first | done | rfl); (· simp only [go_sem, hlt, hw, hlu, hp1, hp2, hd, ha]; first | done | rfl))
    | (apply chkc_take; (· simp only [go_sem, hlt, hw, hlu, hp1, hp2, hd, ha]); (· simp only [go_sem, hlt, hw, hlu, hp1, hp2, hd, ha]; first | done | rfl); (· simp only [go_sem, hlt, hw, hlu, hp1, hp2, hd, ha]; first | done | rfl); (· simp only [go_sem, hlt, hw, hlu, hp1, hp2, hd, ha]; first | done | rfl))
    | (apply chkc_pass; (· simp only [go_sem, hlt, hw, hlu, hp1, hp2, hd, ha]; first | done | rfl); (· rfl); (· simp only [go_sem, hlt, hw, hlu, hp1, hp2, hd, ha]; first | done | rfl))
    | (apply chkc_pass0; (· simp only [go_sem, hlt, hw, hlu, hp1, hp2, hd, ha]; first | done | rfl); (· simp only [go_sem, hlt, hw, hlu, hp1, hp2, hd, ha]; first | done | rfl))
    | (refine all_k ?_; intro kk hkk) | exact hkk
    | (apply cond_t; (· simp only [go_sem, hlt, hw, hlu, hp1, hp2, hd, ha])) | (apply cond_f; (· simp only [go_sem, hlt, hw, hlu, hp1, hp2, hd, ha]))
    | (apply do_cond; (· simp only [go_sem, hlt, hw, hlu, hp1, hp2, hd, ha]; first | done | rfl); all_goals (intro hc; try rw [hc])))
        exact ⟨d, Nat.lt_succ_self d, i + 1, _, junk rfl, hB3, by omega⟩
end Go.Proofs.Ytecjmbglnkpnnaa
