/- What each function of these laws comes to. Printed by main.py; no conditions. -/
import Derived.Test.YtbdomlbmbcnaeaaSort
import Derived.Test.YtbdomlbmbcnaeaaAwk
import Derived.Test.YtbdomlbmbcnaeaaAbnC
import Derived.Test.YtbdomlbmbcnaeaaDecA
import Derived.Test.YtbdomlbmbcnaeaaComp
namespace Go.Proofs.Ytbdomlbmbcnaeaa
open Go.Abs
set_option maxRecDepth 100000
attribute [local irreducible] ev evAt evW evList evOp evRes EvCall VS aop aload astore AX.then AX.inBlock kRun kRunQ aput evRows
set_option linter.unusedVariables false
def prune_Book_Held_J1 (p11125 : Sl Held) : Option (Sl Held) :=
  (sortHeld p11125).bind fun y11126 => (compactHeld y11126).bind fun y11127 => some y11127
def prune_Book_Held_B11142 (a0 : Sl Prune_state) (k11142 : ((Sl Held) × Int) → Option (Sl Held)) (x11142 : (Sl Held) × Int) : Option (Sl Held) :=
  if iLt x11142.2 (a0.l.length : Int) = true then (idxL a0.l x11142.2).bind fun y11145 => (appL 16 x11142.1 y11145.l.l).bind fun y11146 => k11142 (y11146, iAdd .i64 x11142.2 1) else prune_Book_Held_J1 x11142.1
def prune_Book_Held (a0 : Sl Prune_state) (a1 : Sl Held) : Option (Sl Held) :=
  (appL 16 (⟨false, true, []⟩ : Sl Held) a1.l).bind fun y11105 => loopN (prune_Book_Held_B11142 a0) FUEL (y11105, 0)
theorem prune_Book_Held_ev {a0 : Sl Prune_state} {a1 : Sl Held} {r : (Sl Held)} (hF : prune_Book_Held a0 a1 = some r) : EvCall Try.prog T G0 16 [.ptr 0 0] [.cells ((cL cPrune_state) a0 ++ [rfv false a1 1 2]), rfb cHeld a1] (fun v H' => v = sl cHeld r ∧ H' = [.cells ((cL cPrune_state) a0 ++ [rfv false a1 1 2]), rfb cHeld a1]) := by
 refine xc Try.func16 ?_
 refine xq ?_
 refine wh 1 ?_
 refine we ?_
 refine ng ?_
 refine xs ?_
 refine xq ?_
 refine wh 2 ?_
 refine we ?_
 refine ng ?_
 refine xF ?_
 refine xk ?_
 refine ng ?_
 refine xq ?_
 refine wr 5 [.cells ((cL cPrune_state) a0 ++ [rfv false a1 1 2]), rfb cHeld a1, rfb cHeld (⟨false, true, []⟩ : Sl Held)] ?_
 refine bind_elim hF (fun y11105 hy11105 hF => w_rapp cHeld (e := 41) (l := 2) (ex := true) (y := rfv false a1 1 2) (sz := 2) (x := (⟨false, true, []⟩ : Sl Held)) (ys := a1.l) hy11105 (by kernel_rfl) (by decide) len_cHeld (by kernel_rfl) (gives_rf (by kernel_rfl) rfl rfl len_cHeld (by kernel_rfl)) ?_)
 refine wr 7 [.cells ((cL cPrune_state) a0 ++ [rfv false a1 1 2]), rfb cHeld a1, .dead, rfb cHeld y11105] ?_
 refine we ?_
 refine ng ?_
 refine xj (fun fr H => ∃ (p11125 : Sl Held), fr = [.any, .any, .any, rfv false p11125 2 2, .any, .any, .any, .bool false, .any, .any, .any, .any, .any, .any, .any, .any, .any, .any, .any, .any, .bool false, .any, .any, .any, .any, .any, .any, .any, .any, .any, .any, .any] ∧ H = [.cells ((cL cPrune_state) a0 ++ [rfv false a1 1 2]), rfb cHeld a1, rfb cHeld p11125] ∧ prune_Book_Held_J1 p11125 = some r) (fun fr H ⟨p11125, e1, e2, hF⟩ => ?_) (fun hJ1 => ?_)
 ·subst e1 e2
  refine xq ?_
  refine wh 1 ?_
  refine bind_elim hF (fun y11126 hy11126 hF => uO [2] [2] (v := .tup []) [rfb cHeld y11126] [.cells ((cL cPrune_state) a0 ++ [rfv false a1 1 2]), rfb cHeld a1, rfb cHeld y11126] (sortHeld_ev (ex := false) hy11126) (by kernel_rfl) (pl (b' := rfb cHeld p11125) (by kernel_rfl) (sb_low (noref_rfb low_cHeld _)) pl_nil) rfl (sbs (sb_low (noref_rfb low_cHeld _)) sbs_nil) ?_)
  refine we ?_
  refine ng ?_
  refine xq ?_
  refine wh 1 ?_
  refine bind_elim hF (fun y11127 hy11127 hF => uO [2] [2] (v := sl cHeld y11127) [.dead] [.cells ((cL cPrune_state) a0 ++ [rfv false a1 1 2]), rfb cHeld a1, .dead] (compactHeld_ev (ex := false) (sortHeld_len hy11126) (sortHeld_nl hy11126) hy11127) (by kernel_rfl) (pl (b' := rfb cHeld y11126) (by kernel_rfl) (sb_low (noref_rfb low_cHeld _)) pl_nil) (tight_sl low_cHeld) (sbs sb_dead sbs_nil) ?_)
  refine wh 3 ?_
  refine we ?_
  refine ng ?_
  refine xt ?_
  have e := Option.some.inj hF
  subst e
  exact fS [0, 1] (.inl rfl) (tight_sl low_cHeld) (shh (b0 := .cells ((cL cPrune_state) a0 ++ [rfv false a1 1 2])) (by kernel_rfl) (shb_cells (by kernel_rfl) (by kernel_rfl) (tights_app (tights_lows ((low_cL low_cPrune_state) _)) (tights_cons rfl rfl))) (shh (b0 := rfb cHeld a1) (by kernel_rfl) (NoRef.shb (noref_rfb low_cHeld _)) shh_nil)) ⟨rfl, rfl⟩
 refine xq ?_
 refine wh 6 ?_
 refine we ?_
 refine ng ?_
 refine xb ?_
 refine x_loop (fun d fr H => ∃ (x11142 : (Sl Held) × Int) (g11134 : Option Bool), fr = [.any, .any, .any, rfv false x11142.1 2 2, .any, .any, .any, .bool false, .any, .any, .any, .any, .any, .any, .any, .any, .any, sl cPrune_state a0, .int .i64 (a0.l.length : Int), .int .i64 x11142.2, junkB g11134, .any, .any, .any, .any, .any, .any, .any, .any, .any, .any, .any] ∧ H = [.cells ((cL cPrune_state) a0 ++ [rfv false a1 1 2]), rfb cHeld a1, rfb cHeld x11142.1] ∧ loopN (prune_Book_Held_B11142 a0) d x11142 = some r) (by kernel_rfl) (fun fr H ⟨x11142, g11134, e1, e2, hF⟩ => loop_no hF) (fun d11142 fr H ⟨x11142, g11134, e1, e2, hF⟩ => ?_) (VS.si [0, 1, 3] 4294049655 (tights_at [17] (by kernel_rfl) (by exact ⟨(tight_sl low_cPrune_state), trivial⟩)) (shh (b0 := .cells ((cL cPrune_state) a0 ++ [rfv false a1 1 2])) (by kernel_rfl) (shb_cells (by kernel_rfl) (by kernel_rfl) (tights_app (tights_lows ((low_cL low_cPrune_state) _)) (tights_cons rfl rfl))) (shh (b0 := rfb cHeld a1) (by kernel_rfl) (NoRef.shb (noref_rfb low_cHeld _)) (shh (b0 := rfb cHeld y11105) (by kernel_rfl) (NoRef.shb (noref_rfb low_cHeld _)) shh_nil)))) ⟨(y11105, 0), none, rfl, rfl, hF⟩
 subst e1 e2
 have hF := loop_in hF
 refine xq ?_
 refine wh 1 ?_
 refine we ?_
 refine ng ?_
 refine xs ?_
 refine ite_elim hF (fun hc1 hF => ?_) (fun hc1 hF => ?_)
 ·refine kT 20 hc1 ?_
  refine xT ?_
  refine xk ?_
  refine ng ?_
  refine xs ?_
  refine xb ?_
  refine xq ?_
  refine bind_elim hF (fun y11145 hy11145 hF => uI cPrune_state 2 hy11145 len_cPrune_state ?_)
  refine uE cPrune_state 0 (t := 63) (v := .agg (cPrune_state y11145)) 2 2 hy11145 len_cPrune_state ?_
  refine wr 4 [.cells ((cL cPrune_state) a0 ++ [rfv false a1 1 2]), rfb cHeld a1, rfb cHeld x11142.1, .cells (cPrune_state y11145)] ?_
  refine we ?_
  refine ng ?_
  refine xr ?_
  refine wh 3 ?_
  refine bind_elim hF (fun y11146 hy11146 hF => w_rapp cHeld (e := 41) (l := 2) (ex := false) (y := sl cHeld y11145.l) (sz := 2) (x := x11142.1) (ys := y11145.l.l) hy11146 (by kernel_rfl) (by decide) len_cHeld (by kernel_rfl) (gives_sl (x := y11145.l) (by kernel_rfl) len_cHeld) ?_)
  refine wr 5 [.cells ((cL cPrune_state) a0 ++ [rfv false a1 1 2]), rfb cHeld a1, .dead, .cells (cPrune_state y11145), rfb cHeld y11146] ?_
  refine we ?_
  refine block_n ?_
  refine ng ?_
  refine xr ?_
  refine wh 2 ?_
  refine we ?_
  refine then_n ?_
  exact x_back (VS.si [0, 1, 4] 4294049655 (tights_at [17] (by kernel_rfl) (by exact ⟨(tight_sl low_cPrune_state), trivial⟩)) (shh (b0 := .cells ((cL cPrune_state) a0 ++ [rfv false a1 1 2])) (by kernel_rfl) (shb_cells (by kernel_rfl) (by kernel_rfl) (tights_app (tights_lows ((low_cL low_cPrune_state) _)) (tights_cons rfl rfl))) (shh (b0 := rfb cHeld a1) (by kernel_rfl) (NoRef.shb (noref_rfb low_cHeld _)) (shh (b0 := rfb cHeld y11146) (by kernel_rfl) (NoRef.shb (noref_rfb low_cHeld _)) shh_nil)))) ⟨(y11146, iAdd .i64 x11142.2 1), (some true), rfl, rfl, hF⟩
 refine kF 20 hc1 ?_
 refine xF ?_
 refine xe ?_
 refine then_e ?_
 refine then_e ?_
 refine block_e ?_
 refine then_n ?_
 exact x_to hJ1 (VS.sm 4293918583) ⟨x11142.1, rfl, rfl, hF⟩
def r24_Same_J1  : Option Bool :=
  some true
def r24_Same_B11205 (a0 : Sl Held) (a1 : Sl Held) (k11205 : Int → Option Bool) (x11205 : Int) : Option Bool :=
  if iLt x11205 (a0.l.length : Int) = true then (idxL a0.l x11205).bind fun y11212 => (idxL a1.l x11205).bind fun y11213 => if eqHeld y11212 y11213 = true then k11205 (iAdd .i64 x11205 1) else some false else r24_Same_J1
def r24_Same (a0 : Sl Held) (a1 : Sl Held) : Option Bool :=
  if ((a0.l.length : Int) != (a1.l.length : Int)) = true then some false else loopN (r24_Same_B11205 a0 a1) FUEL 0
theorem r24_Same_ev {a0 : Sl Held} {a1 : Sl Held} {r : Bool} (hF : r24_Same a0 a1 = some r) : EvCall Try.prog T G0 17 [sl cHeld a0, sl cHeld a1] [] (fun v H' => v = .bool r ∧ H' = []) := by
 refine xc Try.func17 ?_
 refine xq ?_
 refine wh 1 ?_
 refine we ?_
 refine ng ?_
 refine xs ?_
 refine xq ?_
 refine wh 5 ?_
 refine we ?_
 refine ng ?_
 refine ite_elim hF (fun hc1 hF => ?_) (fun hc1 hF => ?_)
 ·refine kT 10 hc1 ?_
  refine xT ?_
  refine xq ?_
  refine wh 1 ?_
  refine we ?_
  refine ng ?_
  refine xt ?_
  refine then_r ?_
  have e := Option.some.inj hF
  subst e
  exact fE [] (.inl rfl) rfl ⟨rfl, rfl⟩
 refine kF 10 hc1 ?_
 refine xF ?_
 refine xk ?_
 refine ng ?_
 refine xj (fun fr H => ∃ (g11182 : Option Bool), fr = [.any, .any, .any, .any, .bool false, .any, .any, .any, .any, .any, .bool false, .any, .any, .any, .bool false, .any, .any, .any, .any, .any, .any, .any, .any, .any, .any, junkB g11182] ∧ H = [] ∧ r24_Same_J1 = some r) (fun fr H ⟨g11182, e1, e2, hF⟩ => ?_) (fun hJ1 => ?_)
 ·subst e1 e2
  refine xq ?_
  refine wh 1 ?_
  refine we ?_
  refine ng ?_
  refine xt ?_
  have e := Option.some.inj hF
  subst e
  exact fE [] (.inl rfl) rfl ⟨rfl, rfl⟩
 refine xq ?_
 refine wh 1 ?_
 refine we ?_
 refine ng ?_
 refine xb ?_
 refine x_loop (fun d fr H => ∃ (x11205 : Int) (g11192 : Option Bool) (g11193 : Option Bool), fr = [sl cHeld a0, sl cHeld a1, .any, .any, .bool false, .int .i64 x11205, .any, .any, .any, .any, .bool false, .any, .any, .any, junkB g11192, .any, .any, .any, .any, .any, .any, .any, .any, .any, .any, junkB g11193] ∧ H = [] ∧ loopN (r24_Same_B11205 a0 a1) d x11205 = some r) (by kernel_rfl) (fun fr H ⟨x11205, g11192, g11193, e1, e2, hF⟩ => loop_no hF) (fun d11205 fr H ⟨x11205, g11192, g11193, e1, e2, hF⟩ => ?_) (VS.sm 67107788) ⟨0, none, none, rfl, rfl, hF⟩
 subst e1 e2
 have hF := loop_in hF
 refine xs ?_
 refine xq ?_
 refine wh 4 ?_
 refine we ?_
 refine ng ?_
 refine ite_elim hF (fun hc2 hF => ?_) (fun hc2 hF => ?_)
 ·refine kT 14 hc2 ?_
  refine xT ?_
  refine xk ?_
  refine ng ?_
  refine xs ?_
  refine xb ?_
  refine xs ?_
  refine xd 0 call_ends callMono ?_
  refine wp 2 ?_
  refine bind_elim hF (fun y11212 hy11212 hF => uI cHeld 2 hy11212 len_cHeld ?_)
  refine uE cHeld 0 (t := 41) (v := .agg (cHeld y11212)) 2 2 hy11212 len_cHeld ?_
  refine wp 6 ?_
  refine bind_elim hF (fun y11213 hy11213 hF => uI cHeld 2 hy11213 len_cHeld ?_)
  refine uE cHeld 0 (t := 41) (v := .agg (cHeld y11213)) 2 2 hy11213 len_cHeld ?_
  refine w_neq (b := eqHeld y11212 y11213) (by kernel_rfl) ?_
  refine we ?_
  refine de ?_
  refine ng ?_
  refine ite_elim hF (fun hc3 hF => ?_) (fun hc3 hF => ?_)
  ·refine kF 25 (show (!(eqHeld y11212 y11213)) = false by rw [hc3]; rfl) ?_
   refine xF ?_
   refine xk ?_
   refine block_n ?_
   refine ng ?_
   refine xr ?_
   refine wh 3 ?_
   refine we ?_
   refine then_n ?_
   exact x_back (VS.sm 67107788) ⟨iAdd .i64 x11205 1, (some true), (some false), rfl, rfl, hF⟩
  refine kT 25 (show (!(eqHeld y11212 y11213)) = true by rw [hc3]; rfl) ?_
  refine xT ?_
  refine xq ?_
  refine wh 1 ?_
  refine we ?_
  refine ng ?_
  refine xt ?_
  refine block_r ?_
  refine then_r ?_
  refine then_r ?_
  refine block_r ?_
  refine then_r ?_
  have e := Option.some.inj hF
  subst e
  exact fE [] (.inl rfl) rfl ⟨rfl, rfl⟩
 refine kF 14 hc2 ?_
 refine xF ?_
 refine xe ?_
 refine then_e ?_
 refine then_e ?_
 refine block_e ?_
 refine then_n ?_
 exact x_to hJ1 (VS.sm 33537007) ⟨g11193, rfl, rfl, hF⟩
end Go.Proofs.Ytbdomlbmbcnaeaa
