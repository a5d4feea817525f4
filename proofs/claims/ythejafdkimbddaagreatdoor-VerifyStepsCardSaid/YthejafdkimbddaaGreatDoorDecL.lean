/- What each function of these laws comes to. Printed by main.py; no conditions. -/
import Derived.Test.YthejafdkimbddaaGreatDoorTab
import Derived.Test.YthejafdkimbddaaGreatDoorAbnC
import Derived.Test.YthejafdkimbddaaGreatDoorDecT
import Derived.Test.YthejafdkimbddaaGreatDoorAwk
namespace Go.Proofs.YthejafdkimbddaaGreatDoor
open Go.Abs
set_option maxRecDepth 100000
attribute [local irreducible] ev evAt evW evList evOp evRes EvCall VS aop aload astore AX.then AX.inBlock kRun kRunQ aput evRows
set_option linter.unusedVariables false
def l14_VerifySteps_J1 (p8 : Bool) : Option Bool :=
  some p8
def l14_VerifySteps (a0 : List UInt8) (a1 : Pending) : Option Bool :=
  (ring_New).bind fun y1 => (r04_New).bind fun y2 => if iGt (a0.length : Int) 600 = true then (awakeF).bind fun y4 => some y4 else (verify_Step a0 a1 y1.1 y1.2.1 y1.2.2).bind fun y5 => (r14_Step a0 a1 y2).bind fun y6 => (awakeF).bind fun y16 => if y16 = true then if (y5.1 == y6.1) = true then l14_VerifySteps_J1 (y5.2 == y6.2) else l14_VerifySteps_J1 false else l14_VerifySteps_J1 false
theorem l14_VerifySteps_ev {a0 : List UInt8} {a1 : Pending} {r : Bool} (hF : l14_VerifySteps a0 a1 = some r) : EvCall Tryz.prog T G0 4 [.str a0, .agg (cPending a1)] [] (fun v H' => v = .bool r ∧ H' = []) := by
 refine xc Tryz.func4 ?_
 refine xq (wr 2 [.cells (cPending a1)] (we (ng (xq (bind_elim hF (fun y1 hy1 hF => uO [] [1, 2, 3] (v := .tup [.ptr 1 0, .int .i64 0]) [.cells (cS y1.1 ++ [rfv false y1.2.1 2 1] ++ [.map 3]), rfb cS y1.2.1, mpb (fun a => AV.agg (cRing_tagged a)) (AV.int .i64) y1.2.2] [.cells (cPending a1), .cells (cS y1.1 ++ [rfv false y1.2.1 2 1] ++ [.map 3]), rfb cS y1.2.1, mpb (fun a => AV.agg (cRing_tagged a)) (AV.int .i64) y1.2.2] (ring_New_ev hy1) (by kernel_rfl) pl_nil rfl (sbs (sb_cells (by kernel_rfl) (by kernel_rfl) (by kernel_rfl)) (sbs (sb_low (noref_rfb low_cS _)) (sbs (sb_low (noref_mpb (fun _ => low_agg (low_cRing_tagged _)) (fun _ => rfl) _)) sbs_nil))) (wh 6 (we (ng (xq (bind_elim hF (fun y2 hy2 hF => uO [] [4] (v := .tup [.ptr 4 0, .int .i64 0]) [.cells (cAffidavitref04_Ring y2)] [.cells (cPending a1), .cells (cS y1.1 ++ [rfv false y1.2.1 2 1] ++ [.map 3]), rfb cS y1.2.1, mpb (fun a => AV.agg (cRing_tagged a)) (AV.int .i64) y1.2.2, .cells (cAffidavitref04_Ring y2)] (r04_New_ev hy2) (by kernel_rfl) pl_nil rfl (sbs (sb_cells (by kernel_rfl) (by kernel_rfl) (tights_lows (low_cAffidavitref04_Ring _))) sbs_nil) (wh 6 (we (ng (xs (xq (wh 3 (we (ng ?_))))))))))))))))))))
 refine ite_elim hF (fun hc1 hF => ?_) (fun hc1 hF => ?_)
 ·refine kT 23 hc1 (xT (xq (bind_elim hF (fun y4 hy4 hF => uC (awakeF_ev hy4) rfl rfl (wh 2 (we (ng (xt (then_r ?_)))))))))
  cases hF
  exact fE [] (.inl rfl) rfl ⟨rfl, rfl⟩
 refine kF 23 hc1 (xF (xk (ng (xq (wh 3 (bind_elim hF (fun y5 hy5 hF => uOs [1, 2, 3] [1, 2, 3] (v := .tup [.str y5.1, .int .i64 y5.2]) [.cells (cS y1.1 ++ [rfv false y1.2.1 2 1] ++ [.map 3]), rfb cS y1.2.1, mpb (fun a => AV.agg (cRing_tagged a)) (AV.int .i64) y1.2.2] (verify_Step_ev hy5) (tights_cons rfl (tights_cons rfl (tights_cons (tight_agg (tights_lows (low_cPending _))) rfl))) (pl (b' := .cells (cS y1.1 ++ [rfv false y1.2.1 2 1] ++ [.map 3])) (by kernel_rfl) (sb_cells (by kernel_rfl) (by kernel_rfl) (by kernel_rfl)) (pl (b' := rfb cS y1.2.1) (by kernel_rfl) (sb_low (noref_rfb low_cS _)) (pl (b' := mpb (fun a => AV.agg (cRing_tagged a)) (AV.int .i64) y1.2.2) (by kernel_rfl) (sb_low (noref_mpb (fun _ => low_agg (low_cRing_tagged _)) (fun _ => rfl) _)) pl_nil))) rfl (sbs (sb_cells (by kernel_rfl) (by kernel_rfl) (by kernel_rfl)) (sbs (sb_low (noref_rfb low_cS _)) (sbs (sb_low (noref_mpb (fun _ => low_agg (low_cRing_tagged _)) (fun _ => rfl) _)) sbs_nil))) (wh 9 (we (ng (xq (wh 3 (bind_elim hF (fun y6 hy6 hF => uOs [4] [4] (v := .tup [.str y6.1, .int .i64 y6.2]) [.cells (cAffidavitref04_Ring y2)] (r14_Step_ev hy6) (tights_cons rfl (tights_cons rfl (tights_cons (tight_agg (tights_lows (low_cPending _))) rfl))) (pl (b' := .cells (cAffidavitref04_Ring y2)) (by kernel_rfl) (sb_cells (by kernel_rfl) (by kernel_rfl) (tights_lows (low_cAffidavitref04_Ring _))) pl_nil) rfl (sbs (sb_cells (by kernel_rfl) (by kernel_rfl) (tights_lows (low_cAffidavitref04_Ring _))) sbs_nil) (wh 9 (we (ng ?_)))))))))))))))))
 refine xj (fun fr H => ∃ (p8 : Bool) (g9 : Option Bool) (g10 : Option Bool) (g11 : Option Bool) (g12 : Option Bool) (g13 : Option Bool) (g14 : Option Bool) (g15 : Option Bool), fr = [.any, .any, .any, .any, .bool p8, .any, .any, .any, .any, .any, .any, .any, .any, .any, .any, .any, .any, .any, .any, .any, .any, .any, .any, .bool false, .any, .any, .any, .any, .any, .any, .any, .any, .any, .any, .any, .any, .any, .any, .any, junkB g9, junkB g10, .any, .any, junkB g11, junkB g12, junkB g13, .any, .any, junkB g14, junkB g15] ∧ H = [] ∧ l14_VerifySteps_J1 p8 = some r) (fun fr H ⟨p8, g9, g10, g11, g12, g13, g14, g15, e1, e2, hF⟩ => ?_) (fun hJ1 => ?_)
 ·subst e1 e2
  refine xt ?_
  cases hF
  exact fE [] (.inl rfl) rfl ⟨rfl, rfl⟩
 refine xr (bind_elim hF (fun y16 hy16 hF => uC (awakeF_ev hy16) rfl rfl (wh 2 ?_)))
 refine ite_elim hF (fun hc2 hF => ?_) (fun hc2 hF => ?_)
 ·refine wT 40 hc2 (wh 7 ?_)
  refine ite_elim hF (fun hc3 hF => ?_) (fun hc3 hF => ?_)
  ·exact wT 45 hc3 (wh 12 (we (then_n (x_to hJ1 (VS.si [] 1125899898453999 (by kernel_rfl) shh_nil) ⟨(y5.2 == y6.2), (some y16), (some true), (some (y5.1 == y6.1)), (some (y5.1 == y6.1)), (some true), (some (y5.2 == y6.2)), (some (y5.2 == y6.2)), rfl, rfl, hF⟩))))
  exact wF 45 hc3 (wh 12 (we (then_n (x_to hJ1 (VS.si [] 1125899898453999 (by kernel_rfl) shh_nil) ⟨false, (some y16), (some true), (some (y5.1 == y6.1)), (some (y5.1 == y6.1)), (some false), none, (some false), rfl, rfl, hF⟩))))
 exact wF 40 hc2 (wh 12 (we (then_n (x_to hJ1 (VS.si [] 1125899898453999 (by kernel_rfl) shh_nil) ⟨false, (some y16), (some false), none, (some false), (some false), none, (some false), rfl, rfl, hF⟩))))
end Go.Proofs.YthejafdkimbddaaGreatDoor
