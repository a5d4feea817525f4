/- What each function of these laws comes to. Printed by main.py; no conditions. -/
import Derived.Test.YtbdomlbmbcnaeaaDecAP
namespace Go.Proofs.Ytbdomlbmbcnaeaa
open Go.Abs
set_option maxRecDepth 100000
attribute [local irreducible] ev evAt evW evList evOp evRes EvCall VS aop aload astore AX.then AX.inBlock kRun kRunQ aput evRows
set_option linter.unusedVariables false
def prune_Book_fits_J5  : Option Bool :=
 some true
def prune_Book_fits_J8 (k1415 : Int → Option Bool) (x1415 : Int) : Option Bool :=
 k1415 (iAdd .i64 x1415 1)
def prune_Book_fits_B1415 (a0 : Sl Held) (y1321 : (Mp Int Int)) (p1335 : Mp Int Int) (k1415 : Int → Option Bool) (x1415 : Int) : Option Bool :=
 if iLt x1415 (a0.l.length : Int) = true then (idxL a0.l x1415).bind fun y1422 => if iGt ((Mp.get y1321 y1422.Number).getD 0) 0 = true then if ((Mp.get y1321 y1422.Number).getD 0 != iAdd .i64 y1422.Size 1) = true then some false else if iGt ((Mp.get p1335 y1422.Number).getD 0) 0 = true then some false else prune_Book_fits_J8 k1415 x1415 else if iGt ((Mp.get p1335 y1422.Number).getD 0) 0 = true then some false else prune_Book_fits_J8 k1415 x1415 else prune_Book_fits_J5
def prune_Book_fits_J1 (a0 : Sl Held) (y1321 : (Mp Int Int)) (p1335 : Mp Int Int) : Option Bool :=
 loopN (prune_Book_fits_B1415 a0 y1321 p1335) FUEL 0
def prune_Book_fits_B1433 (a0 : Sl Held) (a2 : Sl Held) (y1321 : (Mp Int Int)) (k1433 : ((Mp Int Int) × Int) → Option Bool) (x1433 : (Mp Int Int) × Int) : Option Bool :=
 if iLt x1433.2 (a2.l.length : Int) = true then (idxL a2.l x1433.2).bind fun y1435 => k1433 (Mp.put x1433.1 y1435.Number 1, iAdd .i64 x1433.2 1) else prune_Book_fits_J1 a0 y1321 x1433.1
def prune_Book_fits (a0 : Sl Held) (a1 : Sl Prune_state) (a2 : Sl Held) : Option Bool :=
 (prune_Book_sizes a1 a2).bind fun y1321 => loopN (prune_Book_fits_B1433 a0 a2 y1321) FUEL (Mp.none, 0)
theorem prune_Book_fits_ev {a0 : Sl Held} {a1 : Sl Prune_state} {a2 : Sl Held} {r : Bool} (hF : prune_Book_fits a0 a1 a2 = some r) : EvCall Try.prog T G0 34 [.ptr 0 0, sl cHeld a0] [.cells ((cL cPrune_state) a1 ++ [rfv false a2 1 2]), rfb cHeld a2] (fun v H' => v = .bool r ∧ H' = [.cells ((cL cPrune_state) a1 ++ [rfv false a2 1 2]), rfb cHeld a2]) := by
 refine x_call Try.func34 (by kernel_rfl) (by kernel_rfl) rfl ?_
 refine x_seq (by kernel_rfl) ?_
 refine x_region (by kernel_rfl) ?_
 refine w_run 1 [.cells ((cL cPrune_state) a1 ++ [rfv false a2 1 2]), rfb cHeld a2] rfl (by kernel_rfl) ?_
 refine w_end (by kernel_rfl) ?_
 refine then_n ?_
 refine go_same ?_
 refine x_seq (by kernel_rfl) ?_
 refine x_region (by kernel_rfl) ?_
 refine w_run 1 [.cells ((cL cPrune_state) a1 ++ [rfv false a2 1 2]), rfb cHeld a2] rfl (by kernel_rfl) ?_
 refine bind_elim hF (fun y1321 hy1321 hF => w_ocall [0, 1] [0, 1, 2] (ga := [.ptr 0 0]) (as0 := [.ptr 0 0]) (h0 := [.cells ((cL cPrune_state) a1 ++ [rfv false a2 1 2]), rfb cHeld a2]) (h1 := [.cells ((cL cPrune_state) a1 ++ [rfv false a2 1 2]), rfb cHeld a2, mpb (AV.int .i64) (AV.int .i64) y1321]) (h2 := [.cells ((cL cPrune_state) a1 ++ [rfv false a2 1 2]), rfb cHeld a2, mpb (AV.int .i64) (AV.int .i64) y1321]) (H2 := [.cells ((cL cPrune_state) a1 ++ [rfv false a2 1 2]), rfb cHeld a2, mpb (AV.int .i64) (AV.int .i64) y1321]) (v0 := .map 2) (v := .map 2) (prune_Book_sizes_ev hy1321) (by kernel_rfl) (by kernel_rfl) (by kernel_rfl) (by kernel_rfl) (pl (b' := .cells ((cL cPrune_state) a1 ++ [rfv false a2 1 2])) (by kernel_rfl) (sb_cells (by kernel_rfl) (by kernel_rfl) (tights_app (tights_lows ((low_cL low_cPrune_state) _)) (tights_cons rfl rfl))) (pl (b' := rfb cHeld a2) (by kernel_rfl) (sb_low (noref_rfb low_cHeld _)) pl_nil)) (by kernel_rfl) rfl (sbs (sb_cells (by kernel_rfl) (by kernel_rfl) (tights_app (tights_lows ((low_cL low_cPrune_state) _)) (tights_cons rfl rfl))) (sbs (sb_low (noref_rfb low_cHeld _)) (sbs (sb_low (noref_mpb (fun _ => rfl) (fun _ => rfl) _)) sbs_nil))) (by kernel_rfl) (fun e => by cases e) ?_)
 refine w_run 3 [.cells ((cL cPrune_state) a1 ++ [rfv false a2 1 2]), rfb cHeld a2, mpb (AV.int .i64) (AV.int .i64) y1321] rfl (by kernel_rfl) ?_
 refine w_end (by kernel_rfl) ?_
 refine then_n ?_
 refine go_same ?_
 refine x_seq (by kernel_rfl) ?_
 refine x_region (by kernel_rfl) ?_
 refine w_run 2 [.cells ((cL cPrune_state) a1 ++ [rfv false a2 1 2]), rfb cHeld a2, mpb (AV.int .i64) (AV.int .i64) y1321, mpb (AV.int .i64) (AV.int .i64) Mp.none] rfl (by kernel_rfl) ?_
 refine w_end (by kernel_rfl) ?_
 refine then_n ?_
 refine go_same ?_
 refine x_join (fun fr H => ∃ (p1335 : Mp Int Int), fr = [.any, sl cHeld a0, .any, .any, .bool false, .map 2, .map 3, .any, .any, .any, .any, .any, .any, .any, .any, .any, .any, .any, .any, .any, .any, .bool false, .any, .any, .any, .any, .any, .any, .any, .any, .any, .any, .any, .any, .any, .any, .any, .any, .any, .any, .any, .any, .any, .any, .any, .any, .any, .any, .any, .any, .any, .any, .any, .any, .any] ∧ H = [.cells ((cL cPrune_state) a1 ++ [rfv false a2 1 2]), rfb cHeld a2, mpb (AV.int .i64) (AV.int .i64) y1321, mpb (AV.int .i64) (AV.int .i64) p1335] ∧ prune_Book_fits_J1 a0 y1321 p1335 = some r) (by kernel_rfl) (fun fr H ⟨p1335, e1, e2, hF⟩ => ?_) (fun hJ1 => ?_)
 ·subst e1 e2
  refine x_join (fun fr H => ∃ (g1376 : Option Bool) (g1377 : Option Bool) (g1378 : Option Bool) (g1379 : Option Bool) (g1380 : Option Bool) (g1381 : Option Bool) (g1382 : Option Bool), fr = [.any, .any, .any, .any, .bool false, .any, .any, .any, .any, .any, .any, .any, .any, .any, .any, .any, .any, .any, .any, .any, .any, .bool false, .any, .any, .any, .any, .any, .any, .any, .any, .any, .bool false, .any, .any, .any, .any, .any, .any, .any, junkB g1376, junkB g1377, .any, .any, .any, .any, junkB g1378, junkB g1379, junkB g1380, .any, .any, .any, .any, junkB g1381, junkB g1382, .any] ∧ H = [.cells ((cL cPrune_state) a1 ++ [rfv false a2 1 2]), rfb cHeld a2] ∧ prune_Book_fits_J5 = some r) (by kernel_rfl) (fun fr H ⟨g1376, g1377, g1378, g1379, g1380, g1381, g1382, e1, e2, hF⟩ => ?_) (fun hJ5 => ?_)
  ·subst e1 e2
   refine x_seq (by kernel_rfl) ?_
   refine x_region (by kernel_rfl) ?_
   refine w_run 1 [.cells ((cL cPrune_state) a1 ++ [rfv false a2 1 2]), rfb cHeld a2] rfl (by kernel_rfl) ?_
   refine w_end (by kernel_rfl) ?_
   refine then_n ?_
   refine go_same ?_
   refine x_ret (by kernel_rfl) ?_
   have e := Option.some.inj hF
   subst e
   exact fin_sh [0, 1] (.inl rfl) (by kernel_rfl) (by kernel_rfl) (by kernel_rfl) (by kernel_rfl) rfl (shh (b0 := .cells ((cL cPrune_state) a1 ++ [rfv false a2 1 2])) (by kernel_rfl) (shb_cells (by kernel_rfl) (by kernel_rfl) (tights_app (tights_lows ((low_cL low_cPrune_state) _)) (tights_cons rfl rfl))) (shh (b0 := rfb cHeld a2) (by kernel_rfl) (NoRef.shb (noref_rfb low_cHeld _)) shh_nil)) (And.intro rfl rfl)
  ·refine x_seq (by kernel_rfl) ?_
   refine x_region (by kernel_rfl) ?_
   refine w_run 3 [.cells ((cL cPrune_state) a1 ++ [rfv false a2 1 2]), rfb cHeld a2, mpb (AV.int .i64) (AV.int .i64) y1321, mpb (AV.int .i64) (AV.int .i64) p1335] rfl (by kernel_rfl) ?_
   refine w_end (by kernel_rfl) ?_
   refine then_n ?_
   refine go_same ?_
   refine x_block (by kernel_rfl) ?_
   refine x_loop (fun d fr H => ∃ (x1415 : Int) (g1391 : Option Bool) (g1392 : Option Bool) (g1393 : Option Bool) (g1394 : Option Bool) (g1395 : Option Bool) (g1396 : Option Bool) (g1397 : Option Bool) (g1398 : Option Bool), fr = [.any, .any, .any, .any, .bool false, .map 2, .map 3, .any, .any, .any, .any, .any, .any, .any, .any, .any, .any, .any, .any, .any, .any, .bool false, .any, .any, .any, .any, .any, .any, sl cHeld a0, .int .i64 (a0.l.length : Int), .int .i64 x1415, junkB g1391, .any, .any, .any, .any, .any, .any, .any, junkB g1392, junkB g1393, .any, .any, .any, .any, junkB g1394, junkB g1395, junkB g1396, .any, .any, .any, .any, junkB g1397, junkB g1398, .any] ∧ H = [.cells ((cL cPrune_state) a1 ++ [rfv false a2 1 2]), rfb cHeld a2, mpb (AV.int .i64) (AV.int .i64) y1321, mpb (AV.int .i64) (AV.int .i64) p1335] ∧ loopN (prune_Book_fits_B1415 a0 y1321 p1335) d x1415 = some r) (by kernel_rfl) (fun fr H ⟨x1415, g1391, g1392, g1393, g1394, g1395, g1396, g1397, g1398, e1, e2, hF⟩ => loop_no hF) (fun d1415 fr H ⟨x1415, g1391, g1392, g1393, g1394, g1395, g1396, g1397, g1398, e1, e2, hF⟩ => ?_) (VS.same2 36028795137818511 (by kernel_rfl) (by kernel_rfl)) ⟨0, none, none, none, none, none, none, none, none, rfl, rfl, hF⟩
   subst e1 e2
   have hF := loop_in hF
   refine x_seq (by kernel_rfl) ?_
   refine x_region (by kernel_rfl) ?_
   refine w_run 1 [.cells ((cL cPrune_state) a1 ++ [rfv false a2 1 2]), rfb cHeld a2, mpb (AV.int .i64) (AV.int .i64) y1321, mpb (AV.int .i64) (AV.int .i64) p1335] rfl (by kernel_rfl) ?_
   refine w_end (by kernel_rfl) ?_
   refine then_n ?_
   refine go_same ?_
   refine x_seq (by kernel_rfl) ?_
   refine ite_elim hF (fun hc1 hF => ?_) (fun hc1 hF => ?_)
   ·refine x_set 31 (b := true) (by kernel_rfl) hc1 ?_
    refine x_cond (b0 := true) (by kernel_rfl) (by kernel_rfl) ?_
    refine x_skip (.inl (by kernel_rfl)) ?_
    refine then_n ?_
    refine go_same ?_
    refine x_join (fun fr H => ∃ (g1417 : Option Bool) (g1418 : Option Bool) (g1419 : Option Bool) (g1420 : Option Bool) (g1421 : Option Bool), fr = [.any, .any, .any, .any, .bool false, .map 2, .map 3, .any, .any, .any, .any, .any, .any, .any, .any, .any, .any, .any, .any, .any, .any, .bool false, .any, .any, .any, .any, .any, .any, sl cHeld a0, .int .i64 (a0.l.length : Int), .int .i64 x1415, .bool true, .any, .any, .any, .any, .any, .any, .any, junkB g1417, junkB g1418, .any, .any, .any, .any, junkB g1419, junkB g1420, .bool false, .any, .any, .any, .any, junkB g1421, .bool false, .any] ∧ H = [.cells ((cL cPrune_state) a1 ++ [rfv false a2 1 2]), rfb cHeld a2, mpb (AV.int .i64) (AV.int .i64) y1321, mpb (AV.int .i64) (AV.int .i64) p1335] ∧ prune_Book_fits_J8 (loopN (prune_Book_fits_B1415 a0 y1321 p1335) d1415) x1415 = some r) (by kernel_rfl) (fun fr H ⟨g1417, g1418, g1419, g1420, g1421, e1, e2, hF⟩ => ?_) (fun hJ8 => ?_)
    ·subst e1 e2
     refine x_region (by kernel_rfl) ?_
     refine w_run 2 [.cells ((cL cPrune_state) a1 ++ [rfv false a2 1 2]), rfb cHeld a2, mpb (AV.int .i64) (AV.int .i64) y1321, mpb (AV.int .i64) (AV.int .i64) p1335] rfl (by kernel_rfl) ?_
     refine w_end (by kernel_rfl) ?_
     refine then_n ?_
     exact x_back (VS.same2 31417993126739855 (by kernel_rfl) (by kernel_rfl)) ⟨iAdd .i64 x1415 1, (some true), g1417, g1418, g1419, g1420, (some false), g1421, (some false), rfl, rfl, hF⟩
    ·refine x_block (by kernel_rfl) ?_
     refine x_seq (by kernel_rfl) ?_
     refine x_region (by kernel_rfl) ?_
     refine bind_elim hF (fun y1422 hy1422 hF => w_iaddr cHeld (sz := 2) hy1422 (by kernel_rfl) (by decide) len_cHeld ?_)
     refine w_elem cHeld 0 (t := 41) (v := .agg (cHeld y1422)) (sz := 2) (z := 2) hy1422 (by kernel_rfl) (by kernel_rfl) len_cHeld (by decide) (by decide) ?_
     refine w_run 4 [.cells ((cL cPrune_state) a1 ++ [rfv false a2 1 2]), rfb cHeld a2, mpb (AV.int .i64) (AV.int .i64) y1321, mpb (AV.int .i64) (AV.int .i64) p1335, .cells (cHeld y1422)] rfl (by kernel_rfl) ?_
     refine w_end (by kernel_rfl) ?_
     refine then_n ?_
     refine go_same ?_
     refine x_seq (by kernel_rfl) ?_
     refine x_region (by kernel_rfl) ?_
     refine w_run 3 [.cells ((cL cPrune_state) a1 ++ [rfv false a2 1 2]), rfb cHeld a2, mpb (AV.int .i64) (AV.int .i64) y1321, mpb (AV.int .i64) (AV.int .i64) p1335, .cells (cHeld y1422)] rfl (by kernel_rfl) ?_
     refine w_mget (AV.int .i64) (AV.int .i64) (t := 64) (l := 2) (a := y1422.Number) (ok := false) (kt := 3) (et := 3) (z := 0) y1321 (by kernel_rfl) (by kernel_rfl) (key_int (by kernel_rfl)) (by kernel_rfl) (by kernel_rfl) ?_
     refine w_run 5 [.cells ((cL cPrune_state) a1 ++ [rfv false a2 1 2]), rfb cHeld a2, mpb (AV.int .i64) (AV.int .i64) y1321, mpb (AV.int .i64) (AV.int .i64) p1335, .cells (cHeld y1422)] rfl (by kernel_rfl) ?_
     refine w_end (by kernel_rfl) ?_
     refine then_n ?_
     refine go_same ?_
     refine x_seq (by kernel_rfl) ?_
     refine x_region (by kernel_rfl) ?_
     refine w_run 3 [.cells ((cL cPrune_state) a1 ++ [rfv false a2 1 2]), rfb cHeld a2, mpb (AV.int .i64) (AV.int .i64) y1321, mpb (AV.int .i64) (AV.int .i64) p1335, .cells (cHeld y1422)] rfl (by kernel_rfl) ?_
     refine ite_elim hF (fun hc2 hF => ?_) (fun hc2 hF => ?_)
     ·refine w_set 40 (b := true) (by kernel_rfl) hc2 ?_
      refine w_run 10 [.cells ((cL cPrune_state) a1 ++ [rfv false a2 1 2]), rfb cHeld a2, mpb (AV.int .i64) (AV.int .i64) y1321, mpb (AV.int .i64) (AV.int .i64) p1335, .cells (cHeld y1422)] rfl (by kernel_rfl) ?_
      refine ite_elim hF (fun hc3 hF => ?_) (fun hc3 hF => ?_)
      ·refine w_set 47 (b := true) (by kernel_rfl) hc3 ?_
       refine w_run 16 [.cells ((cL cPrune_state) a1 ++ [rfv false a2 1 2]), rfb cHeld a2, mpb (AV.int .i64) (AV.int .i64) y1321, mpb (AV.int .i64) (AV.int .i64) p1335, .cells (cHeld y1422)] rfl (by kernel_rfl) ?_
       refine w_end (by kernel_rfl) ?_
       refine then_n ?_
       refine go_same ?_
       refine x_cond (b0 := true) (by kernel_rfl) (by kernel_rfl) ?_
       refine x_seq (by kernel_rfl) ?_
       refine x_region (by kernel_rfl) ?_
       refine w_run 1 [.cells ((cL cPrune_state) a1 ++ [rfv false a2 1 2]), rfb cHeld a2, mpb (AV.int .i64) (AV.int .i64) y1321, mpb (AV.int .i64) (AV.int .i64) p1335, .cells (cHeld y1422)] rfl (by kernel_rfl) ?_
       refine w_end (by kernel_rfl) ?_
       refine then_n ?_
       refine go_same ?_
       refine x_ret (by kernel_rfl) ?_
       refine block_r ?_
       refine then_r ?_
       refine then_r ?_
       refine block_r ?_
       refine then_r ?_
       have e := Option.some.inj hF
       subst e
       exact fin_sh [0, 1] (.inl rfl) (by kernel_rfl) (by kernel_rfl) (by kernel_rfl) (by kernel_rfl) rfl (shh (b0 := .cells ((cL cPrune_state) a1 ++ [rfv false a2 1 2])) (by kernel_rfl) (shb_cells (by kernel_rfl) (by kernel_rfl) (tights_app (tights_lows ((low_cL low_cPrune_state) _)) (tights_cons rfl rfl))) (shh (b0 := rfb cHeld a2) (by kernel_rfl) (NoRef.shb (noref_rfb low_cHeld _)) shh_nil)) (And.intro rfl rfl)
      ·refine w_set 47 (b := false) (by kernel_rfl) hc3 ?_
       refine w_run 13 [.cells ((cL cPrune_state) a1 ++ [rfv false a2 1 2]), rfb cHeld a2, mpb (AV.int .i64) (AV.int .i64) y1321, mpb (AV.int .i64) (AV.int .i64) p1335, .cells (cHeld y1422)] rfl (by kernel_rfl) ?_
       refine w_mget (AV.int .i64) (AV.int .i64) (t := 64) (l := 3) (a := y1422.Number) (ok := false) (kt := 3) (et := 3) (z := 0) p1335 (by kernel_rfl) (by kernel_rfl) (key_int (by kernel_rfl)) (by kernel_rfl) (by kernel_rfl) ?_
       refine w_run 16 [.cells ((cL cPrune_state) a1 ++ [rfv false a2 1 2]), rfb cHeld a2, mpb (AV.int .i64) (AV.int .i64) y1321, mpb (AV.int .i64) (AV.int .i64) p1335, .cells (cHeld y1422)] rfl (by kernel_rfl) ?_
       refine w_end (by kernel_rfl) ?_
       refine then_n ?_
       refine go_same ?_
       refine ite_elim hF (fun hc4 hF => ?_) (fun hc4 hF => ?_)
       ·refine x_set 53 (b := true) (by kernel_rfl) hc4 ?_
        refine x_cond (b0 := true) (by kernel_rfl) (by kernel_rfl) ?_
        refine x_seq (by kernel_rfl) ?_
        refine x_region (by kernel_rfl) ?_
        refine w_run 1 [.cells ((cL cPrune_state) a1 ++ [rfv false a2 1 2]), rfb cHeld a2, mpb (AV.int .i64) (AV.int .i64) y1321, mpb (AV.int .i64) (AV.int .i64) p1335, .cells (cHeld y1422)] rfl (by kernel_rfl) ?_
        refine w_end (by kernel_rfl) ?_
        refine then_n ?_
        refine go_same ?_
        refine x_ret (by kernel_rfl) ?_
        refine block_r ?_
        refine then_r ?_
        refine then_r ?_
        refine block_r ?_
        refine then_r ?_
        have e := Option.some.inj hF
        subst e
        exact fin_sh [0, 1] (.inl rfl) (by kernel_rfl) (by kernel_rfl) (by kernel_rfl) (by kernel_rfl) rfl (shh (b0 := .cells ((cL cPrune_state) a1 ++ [rfv false a2 1 2])) (by kernel_rfl) (shb_cells (by kernel_rfl) (by kernel_rfl) (tights_app (tights_lows ((low_cL low_cPrune_state) _)) (tights_cons rfl rfl))) (shh (b0 := rfb cHeld a2) (by kernel_rfl) (NoRef.shb (noref_rfb low_cHeld _)) shh_nil)) (And.intro rfl rfl)
       ·refine x_set 53 (b := false) (by kernel_rfl) hc4 ?_
        refine x_cond (b0 := false) (by kernel_rfl) (by kernel_rfl) ?_
        refine x_skip (.inl (by kernel_rfl)) ?_
        refine block_n ?_
        refine then_n ?_
        exact x_to hJ8 (VS.sh [0, 1, 2, 3] 26880856247238543 (by kernel_rfl) (by kernel_rfl) (by kernel_rfl) (tights_at [28] (by kernel_rfl) (by exact ⟨(tight_sl low_cHeld), trivial⟩)) (shh (b0 := .cells ((cL cPrune_state) a1 ++ [rfv false a2 1 2])) (by kernel_rfl) (shb_cells (by kernel_rfl) (by kernel_rfl) (tights_app (tights_lows ((low_cL low_cPrune_state) _)) (tights_cons rfl rfl))) (shh (b0 := rfb cHeld a2) (by kernel_rfl) (NoRef.shb (noref_rfb low_cHeld _)) (shh (b0 := mpb (AV.int .i64) (AV.int .i64) y1321) (by kernel_rfl) (NoRef.shb (noref_mpb (fun _ => rfl) (fun _ => rfl) _)) (shh (b0 := mpb (AV.int .i64) (AV.int .i64) p1335) (by kernel_rfl) (NoRef.shb (noref_mpb (fun _ => rfl) (fun _ => rfl) _)) shh_nil))))) ⟨(some (iGt ((Mp.get y1321 y1422.Number).getD 0) 0)), (some true), (some ((Mp.get y1321 y1422.Number).getD 0 != iAdd .i64 y1422.Size 1)), (some ((Mp.get y1321 y1422.Number).getD 0 != iAdd .i64 y1422.Size 1)), (some (iGt ((Mp.get p1335 y1422.Number).getD 0) 0)), rfl, rfl, hF⟩
     ·refine w_set 40 (b := false) (by kernel_rfl) hc2 ?_
      refine w_run 13 [.cells ((cL cPrune_state) a1 ++ [rfv false a2 1 2]), rfb cHeld a2, mpb (AV.int .i64) (AV.int .i64) y1321, mpb (AV.int .i64) (AV.int .i64) p1335, .cells (cHeld y1422)] rfl (by kernel_rfl) ?_
      refine w_mget (AV.int .i64) (AV.int .i64) (t := 64) (l := 3) (a := y1422.Number) (ok := false) (kt := 3) (et := 3) (z := 0) p1335 (by kernel_rfl) (by kernel_rfl) (key_int (by kernel_rfl)) (by kernel_rfl) (by kernel_rfl) ?_
      refine w_run 16 [.cells ((cL cPrune_state) a1 ++ [rfv false a2 1 2]), rfb cHeld a2, mpb (AV.int .i64) (AV.int .i64) y1321, mpb (AV.int .i64) (AV.int .i64) p1335, .cells (cHeld y1422)] rfl (by kernel_rfl) ?_
      refine w_end (by kernel_rfl) ?_
      refine then_n ?_
      refine go_same ?_
      refine ite_elim hF (fun hc5 hF => ?_) (fun hc5 hF => ?_)
      ·refine x_set 53 (b := true) (by kernel_rfl) hc5 ?_
       refine x_cond (b0 := true) (by kernel_rfl) (by kernel_rfl) ?_
       refine x_seq (by kernel_rfl) ?_
       refine x_region (by kernel_rfl) ?_
       refine w_run 1 [.cells ((cL cPrune_state) a1 ++ [rfv false a2 1 2]), rfb cHeld a2, mpb (AV.int .i64) (AV.int .i64) y1321, mpb (AV.int .i64) (AV.int .i64) p1335, .cells (cHeld y1422)] rfl (by kernel_rfl) ?_
       refine w_end (by kernel_rfl) ?_
       refine then_n ?_
       refine go_same ?_
       refine x_ret (by kernel_rfl) ?_
       refine block_r ?_
       refine then_r ?_
       refine then_r ?_
       refine block_r ?_
       refine then_r ?_
       have e := Option.some.inj hF
       subst e
       exact fin_sh [0, 1] (.inl rfl) (by kernel_rfl) (by kernel_rfl) (by kernel_rfl) (by kernel_rfl) rfl (shh (b0 := .cells ((cL cPrune_state) a1 ++ [rfv false a2 1 2])) (by kernel_rfl) (shb_cells (by kernel_rfl) (by kernel_rfl) (tights_app (tights_lows ((low_cL low_cPrune_state) _)) (tights_cons rfl rfl))) (shh (b0 := rfb cHeld a2) (by kernel_rfl) (NoRef.shb (noref_rfb low_cHeld _)) shh_nil)) (And.intro rfl rfl)
      ·refine x_set 53 (b := false) (by kernel_rfl) hc5 ?_
       refine x_cond (b0 := false) (by kernel_rfl) (by kernel_rfl) ?_
       refine x_skip (.inl (by kernel_rfl)) ?_
       refine block_n ?_
       refine then_n ?_
       exact x_to hJ8 (VS.sh [0, 1, 2, 3] 26880856247238543 (by kernel_rfl) (by kernel_rfl) (by kernel_rfl) (tights_at [28] (by kernel_rfl) (by exact ⟨(tight_sl low_cHeld), trivial⟩)) (shh (b0 := .cells ((cL cPrune_state) a1 ++ [rfv false a2 1 2])) (by kernel_rfl) (shb_cells (by kernel_rfl) (by kernel_rfl) (tights_app (tights_lows ((low_cL low_cPrune_state) _)) (tights_cons rfl rfl))) (shh (b0 := rfb cHeld a2) (by kernel_rfl) (NoRef.shb (noref_rfb low_cHeld _)) (shh (b0 := mpb (AV.int .i64) (AV.int .i64) y1321) (by kernel_rfl) (NoRef.shb (noref_mpb (fun _ => rfl) (fun _ => rfl) _)) (shh (b0 := mpb (AV.int .i64) (AV.int .i64) p1335) (by kernel_rfl) (NoRef.shb (noref_mpb (fun _ => rfl) (fun _ => rfl) _)) shh_nil))))) ⟨(some (iGt ((Mp.get y1321 y1422.Number).getD 0) 0)), (some false), none, (some false), (some (iGt ((Mp.get p1335 y1422.Number).getD 0) 0)), rfl, rfl, hF⟩
   ·refine x_set 31 (b := false) (by kernel_rfl) hc1 ?_
    refine x_cond (b0 := false) (by kernel_rfl) (by kernel_rfl) ?_
    refine x_exit (by kernel_rfl) ?_
    refine then_e ?_
    refine then_e ?_
    refine block_e ?_
    refine then_n ?_
    exact x_to hJ5 (VS.shX [0, 1] 22270056115208175 [39, 40, 45, 46, 47, 52, 53] (by kernel_rfl) (by kernel_rfl) (by kernel_rfl) (by exact ⟨low_junk g1392, low_junk g1393, low_junk g1394, low_junk g1395, low_junk g1396, low_junk g1397, low_junk g1398, trivial⟩) (tights_at [39, 40, 45, 46, 47, 52, 53] (by kernel_rfl) (by exact ⟨(tight_junk g1392), (tight_junk g1393), (tight_junk g1394), (tight_junk g1395), (tight_junk g1396), (tight_junk g1397), (tight_junk g1398), trivial⟩)) (shh (b0 := .cells ((cL cPrune_state) a1 ++ [rfv false a2 1 2])) (by kernel_rfl) (shb_cells (by kernel_rfl) (by kernel_rfl) (tights_app (tights_lows ((low_cL low_cPrune_state) _)) (tights_cons rfl rfl))) (shh (b0 := rfb cHeld a2) (by kernel_rfl) (NoRef.shb (noref_rfb low_cHeld _)) shh_nil))) ⟨g1392, g1393, g1394, g1395, g1396, g1397, g1398, rfl, rfl, hF⟩
 ·refine x_seq (by kernel_rfl) ?_
  refine x_region (by kernel_rfl) ?_
  refine w_run 6 [.cells ((cL cPrune_state) a1 ++ [rfv false a2 1 2]), rfb cHeld a2, mpb (AV.int .i64) (AV.int .i64) y1321, mpb (AV.int .i64) (AV.int .i64) Mp.none] rfl (by kernel_rfl) ?_
  refine w_end (by kernel_rfl) ?_
  refine then_n ?_
  refine go_same ?_
  refine x_block (by kernel_rfl) ?_
  refine x_loop (fun d fr H => ∃ (x1433 : (Mp Int Int) × Int) (g1427 : Option Bool), fr = [.any, sl cHeld a0, .any, .any, .bool false, .map 2, .map 3, .any, .any, .any, .any, .any, .any, .any, .any, .any, .any, .any, rfv false a2 1 2, .int .i64 (a2.l.length : Int), .int .i64 x1433.2, junkB g1427, .any, .any, .any, .any, .any, .any, .any, .any, .any, .any, .any, .any, .any, .any, .any, .any, .any, .any, .any, .any, .any, .any, .any, .any, .any, .any, .any, .any, .any, .any, .any, .any, .any] ∧ H = [.cells ((cL cPrune_state) a1 ++ [rfv false a2 1 2]), rfb cHeld a2, mpb (AV.int .i64) (AV.int .i64) y1321, mpb (AV.int .i64) (AV.int .i64) x1433.1] ∧ loopN (prune_Book_fits_B1433 a0 a2 y1321) d x1433 = some r) (by kernel_rfl) (fun fr H ⟨x1433, g1427, e1, e2, hF⟩ => loop_no hF) (fun d1433 fr H ⟨x1433, g1427, e1, e2, hF⟩ => ?_) (VS.same2 36028797017128845 (by kernel_rfl) (by kernel_rfl)) ⟨(Mp.none, 0), none, rfl, rfl, hF⟩
  subst e1 e2
  have hF := loop_in hF
  refine x_seq (by kernel_rfl) ?_
  refine x_region (by kernel_rfl) ?_
  refine w_run 1 [.cells ((cL cPrune_state) a1 ++ [rfv false a2 1 2]), rfb cHeld a2, mpb (AV.int .i64) (AV.int .i64) y1321, mpb (AV.int .i64) (AV.int .i64) x1433.1] rfl (by kernel_rfl) ?_
  refine w_end (by kernel_rfl) ?_
  refine then_n ?_
  refine go_same ?_
  refine x_seq (by kernel_rfl) ?_
  refine ite_elim hF (fun hc6 hF => ?_) (fun hc6 hF => ?_)
  ·refine x_set 21 (b := true) (by kernel_rfl) hc6 ?_
   refine x_cond (b0 := true) (by kernel_rfl) (by kernel_rfl) ?_
   refine x_skip (.inl (by kernel_rfl)) ?_
   refine then_n ?_
   refine go_same ?_
   refine x_seq (by kernel_rfl) ?_
   refine x_block (by kernel_rfl) ?_
   refine x_seq (by kernel_rfl) ?_
   refine x_region (by kernel_rfl) ?_
   refine bind_elim hF (fun y1435 hy1435 hF => w_riaddr (t := 27) (e := 41) (l := 1) (ex := false) (nl := a2.nl && a2.l.isEmpty) (kd := .i64) (k := 0) (sz := 2) (len := a2.l.length) (b := a2.l) hy1435 (Nat.le_refl _) (by kernel_rfl) (by kernel_rfl) (by kernel_rfl) ?_)
   refine w_rload cHeld (l := 1) (t := 41) (sz := 2) (fo := 0) (j := (0 + x1433.2.toNat)) a2 (v := .agg (cHeld y1435)) (z := 2) (idxL_nat hy1435) (by kernel_rfl) (by kernel_rfl) len_cHeld (by kernel_rfl) (by kernel_rfl) (by decide) (by decide) ?_
   refine w_run 4 [.cells ((cL cPrune_state) a1 ++ [rfv false a2 1 2]), rfb cHeld a2, mpb (AV.int .i64) (AV.int .i64) y1321, mpb (AV.int .i64) (AV.int .i64) x1433.1, .cells (cHeld y1435)] rfl (by kernel_rfl) ?_
   refine w_end (by kernel_rfl) ?_
   refine then_n ?_
   refine go_same ?_
   refine x_region (by kernel_rfl) ?_
   refine w_run 3 [.cells ((cL cPrune_state) a1 ++ [rfv false a2 1 2]), rfb cHeld a2, mpb (AV.int .i64) (AV.int .i64) y1321, mpb (AV.int .i64) (AV.int .i64) x1433.1, .cells (cHeld y1435)] rfl (by kernel_rfl) ?_
   refine w_mput (AV.int .i64) (AV.int .i64) (t := 64) (l := 3) (a := y1435.Number) (v := 1) (kt := 3) (et := 3) x1433.1 (by kernel_rfl) (by kernel_rfl) (key_int (by kernel_rfl)) (by kernel_rfl) ?_
   refine w_end (by kernel_rfl) ?_
   refine block_n ?_
   refine then_n ?_
   refine go_same ?_
   refine x_region (by kernel_rfl) ?_
   refine w_run 2 [.cells ((cL cPrune_state) a1 ++ [rfv false a2 1 2]), rfb cHeld a2, mpb (AV.int .i64) (AV.int .i64) y1321, mpb (AV.int .i64) (AV.int .i64) (Mp.put x1433.1 y1435.Number 1), .cells (cHeld y1435)] rfl (by kernel_rfl) ?_
   refine w_end (by kernel_rfl) ?_
   refine then_n ?_
   exact x_back (VS.sh [0, 1, 2, 3] 36028797017128845 (by kernel_rfl) (by kernel_rfl) (by kernel_rfl) (tights_at [1] (by kernel_rfl) (by exact ⟨(tight_sl low_cHeld), trivial⟩)) (shh (b0 := .cells ((cL cPrune_state) a1 ++ [rfv false a2 1 2])) (by kernel_rfl) (shb_cells (by kernel_rfl) (by kernel_rfl) (tights_app (tights_lows ((low_cL low_cPrune_state) _)) (tights_cons rfl rfl))) (shh (b0 := rfb cHeld a2) (by kernel_rfl) (NoRef.shb (noref_rfb low_cHeld _)) (shh (b0 := mpb (AV.int .i64) (AV.int .i64) y1321) (by kernel_rfl) (NoRef.shb (noref_mpb (fun _ => rfl) (fun _ => rfl) _)) (shh (b0 := mpb (AV.int .i64) (AV.int .i64) (Mp.put x1433.1 y1435.Number 1)) (by kernel_rfl) (NoRef.shb (noref_mpb (fun _ => rfl) (fun _ => rfl) _)) shh_nil))))) ⟨(Mp.put x1433.1 y1435.Number 1, iAdd .i64 x1433.2 1), (some true), rfl, rfl, hF⟩
  ·refine x_set 21 (b := false) (by kernel_rfl) hc6 ?_
   refine x_cond (b0 := false) (by kernel_rfl) (by kernel_rfl) ?_
   refine x_exit (by kernel_rfl) ?_
   refine then_e ?_
   refine then_e ?_
   refine block_e ?_
   refine then_n ?_
   exact x_to hJ1 (VS.same2 36028797016866701 (by kernel_rfl) (by kernel_rfl)) ⟨x1433.1, rfl, rfl, hF⟩
def prune_Book_many_J4 (p1461 : Int) : Option Int :=
 some p1461
def prune_Book_many_J7 (k1479 : (Int × Int) → Option Int) (x1479 : Int × Int) (p1481 : Int) : Option Int :=
 k1479 (p1481, iAdd .i64 x1479.2 1)
def prune_Book_many_B1479 (a0 : Sl Held) (y1439 : (Mp Int Int)) (k1479 : (Int × Int) → Option Int) (x1479 : Int × Int) : Option Int :=
 if iLt x1479.2 (a0.l.length : Int) = true then (idxL a0.l x1479.2).bind fun y1483 => if ((Mp.get y1439 y1483.Number).getD 0 == 0) = true then prune_Book_many_J7 k1479 x1479 (iAdd .i64 x1479.1 1) else prune_Book_many_J7 k1479 x1479 x1479.1 else prune_Book_many_J4 x1479.1
def prune_Book_many (a0 : Sl Held) (a1 : Sl Prune_state) (a2 : Sl Held) : Option Int :=
 (prune_Book_sizes a1 a2).bind fun y1439 => loopN (prune_Book_many_B1479 a0 y1439) FUEL (iAdd .i64 (y1439.l.length : Int) (a2.l.length : Int), 0)
theorem prune_Book_many_ev {a0 : Sl Held} {a1 : Sl Prune_state} {a2 : Sl Held} {r : Int} (hF : prune_Book_many a0 a1 a2 = some r) : EvCall Try.prog T G0 35 [.ptr 0 0, sl cHeld a0] [.cells ((cL cPrune_state) a1 ++ [rfv false a2 1 2]), rfb cHeld a2] (fun v H' => v = .int .i64 r ∧ H' = [.cells ((cL cPrune_state) a1 ++ [rfv false a2 1 2]), rfb cHeld a2]) := by
 refine x_call Try.func35 (by kernel_rfl) (by kernel_rfl) rfl ?_
 refine x_seq (by kernel_rfl) ?_
 refine x_region (by kernel_rfl) ?_
 refine w_run 1 [.cells ((cL cPrune_state) a1 ++ [rfv false a2 1 2]), rfb cHeld a2] rfl (by kernel_rfl) ?_
 refine w_end (by kernel_rfl) ?_
 refine then_n ?_
 refine go_same ?_
 refine x_seq (by kernel_rfl) ?_
 refine x_region (by kernel_rfl) ?_
 refine w_run 1 [.cells ((cL cPrune_state) a1 ++ [rfv false a2 1 2]), rfb cHeld a2] rfl (by kernel_rfl) ?_
 refine bind_elim hF (fun y1439 hy1439 hF => w_ocall [0, 1] [0, 1, 2] (ga := [.ptr 0 0]) (as0 := [.ptr 0 0]) (h0 := [.cells ((cL cPrune_state) a1 ++ [rfv false a2 1 2]), rfb cHeld a2]) (h1 := [.cells ((cL cPrune_state) a1 ++ [rfv false a2 1 2]), rfb cHeld a2, mpb (AV.int .i64) (AV.int .i64) y1439]) (h2 := [.cells ((cL cPrune_state) a1 ++ [rfv false a2 1 2]), rfb cHeld a2, mpb (AV.int .i64) (AV.int .i64) y1439]) (H2 := [.cells ((cL cPrune_state) a1 ++ [rfv false a2 1 2]), rfb cHeld a2, mpb (AV.int .i64) (AV.int .i64) y1439]) (v0 := .map 2) (v := .map 2) (prune_Book_sizes_ev hy1439) (by kernel_rfl) (by kernel_rfl) (by kernel_rfl) (by kernel_rfl) (pl (b' := .cells ((cL cPrune_state) a1 ++ [rfv false a2 1 2])) (by kernel_rfl) (sb_cells (by kernel_rfl) (by kernel_rfl) (tights_app (tights_lows ((low_cL low_cPrune_state) _)) (tights_cons rfl rfl))) (pl (b' := rfb cHeld a2) (by kernel_rfl) (sb_low (noref_rfb low_cHeld _)) pl_nil)) (by kernel_rfl) rfl (sbs (sb_cells (by kernel_rfl) (by kernel_rfl) (tights_app (tights_lows ((low_cL low_cPrune_state) _)) (tights_cons rfl rfl))) (sbs (sb_low (noref_rfb low_cHeld _)) (sbs (sb_low (noref_mpb (fun _ => rfl) (fun _ => rfl) _)) sbs_nil))) (by kernel_rfl) (fun e => by cases e) ?_)
 refine w_run 3 [.cells ((cL cPrune_state) a1 ++ [rfv false a2 1 2]), rfb cHeld a2, mpb (AV.int .i64) (AV.int .i64) y1439] rfl (by kernel_rfl) ?_
 refine w_end (by kernel_rfl) ?_
 refine then_n ?_
 refine go_same ?_
 refine x_seq (by kernel_rfl) ?_
 refine x_drawn 0 call_ends callMono (by kernel_rfl) (by kernel_rfl) ?_
 refine w_pure 1 rfl (by kernel_rfl) ?_
 refine w_mlen (AV.int .i64) (AV.int .i64) (t := 64) (l := 2) (kt := 3) (et := 3) y1439 (by kernel_rfl) (by kernel_rfl) (by kernel_rfl) ?_
 refine w_pure 9 rfl (by kernel_rfl) ?_
 refine w_end (by kernel_rfl) ?_
 refine ⟨_, _, VS.refl _ _ _, ?_⟩
 refine then_n ?_
 refine go_same ?_
 refine x_join (fun fr H => ∃ (p1461 : Int) (g1462 : Option Bool), fr = [.any, .any, .any, .any, .any, .any, .int .i64 p1461, .any, .any, .any, .any, .any, .any, .any, .any, .any, .any, .any, .any, .any, .any, .any, .bool false, .any, .any, .any, .any, .any, .any, junkB g1462, .any, .any, .any, .any] ∧ H = [.cells ((cL cPrune_state) a1 ++ [rfv false a2 1 2]), rfb cHeld a2] ∧ prune_Book_many_J4 p1461 = some r) (by kernel_rfl) (fun fr H ⟨p1461, g1462, e1, e2, hF⟩ => ?_) (fun hJ4 => ?_)
 ·subst e1 e2
  refine x_seq (by kernel_rfl) ?_
  refine x_region (by kernel_rfl) ?_
  refine w_run 2 [.cells ((cL cPrune_state) a1 ++ [rfv false a2 1 2]), rfb cHeld a2] rfl (by kernel_rfl) ?_
  refine w_end (by kernel_rfl) ?_
  refine then_n ?_
  refine go_same ?_
  refine x_ret (by kernel_rfl) ?_
  have e := Option.some.inj hF
  subst e
  exact fin_sh [0, 1] (.inl rfl) (by kernel_rfl) (by kernel_rfl) (by kernel_rfl) (by kernel_rfl) rfl (shh (b0 := .cells ((cL cPrune_state) a1 ++ [rfv false a2 1 2])) (by kernel_rfl) (shb_cells (by kernel_rfl) (by kernel_rfl) (tights_app (tights_lows ((low_cL low_cPrune_state) _)) (tights_cons rfl rfl))) (shh (b0 := rfb cHeld a2) (by kernel_rfl) (NoRef.shb (noref_rfb low_cHeld _)) shh_nil)) (And.intro rfl rfl)
 ·refine x_seq (by kernel_rfl) ?_
  refine x_region (by kernel_rfl) ?_
  refine w_run 3 [.cells ((cL cPrune_state) a1 ++ [rfv false a2 1 2]), rfb cHeld a2, mpb (AV.int .i64) (AV.int .i64) y1439] rfl (by kernel_rfl) ?_
  refine w_end (by kernel_rfl) ?_
  refine then_n ?_
  refine go_same ?_
  refine x_block (by kernel_rfl) ?_
  refine x_loop (fun d fr H => ∃ (x1479 : Int × Int) (g1469 : Option Bool) (g1470 : Option Bool), fr = [.any, .any, .any, .any, .any, .map 2, .int .i64 x1479.1, .any, .any, .any, .any, .any, .any, .any, .any, .any, .any, .any, .any, sl cHeld a0, .int .i64 (a0.l.length : Int), .int .i64 x1479.2, junkB g1469, .any, .any, .any, .any, .any, .any, junkB g1470, .any, .any, .any, .any] ∧ H = [.cells ((cL cPrune_state) a1 ++ [rfv false a2 1 2]), rfb cHeld a2, mpb (AV.int .i64) (AV.int .i64) y1439] ∧ loopN (prune_Book_many_B1479 a0 y1439) d x1479 = some r) (by kernel_rfl) (fun fr H ⟨x1479, g1469, g1470, e1, e2, hF⟩ => loop_no hF) (fun d1479 fr H ⟨x1479, g1469, g1470, e1, e2, hF⟩ => ?_) (VS.same2 17176199071 (by kernel_rfl) (by kernel_rfl)) ⟨(iAdd .i64 (y1439.l.length : Int) (a2.l.length : Int), 0), none, none, rfl, rfl, hF⟩
  subst e1 e2
  have hF := loop_in hF
  refine x_seq (by kernel_rfl) ?_
  refine x_region (by kernel_rfl) ?_
  refine w_run 1 [.cells ((cL cPrune_state) a1 ++ [rfv false a2 1 2]), rfb cHeld a2, mpb (AV.int .i64) (AV.int .i64) y1439] rfl (by kernel_rfl) ?_
  refine w_end (by kernel_rfl) ?_
  refine then_n ?_
  refine go_same ?_
  refine x_seq (by kernel_rfl) ?_
  refine ite_elim hF (fun hc1 hF => ?_) (fun hc1 hF => ?_)
  ·refine x_set 22 (b := true) (by kernel_rfl) hc1 ?_
   refine x_cond (b0 := true) (by kernel_rfl) (by kernel_rfl) ?_
   refine x_skip (.inl (by kernel_rfl)) ?_
   refine then_n ?_
   refine go_same ?_
   refine x_join (fun fr H => ∃ (p1481 : Int) (g1482 : Option Bool), fr = [.any, .any, .any, .any, .any, .map 2, .int .i64 p1481, .any, .any, .any, .any, .any, .any, .any, .any, .any, .any, .any, .any, sl cHeld a0, .int .i64 (a0.l.length : Int), .int .i64 x1479.2, .bool true, .any, .any, .any, .any, .any, .any, junkB g1482, .any, .any, .any, .any] ∧ H = [.cells ((cL cPrune_state) a1 ++ [rfv false a2 1 2]), rfb cHeld a2, mpb (AV.int .i64) (AV.int .i64) y1439] ∧ prune_Book_many_J7 (loopN (prune_Book_many_B1479 a0 y1439) d1479) x1479 p1481 = some r) (by kernel_rfl) (fun fr H ⟨p1481, g1482, e1, e2, hF⟩ => ?_) (fun hJ7 => ?_)
   ·subst e1 e2
    refine x_region (by kernel_rfl) ?_
    refine w_run 2 [.cells ((cL cPrune_state) a1 ++ [rfv false a2 1 2]), rfb cHeld a2, mpb (AV.int .i64) (AV.int .i64) y1439] rfl (by kernel_rfl) ?_
    refine w_end (by kernel_rfl) ?_
    refine then_n ?_
    exact x_back (VS.same2 16639328159 (by kernel_rfl) (by kernel_rfl)) ⟨(p1481, iAdd .i64 x1479.2 1), (some true), g1482, rfl, rfl, hF⟩
   ·refine x_block (by kernel_rfl) ?_
    refine x_seq (by kernel_rfl) ?_
    refine x_region (by kernel_rfl) ?_
    refine bind_elim hF (fun y1483 hy1483 hF => w_iaddr cHeld (sz := 2) hy1483 (by kernel_rfl) (by decide) len_cHeld ?_)
    refine w_elem cHeld 0 (t := 41) (v := .agg (cHeld y1483)) (sz := 2) (z := 2) hy1483 (by kernel_rfl) (by kernel_rfl) len_cHeld (by decide) (by decide) ?_
    refine w_run 4 [.cells ((cL cPrune_state) a1 ++ [rfv false a2 1 2]), rfb cHeld a2, mpb (AV.int .i64) (AV.int .i64) y1439, .cells (cHeld y1483)] rfl (by kernel_rfl) ?_
    refine w_end (by kernel_rfl) ?_
    refine then_n ?_
    refine go_same ?_
    refine x_seq (by kernel_rfl) ?_
    refine x_region (by kernel_rfl) ?_
    refine w_run 3 [.cells ((cL cPrune_state) a1 ++ [rfv false a2 1 2]), rfb cHeld a2, mpb (AV.int .i64) (AV.int .i64) y1439, .cells (cHeld y1483)] rfl (by kernel_rfl) ?_
    refine w_mget (AV.int .i64) (AV.int .i64) (t := 64) (l := 2) (a := y1483.Number) (ok := false) (kt := 3) (et := 3) (z := 0) y1439 (by kernel_rfl) (by kernel_rfl) (key_int (by kernel_rfl)) (by kernel_rfl) (by kernel_rfl) ?_
    refine w_run 5 [.cells ((cL cPrune_state) a1 ++ [rfv false a2 1 2]), rfb cHeld a2, mpb (AV.int .i64) (AV.int .i64) y1439, .cells (cHeld y1483)] rfl (by kernel_rfl) ?_
    refine w_end (by kernel_rfl) ?_
    refine then_n ?_
    refine go_same ?_
    refine ite_elim hF (fun hc2 hF => ?_) (fun hc2 hF => ?_)
    ·refine x_set 29 (b := true) (by kernel_rfl) hc2 ?_
     refine x_cond (b0 := true) (by kernel_rfl) (by kernel_rfl) ?_
     refine x_region (by kernel_rfl) ?_
     refine w_run 3 [.cells ((cL cPrune_state) a1 ++ [rfv false a2 1 2]), rfb cHeld a2, mpb (AV.int .i64) (AV.int .i64) y1439, .cells (cHeld y1483)] rfl (by kernel_rfl) ?_
     refine w_end (by kernel_rfl) ?_
     refine block_n ?_
     refine then_n ?_
     exact x_to hJ7 (VS.sh [0, 1, 2] 17172004767 (by kernel_rfl) (by kernel_rfl) (by kernel_rfl) (tights_at [19] (by kernel_rfl) (by exact ⟨(tight_sl low_cHeld), trivial⟩)) (shh (b0 := .cells ((cL cPrune_state) a1 ++ [rfv false a2 1 2])) (by kernel_rfl) (shb_cells (by kernel_rfl) (by kernel_rfl) (tights_app (tights_lows ((low_cL low_cPrune_state) _)) (tights_cons rfl rfl))) (shh (b0 := rfb cHeld a2) (by kernel_rfl) (NoRef.shb (noref_rfb low_cHeld _)) (shh (b0 := mpb (AV.int .i64) (AV.int .i64) y1439) (by kernel_rfl) (NoRef.shb (noref_mpb (fun _ => rfl) (fun _ => rfl) _)) shh_nil)))) ⟨iAdd .i64 x1479.1 1, (some true), rfl, rfl, hF⟩
    ·refine x_set 29 (b := false) (by kernel_rfl) hc2 ?_
     refine x_cond (b0 := false) (by kernel_rfl) (by kernel_rfl) ?_
     refine x_skip (.inl (by kernel_rfl)) ?_
     refine block_n ?_
     refine then_n ?_
     exact x_to hJ7 (VS.sh [0, 1, 2] 17172004767 (by kernel_rfl) (by kernel_rfl) (by kernel_rfl) (tights_at [19] (by kernel_rfl) (by exact ⟨(tight_sl low_cHeld), trivial⟩)) (shh (b0 := .cells ((cL cPrune_state) a1 ++ [rfv false a2 1 2])) (by kernel_rfl) (shb_cells (by kernel_rfl) (by kernel_rfl) (tights_app (tights_lows ((low_cL low_cPrune_state) _)) (tights_cons rfl rfl))) (shh (b0 := rfb cHeld a2) (by kernel_rfl) (NoRef.shb (noref_rfb low_cHeld _)) (shh (b0 := mpb (AV.int .i64) (AV.int .i64) y1439) (by kernel_rfl) (NoRef.shb (noref_mpb (fun _ => rfl) (fun _ => rfl) _)) shh_nil)))) ⟨x1479.1, (some false), rfl, rfl, hF⟩
  ·refine x_set 22 (b := false) (by kernel_rfl) hc1 ?_
   refine x_cond (b0 := false) (by kernel_rfl) (by kernel_rfl) ?_
   refine x_exit (by kernel_rfl) ?_
   refine then_e ?_
   refine then_e ?_
   refine block_e ?_
   refine then_n ?_
   exact x_to hJ4 (VS.shX [0, 1] 16638803903 [29] (by kernel_rfl) (by kernel_rfl) (by kernel_rfl) (by exact ⟨low_junk g1470, trivial⟩) (tights_at [29] (by kernel_rfl) (by exact ⟨(tight_junk g1470), trivial⟩)) (shh (b0 := .cells ((cL cPrune_state) a1 ++ [rfv false a2 1 2])) (by kernel_rfl) (shb_cells (by kernel_rfl) (by kernel_rfl) (tights_app (tights_lows ((low_cL low_cPrune_state) _)) (tights_cons rfl rfl))) (shh (b0 := rfb cHeld a2) (by kernel_rfl) (NoRef.shb (noref_rfb low_cHeld _)) shh_nil))) ⟨x1479.1, g1470, rfl, rfl, hF⟩
def prune_Book_Add_J1 (a0 : Int) (a1 : Sl Held) (a2 : Sl Prune_state) : Option (Int × (Sl Prune_state)) :=
 (cutL a2 none (some (a2.l.length : Int)) (some (a2.l.length : Int))).bind fun y1136 => (appX 16 (⟨false, true, []⟩ : Sl Held) a1.l).bind fun y1137 => (appX 32 y1136 (⟨false, true, [(⟨a0, y1137⟩ : Prune_state)]⟩ : Sl Prune_state).l).bind fun y1138 => some (0, y1138)
def prune_Book_Add (a0 : Int) (a1 : Sl Held) (a2 : Sl Prune_state) (a3 : Sl Held) : Option (Int × (Sl Prune_state)) :=
 if iLt a0 1 = true then some (2, a2) else if iGt a0 512 = true then some (2, a2) else if iGt (a2.l.length : Int) 0 = true then (idxL a2.l (iSub .i64 (a2.l.length : Int) 1)).bind fun y1142 => if iLe a0 y1142.number = true then some (2, a2) else (prune_plain a1).bind fun y1145 => if y1145 = true then (prune_Book_fits a1 a2 a3).bind fun y1146 => if y1146 = true then (prune_Book_many a1 a2 a3).bind fun y1147 => if iGt y1147 256 = true then some (11, a2) else prune_Book_Add_J1 a0 a1 a2 else some (2, a2) else some (2, a2) else (prune_plain a1).bind fun y1150 => if y1150 = true then (prune_Book_fits a1 a2 a3).bind fun y1151 => if y1151 = true then (prune_Book_many a1 a2 a3).bind fun y1152 => if iGt y1152 256 = true then some (11, a2) else prune_Book_Add_J1 a0 a1 a2 else some (2, a2) else some (2, a2)
theorem prune_Book_Add_ev {a0 : Int} {a1 : Sl Held} {a2 : Sl Prune_state} {a3 : Sl Held} {r : Int × (Sl Prune_state)} (hF : prune_Book_Add a0 a1 a2 a3 = some r) : EvCall Try.prog T G0 19 [.ptr 0 0, .int .i64 a0, sl cHeld a1] [.cells ((cL cPrune_state) a2 ++ [rfv false a3 1 2]), rfb cHeld a3] (fun v H' => v = .int .i64 r.1 ∧ H' = [.cells ((cL cPrune_state) r.2 ++ [rfv false a3 1 2]), rfb cHeld a3]) := by
 refine x_call Try.func19 (by kernel_rfl) (by kernel_rfl) rfl ?_
 refine x_seq (by kernel_rfl) ?_
 refine x_region (by kernel_rfl) ?_
 refine w_run 1 [.cells ((cL cPrune_state) a2 ++ [rfv false a3 1 2]), rfb cHeld a3] rfl (by kernel_rfl) ?_
 refine w_end (by kernel_rfl) ?_
 refine then_n ?_
 refine go_same ?_
 refine x_join (fun fr H => ∃ (g1120 : Option Bool) (g1121 : Option Bool) (g1122 : Option Bool) (g1123 : Option Bool) (g1124 : Option Bool) (g1125 : Option Bool) (g1126 : Option Bool) (g1127 : Option Bool) (g1128 : Option Bool) (g1129 : Option Bool), fr = [.ptr 0 0, .int .i64 a0, sl cHeld a1, .any, .any, .any, .any, .bool false, .any, .bool false, .bool false, .any, .bool (iLt a0 1), .bool false, .any, .bool (iGt a0 512), .bool (iGt a0 512), .bool false, .any, .any, .any, .any, .any, .bool (iGt (a2.l.length : Int) 0), junkB g1120, .any, .any, .any, .any, .any, .any, .any, .any, .any, .any, .any, .any, .any, .any, junkB g1121, junkB g1122, junkB g1123, .bool false, .any, junkB g1124, junkB g1125, .bool false, .any, .any, junkB g1126, junkB g1127, junkB g1128, .bool false, .any, .any, .any, junkB g1129, .any, .any, .any, .any, .any, .any, .any, .any, .any, .any, .any, .any, .any, .any, .any, .any, .any, .any, .any, .any, .any, .any, .any, .any, .any] ∧ H = [.cells ((cL cPrune_state) a2 ++ [rfv false a3 1 2]), rfb cHeld a3] ∧ prune_Book_Add_J1 a0 a1 a2 = some r) (by kernel_rfl) (fun fr H ⟨g1120, g1121, g1122, g1123, g1124, g1125, g1126, g1127, g1128, g1129, e1, e2, hF⟩ => ?_) (fun hJ1 => ?_)
 ·subst e1 e2
  refine x_seq (by kernel_rfl) ?_
  refine x_rows 0 33554431 [⟨25, [], [], [], []⟩] call_ends callMono (by kernel_rfl) (by kernel_rfl) ?_
  refine w_pure 15 rfl (by kernel_rfl) ?_
  refine bind_elim hF (fun y1136 hy1136 hF => w_slice cPrune_state (sz := 2) hy1136 (by kernel_rfl) len_cPrune_state (fun _ => rfl) ?_)
  refine w_pure 17 rfl (by kernel_rfl) ?_
  refine w_frz (v := sl cHeld (⟨false, true, []⟩ : Sl Held)) (by kernel_rfl) ?_
  refine w_pure 19 rfl (by kernel_rfl) ?_
  refine bind_elim hF (fun y1137 hy1137 hF => w_appL cHeld (e := 41) (sz := 2) (x := (⟨false, true, []⟩ : Sl Held)) (ys := a1.l) hy1137 (by kernel_rfl) (by kernel_rfl) (by decide) len_cHeld (gives_sl (x := a1) (by kernel_rfl) len_cHeld) ?_)
  refine w_pure 21 rfl (by kernel_rfl) ?_
  refine w_frz (v := sl cPrune_state (⟨false, true, [(⟨a0, y1137⟩ : Prune_state)]⟩ : Sl Prune_state)) (by kernel_rfl) ?_
  refine bind_elim hF (fun y1138 hy1138 hF => w_appL cPrune_state (e := 63) (sz := 2) (x := y1136) (ys := (⟨false, true, [(⟨a0, y1137⟩ : Prune_state)]⟩ : Sl Prune_state).l) hy1138 (cut_ex hy1136) (by kernel_rfl) (by decide) len_cPrune_state (gives_sl (x := (⟨false, true, [(⟨a0, y1137⟩ : Prune_state)]⟩ : Sl Prune_state)) (by kernel_rfl) len_cPrune_state) ?_)
  refine w_pure 25 rfl (by kernel_rfl) ?_
  refine w_end (by kernel_rfl) ?_
  refine rows_next ?_
  refine w_run 1 [.cells ((cL cPrune_state) y1138 ++ [rfv false a3 1 2]), rfb cHeld a3] rfl (by kernel_rfl) ?_
  refine w_end (by kernel_rfl) ?_
  refine ⟨⟨(by kernel_rfl), trivial⟩, ?_⟩
  refine w_end (by kernel_rfl) ?_
  refine rows_done ?_
  refine ⟨_, _, VS.refl _ _ _, ?_⟩
  refine then_n ?_
  refine go_same ?_
  refine x_seq (by kernel_rfl) ?_
  refine x_region (by kernel_rfl) ?_
  refine w_run 1 [.cells ((cL cPrune_state) y1138 ++ [rfv false a3 1 2]), rfb cHeld a3] rfl (by kernel_rfl) ?_
  refine w_end (by kernel_rfl) ?_
  refine then_n ?_
  refine go_same ?_
  refine x_ret (by kernel_rfl) ?_
  have e := Option.some.inj hF
  subst e
  exact fin_sh [0, 1] (.inl rfl) (by kernel_rfl) (by kernel_rfl) (by kernel_rfl) (by kernel_rfl) rfl (shh (b0 := .cells ((cL cPrune_state) y1138 ++ [rfv false a3 1 2])) (by kernel_rfl) (shb_cells (by kernel_rfl) (by kernel_rfl) (tights_app (tights_lows ((low_cL low_cPrune_state) _)) (tights_cons rfl rfl))) (shh (b0 := rfb cHeld a3) (by kernel_rfl) (NoRef.shb (noref_rfb low_cHeld _)) shh_nil)) (And.intro rfl rfl)
 ·refine x_block (by kernel_rfl) ?_
  refine x_seq (by kernel_rfl) ?_
  refine x_region (by kernel_rfl) ?_
  refine w_run 3 [.cells ((cL cPrune_state) a2 ++ [rfv false a3 1 2]), rfb cHeld a3] rfl (by kernel_rfl) ?_
  refine w_end (by kernel_rfl) ?_
  refine then_n ?_
  refine go_same ?_
  refine x_cond (b0 := false) (by kernel_rfl) (by kernel_rfl) ?_
  refine x_seq (by kernel_rfl) ?_
  refine x_drawn 0 call_ends callMono (by kernel_rfl) (by kernel_rfl) ?_
  refine w_pure 3 rfl (by kernel_rfl) ?_
  refine ite_elim hF (fun hc1 hF => ?_) (fun hc1 hF => ?_)
  ·refine w_set 13 (b := true) (by kernel_rfl) hc1 ?_
   refine w_pure 32 rfl (by kernel_rfl) ?_
   refine w_end (by kernel_rfl) ?_
   refine ⟨_, _, VS.refl _ _ _, ?_⟩
   refine then_n ?_
   refine go_same ?_
   refine x_cond (b0 := true) (by kernel_rfl) (by kernel_rfl) ?_
   refine x_seq (by kernel_rfl) ?_
   refine x_region (by kernel_rfl) ?_
   refine w_run 1 [.cells ((cL cPrune_state) a2 ++ [rfv false a3 1 2]), rfb cHeld a3] rfl (by kernel_rfl) ?_
   refine w_end (by kernel_rfl) ?_
   refine then_n ?_
   refine go_same ?_
   refine x_ret (by kernel_rfl) ?_
   refine block_r ?_
   refine then_r ?_
   have e := Option.some.inj hF
   subst e
   exact fin_sh [0, 1] (.inl rfl) (by kernel_rfl) (by kernel_rfl) (by kernel_rfl) (by kernel_rfl) rfl (shh (b0 := .cells ((cL cPrune_state) a2 ++ [rfv false a3 1 2])) (by kernel_rfl) (shb_cells (by kernel_rfl) (by kernel_rfl) (tights_app (tights_lows ((low_cL low_cPrune_state) _)) (tights_cons rfl rfl))) (shh (b0 := rfb cHeld a3) (by kernel_rfl) (NoRef.shb (noref_rfb low_cHeld _)) shh_nil)) (And.intro rfl rfl)
  ·refine w_set 13 (b := false) (by kernel_rfl) hc1 ?_
   refine w_pure 7 rfl (by kernel_rfl) ?_
   refine ite_elim hF (fun hc2 hF => ?_) (fun hc2 hF => ?_)
   ·refine w_set 17 (b := true) (by kernel_rfl) hc2 ?_
    refine w_pure 32 rfl (by kernel_rfl) ?_
    refine w_end (by kernel_rfl) ?_
    refine ⟨_, _, VS.refl _ _ _, ?_⟩
    refine then_n ?_
    refine go_same ?_
    refine x_cond (b0 := true) (by kernel_rfl) (by kernel_rfl) ?_
    refine x_seq (by kernel_rfl) ?_
    refine x_region (by kernel_rfl) ?_
    refine w_run 1 [.cells ((cL cPrune_state) a2 ++ [rfv false a3 1 2]), rfb cHeld a3] rfl (by kernel_rfl) ?_
    refine w_end (by kernel_rfl) ?_
    refine then_n ?_
    refine go_same ?_
    refine x_ret (by kernel_rfl) ?_
    refine block_r ?_
    refine then_r ?_
    have e := Option.some.inj hF
    subst e
    exact fin_sh [0, 1] (.inl rfl) (by kernel_rfl) (by kernel_rfl) (by kernel_rfl) (by kernel_rfl) rfl (shh (b0 := .cells ((cL cPrune_state) a2 ++ [rfv false a3 1 2])) (by kernel_rfl) (shb_cells (by kernel_rfl) (by kernel_rfl) (tights_app (tights_lows ((low_cL low_cPrune_state) _)) (tights_cons rfl rfl))) (shh (b0 := rfb cHeld a3) (by kernel_rfl) (NoRef.shb (noref_rfb low_cHeld _)) shh_nil)) (And.intro rfl rfl)
   ·refine w_set 17 (b := false) (by kernel_rfl) hc2 ?_
    refine w_pure 14 rfl (by kernel_rfl) ?_
    refine ite_elim hF (fun hc3 hF => ?_) (fun hc3 hF => ?_)
    ·refine w_set 24 (b := true) (by kernel_rfl) hc3 ?_
     refine w_pure 25 rfl (by kernel_rfl) ?_
     refine bind_elim hF (fun y1142 hy1142 hF => w_iaddr cPrune_state (sz := 2) hy1142 (by kernel_rfl) (by decide) len_cPrune_state ?_)
     refine w_pure 27 rfl (by kernel_rfl) ?_
     refine w_elem cPrune_state 0 (t := 3) (v := .int .i64 y1142.number) (sz := 2) (z := 1) hy1142 (by kernel_rfl) (by kernel_rfl) len_cPrune_state (by decide) (by decide) ?_
     refine w_pure 32 rfl (by kernel_rfl) ?_
     refine w_end (by kernel_rfl) ?_
     refine ⟨_, _, VS.refl _ _ _, ?_⟩
     refine then_n ?_
     refine go_same ?_
     refine ite_elim hF (fun hc4 hF => ?_) (fun hc4 hF => ?_)
     ·refine x_set 10 (b := true) (by kernel_rfl) hc4 ?_
      refine x_cond (b0 := true) (by kernel_rfl) (by kernel_rfl) ?_
      refine x_seq (by kernel_rfl) ?_
      refine x_region (by kernel_rfl) ?_
      refine w_run 1 [.cells ((cL cPrune_state) a2 ++ [rfv false a3 1 2]), rfb cHeld a3] rfl (by kernel_rfl) ?_
      refine w_end (by kernel_rfl) ?_
      refine then_n ?_
      refine go_same ?_
      refine x_ret (by kernel_rfl) ?_
      refine block_r ?_
      refine then_r ?_
      have e := Option.some.inj hF
      subst e
      exact fin_sh [0, 1] (.inl rfl) (by kernel_rfl) (by kernel_rfl) (by kernel_rfl) (by kernel_rfl) rfl (shh (b0 := .cells ((cL cPrune_state) a2 ++ [rfv false a3 1 2])) (by kernel_rfl) (shb_cells (by kernel_rfl) (by kernel_rfl) (tights_app (tights_lows ((low_cL low_cPrune_state) _)) (tights_cons rfl rfl))) (shh (b0 := rfb cHeld a3) (by kernel_rfl) (NoRef.shb (noref_rfb low_cHeld _)) shh_nil)) (And.intro rfl rfl)
     ·refine x_set 10 (b := false) (by kernel_rfl) hc4 ?_
      refine x_cond (b0 := false) (by kernel_rfl) (by kernel_rfl) ?_
      refine x_seq (by kernel_rfl) ?_
      refine x_region (by kernel_rfl) ?_
      refine w_run 1 [.cells ((cL cPrune_state) a2 ++ [rfv false a3 1 2]), rfb cHeld a3] rfl (by kernel_rfl) ?_
      refine bind_elim hF (fun y1145 hy1145 hF => w_pcallW (prune_plain_ev hy1145) (by kernel_rfl) (lows_cons (low_sl low_cHeld) rfl) rfl ?_)
      refine w_run 4 [.cells ((cL cPrune_state) a2 ++ [rfv false a3 1 2]), rfb cHeld a3] rfl (by kernel_rfl) ?_
      refine ite_elim hF (fun hc5 hF => ?_) (fun hc5 hF => ?_)
      ·refine w_set 46 (b := false) (by kernel_rfl) (show (!y1145) = false by rw [hc5]; rfl) ?_
       refine w_run 6 [.cells ((cL cPrune_state) a2 ++ [rfv false a3 1 2]), rfb cHeld a3] rfl (by kernel_rfl) ?_
       refine bind_elim hF (fun y1146 hy1146 hF => w_ocall [0, 1] [0, 1] (ga := [.ptr 0 0, sl cHeld a1]) (as0 := [.ptr 0 0, sl cHeld a1]) (h0 := [.cells ((cL cPrune_state) a2 ++ [rfv false a3 1 2]), rfb cHeld a3]) (h1 := [.cells ((cL cPrune_state) a2 ++ [rfv false a3 1 2]), rfb cHeld a3]) (h2 := [.cells ((cL cPrune_state) a2 ++ [rfv false a3 1 2]), rfb cHeld a3]) (H2 := [.cells ((cL cPrune_state) a2 ++ [rfv false a3 1 2]), rfb cHeld a3]) (v0 := .bool y1146) (v := .bool y1146) (prune_Book_fits_ev hy1146) (by kernel_rfl) (by kernel_rfl) (by kernel_rfl) (tights_cons rfl (tights_cons (tight_sl low_cHeld) rfl)) (pl (b' := .cells ((cL cPrune_state) a2 ++ [rfv false a3 1 2])) (by kernel_rfl) (sb_cells (by kernel_rfl) (by kernel_rfl) (tights_app (tights_lows ((low_cL low_cPrune_state) _)) (tights_cons rfl rfl))) (pl (b' := rfb cHeld a3) (by kernel_rfl) (sb_low (noref_rfb low_cHeld _)) pl_nil)) (by kernel_rfl) rfl (sbs (sb_cells (by kernel_rfl) (by kernel_rfl) (tights_app (tights_lows ((low_cL low_cPrune_state) _)) (tights_cons rfl rfl))) (sbs (sb_low (noref_rfb low_cHeld _)) sbs_nil)) (by kernel_rfl) (fun _ => rfl) ?_)
       refine w_run 10 [.cells ((cL cPrune_state) a2 ++ [rfv false a3 1 2]), rfb cHeld a3] rfl (by kernel_rfl) ?_
       refine w_end (by kernel_rfl) ?_
       refine then_n ?_
       refine go_same ?_
       refine ite_elim hF (fun hc6 hF => ?_) (fun hc6 hF => ?_)
       ·refine x_set 42 (b := false) (by kernel_rfl) (show (!y1146) = false by rw [hc6]; rfl) ?_
        refine x_cond (b0 := false) (by kernel_rfl) (by kernel_rfl) ?_
        refine x_seq (by kernel_rfl) ?_
        refine x_region (by kernel_rfl) ?_
        refine w_run 2 [.cells ((cL cPrune_state) a2 ++ [rfv false a3 1 2]), rfb cHeld a3] rfl (by kernel_rfl) ?_
        refine bind_elim hF (fun y1147 hy1147 hF => w_ocall [0, 1] [0, 1] (ga := [.ptr 0 0, sl cHeld a1]) (as0 := [.ptr 0 0, sl cHeld a1]) (h0 := [.cells ((cL cPrune_state) a2 ++ [rfv false a3 1 2]), rfb cHeld a3]) (h1 := [.cells ((cL cPrune_state) a2 ++ [rfv false a3 1 2]), rfb cHeld a3]) (h2 := [.cells ((cL cPrune_state) a2 ++ [rfv false a3 1 2]), rfb cHeld a3]) (H2 := [.cells ((cL cPrune_state) a2 ++ [rfv false a3 1 2]), rfb cHeld a3]) (v0 := .int .i64 y1147) (v := .int .i64 y1147) (prune_Book_many_ev hy1147) (by kernel_rfl) (by kernel_rfl) (by kernel_rfl) (tights_cons rfl (tights_cons (tight_sl low_cHeld) rfl)) (pl (b' := .cells ((cL cPrune_state) a2 ++ [rfv false a3 1 2])) (by kernel_rfl) (sb_cells (by kernel_rfl) (by kernel_rfl) (tights_app (tights_lows ((low_cL low_cPrune_state) _)) (tights_cons rfl rfl))) (pl (b' := rfb cHeld a3) (by kernel_rfl) (sb_low (noref_rfb low_cHeld _)) pl_nil)) (by kernel_rfl) rfl (sbs (sb_cells (by kernel_rfl) (by kernel_rfl) (tights_app (tights_lows ((low_cL low_cPrune_state) _)) (tights_cons rfl rfl))) (sbs (sb_low (noref_rfb low_cHeld _)) sbs_nil)) (by kernel_rfl) (fun _ => rfl) ?_)
        refine w_run 5 [.cells ((cL cPrune_state) a2 ++ [rfv false a3 1 2]), rfb cHeld a3] rfl (by kernel_rfl) ?_
        refine w_end (by kernel_rfl) ?_
        refine then_n ?_
        refine go_same ?_
        refine ite_elim hF (fun hc7 hF => ?_) (fun hc7 hF => ?_)
        ·refine x_set 52 (b := true) (by kernel_rfl) hc7 ?_
         refine x_cond (b0 := true) (by kernel_rfl) (by kernel_rfl) ?_
         refine x_seq (by kernel_rfl) ?_
         refine x_region (by kernel_rfl) ?_
         refine w_run 1 [.cells ((cL cPrune_state) a2 ++ [rfv false a3 1 2]), rfb cHeld a3] rfl (by kernel_rfl) ?_
         refine w_end (by kernel_rfl) ?_
         refine then_n ?_
         refine go_same ?_
         refine x_ret (by kernel_rfl) ?_
         refine block_r ?_
         refine then_r ?_
         have e := Option.some.inj hF
         subst e
         exact fin_sh [0, 1] (.inl rfl) (by kernel_rfl) (by kernel_rfl) (by kernel_rfl) (by kernel_rfl) rfl (shh (b0 := .cells ((cL cPrune_state) a2 ++ [rfv false a3 1 2])) (by kernel_rfl) (shb_cells (by kernel_rfl) (by kernel_rfl) (tights_app (tights_lows ((low_cL low_cPrune_state) _)) (tights_cons rfl rfl))) (shh (b0 := rfb cHeld a3) (by kernel_rfl) (NoRef.shb (noref_rfb low_cHeld _)) shh_nil)) (And.intro rfl rfl)
        ·refine x_set 52 (b := false) (by kernel_rfl) hc7 ?_
         refine x_cond (b0 := false) (by kernel_rfl) (by kernel_rfl) ?_
         refine x_skip (.inl (by kernel_rfl)) ?_
         refine block_n ?_
         refine then_n ?_
         exact x_to hJ1 (VS.same2 4835703273880150272133496 (by kernel_rfl) (by kernel_rfl)) ⟨(some true), (some (iLe a0 y1142.number)), (some (iLe a0 y1142.number)), (some (iLe a0 y1142.number)), (some y1145), (some (!y1145)), (some y1146), (some (!y1146)), (some (!y1146)), (some (iGt y1147 256)), rfl, rfl, hF⟩
       ·refine x_set 42 (b := true) (by kernel_rfl) (show (!y1146) = true by rw [hc6]; rfl) ?_
        refine x_cond (b0 := true) (by kernel_rfl) (by kernel_rfl) ?_
        refine x_seq (by kernel_rfl) ?_
        refine x_region (by kernel_rfl) ?_
        refine w_run 1 [.cells ((cL cPrune_state) a2 ++ [rfv false a3 1 2]), rfb cHeld a3] rfl (by kernel_rfl) ?_
        refine w_end (by kernel_rfl) ?_
        refine then_n ?_
        refine go_same ?_
        refine x_ret (by kernel_rfl) ?_
        refine block_r ?_
        refine then_r ?_
        have e := Option.some.inj hF
        subst e
        exact fin_sh [0, 1] (.inl rfl) (by kernel_rfl) (by kernel_rfl) (by kernel_rfl) (by kernel_rfl) rfl (shh (b0 := .cells ((cL cPrune_state) a2 ++ [rfv false a3 1 2])) (by kernel_rfl) (shb_cells (by kernel_rfl) (by kernel_rfl) (tights_app (tights_lows ((low_cL low_cPrune_state) _)) (tights_cons rfl rfl))) (shh (b0 := rfb cHeld a3) (by kernel_rfl) (NoRef.shb (noref_rfb low_cHeld _)) shh_nil)) (And.intro rfl rfl)
      ·refine w_set 46 (b := true) (by kernel_rfl) (show (!y1145) = true by rw [hc5]; rfl) ?_
       refine w_run 10 [.cells ((cL cPrune_state) a2 ++ [rfv false a3 1 2]), rfb cHeld a3] rfl (by kernel_rfl) ?_
       refine w_end (by kernel_rfl) ?_
       refine then_n ?_
       refine go_same ?_
       refine x_cond (b0 := true) (by kernel_rfl) (by kernel_rfl) ?_
       refine x_seq (by kernel_rfl) ?_
       refine x_region (by kernel_rfl) ?_
       refine w_run 1 [.cells ((cL cPrune_state) a2 ++ [rfv false a3 1 2]), rfb cHeld a3] rfl (by kernel_rfl) ?_
       refine w_end (by kernel_rfl) ?_
       refine then_n ?_
       refine go_same ?_
       refine x_ret (by kernel_rfl) ?_
       refine block_r ?_
       refine then_r ?_
       have e := Option.some.inj hF
       subst e
       exact fin_sh [0, 1] (.inl rfl) (by kernel_rfl) (by kernel_rfl) (by kernel_rfl) (by kernel_rfl) rfl (shh (b0 := .cells ((cL cPrune_state) a2 ++ [rfv false a3 1 2])) (by kernel_rfl) (shb_cells (by kernel_rfl) (by kernel_rfl) (tights_app (tights_lows ((low_cL low_cPrune_state) _)) (tights_cons rfl rfl))) (shh (b0 := rfb cHeld a3) (by kernel_rfl) (NoRef.shb (noref_rfb low_cHeld _)) shh_nil)) (And.intro rfl rfl)
    ·refine w_set 24 (b := false) (by kernel_rfl) hc3 ?_
     refine w_pure 32 rfl (by kernel_rfl) ?_
     refine w_end (by kernel_rfl) ?_
     refine ⟨_, _, VS.refl _ _ _, ?_⟩
     refine then_n ?_
     refine go_same ?_
     refine x_cond (b0 := false) (by kernel_rfl) (by kernel_rfl) ?_
     refine x_seq (by kernel_rfl) ?_
     refine x_region (by kernel_rfl) ?_
     refine w_run 1 [.cells ((cL cPrune_state) a2 ++ [rfv false a3 1 2]), rfb cHeld a3] rfl (by kernel_rfl) ?_
     refine bind_elim hF (fun y1150 hy1150 hF => w_pcallW (prune_plain_ev hy1150) (by kernel_rfl) (lows_cons (low_sl low_cHeld) rfl) rfl ?_)
     refine w_run 4 [.cells ((cL cPrune_state) a2 ++ [rfv false a3 1 2]), rfb cHeld a3] rfl (by kernel_rfl) ?_
     refine ite_elim hF (fun hc8 hF => ?_) (fun hc8 hF => ?_)
     ·refine w_set 46 (b := false) (by kernel_rfl) (show (!y1150) = false by rw [hc8]; rfl) ?_
      refine w_run 6 [.cells ((cL cPrune_state) a2 ++ [rfv false a3 1 2]), rfb cHeld a3] rfl (by kernel_rfl) ?_
      refine bind_elim hF (fun y1151 hy1151 hF => w_ocall [0, 1] [0, 1] (ga := [.ptr 0 0, sl cHeld a1]) (as0 := [.ptr 0 0, sl cHeld a1]) (h0 := [.cells ((cL cPrune_state) a2 ++ [rfv false a3 1 2]), rfb cHeld a3]) (h1 := [.cells ((cL cPrune_state) a2 ++ [rfv false a3 1 2]), rfb cHeld a3]) (h2 := [.cells ((cL cPrune_state) a2 ++ [rfv false a3 1 2]), rfb cHeld a3]) (H2 := [.cells ((cL cPrune_state) a2 ++ [rfv false a3 1 2]), rfb cHeld a3]) (v0 := .bool y1151) (v := .bool y1151) (prune_Book_fits_ev hy1151) (by kernel_rfl) (by kernel_rfl) (by kernel_rfl) (tights_cons rfl (tights_cons (tight_sl low_cHeld) rfl)) (pl (b' := .cells ((cL cPrune_state) a2 ++ [rfv false a3 1 2])) (by kernel_rfl) (sb_cells (by kernel_rfl) (by kernel_rfl) (tights_app (tights_lows ((low_cL low_cPrune_state) _)) (tights_cons rfl rfl))) (pl (b' := rfb cHeld a3) (by kernel_rfl) (sb_low (noref_rfb low_cHeld _)) pl_nil)) (by kernel_rfl) rfl (sbs (sb_cells (by kernel_rfl) (by kernel_rfl) (tights_app (tights_lows ((low_cL low_cPrune_state) _)) (tights_cons rfl rfl))) (sbs (sb_low (noref_rfb low_cHeld _)) sbs_nil)) (by kernel_rfl) (fun _ => rfl) ?_)
      refine w_run 10 [.cells ((cL cPrune_state) a2 ++ [rfv false a3 1 2]), rfb cHeld a3] rfl (by kernel_rfl) ?_
      refine w_end (by kernel_rfl) ?_
      refine then_n ?_
      refine go_same ?_
      refine ite_elim hF (fun hc9 hF => ?_) (fun hc9 hF => ?_)
      ·refine x_set 42 (b := false) (by kernel_rfl) (show (!y1151) = false by rw [hc9]; rfl) ?_
       refine x_cond (b0 := false) (by kernel_rfl) (by kernel_rfl) ?_
       refine x_seq (by kernel_rfl) ?_
       refine x_region (by kernel_rfl) ?_
       refine w_run 2 [.cells ((cL cPrune_state) a2 ++ [rfv false a3 1 2]), rfb cHeld a3] rfl (by kernel_rfl) ?_
       refine bind_elim hF (fun y1152 hy1152 hF => w_ocall [0, 1] [0, 1] (ga := [.ptr 0 0, sl cHeld a1]) (as0 := [.ptr 0 0, sl cHeld a1]) (h0 := [.cells ((cL cPrune_state) a2 ++ [rfv false a3 1 2]), rfb cHeld a3]) (h1 := [.cells ((cL cPrune_state) a2 ++ [rfv false a3 1 2]), rfb cHeld a3]) (h2 := [.cells ((cL cPrune_state) a2 ++ [rfv false a3 1 2]), rfb cHeld a3]) (H2 := [.cells ((cL cPrune_state) a2 ++ [rfv false a3 1 2]), rfb cHeld a3]) (v0 := .int .i64 y1152) (v := .int .i64 y1152) (prune_Book_many_ev hy1152) (by kernel_rfl) (by kernel_rfl) (by kernel_rfl) (tights_cons rfl (tights_cons (tight_sl low_cHeld) rfl)) (pl (b' := .cells ((cL cPrune_state) a2 ++ [rfv false a3 1 2])) (by kernel_rfl) (sb_cells (by kernel_rfl) (by kernel_rfl) (tights_app (tights_lows ((low_cL low_cPrune_state) _)) (tights_cons rfl rfl))) (pl (b' := rfb cHeld a3) (by kernel_rfl) (sb_low (noref_rfb low_cHeld _)) pl_nil)) (by kernel_rfl) rfl (sbs (sb_cells (by kernel_rfl) (by kernel_rfl) (tights_app (tights_lows ((low_cL low_cPrune_state) _)) (tights_cons rfl rfl))) (sbs (sb_low (noref_rfb low_cHeld _)) sbs_nil)) (by kernel_rfl) (fun _ => rfl) ?_)
       refine w_run 5 [.cells ((cL cPrune_state) a2 ++ [rfv false a3 1 2]), rfb cHeld a3] rfl (by kernel_rfl) ?_
       refine w_end (by kernel_rfl) ?_
       refine then_n ?_
       refine go_same ?_
       refine ite_elim hF (fun hc10 hF => ?_) (fun hc10 hF => ?_)
       ·refine x_set 52 (b := true) (by kernel_rfl) hc10 ?_
        refine x_cond (b0 := true) (by kernel_rfl) (by kernel_rfl) ?_
        refine x_seq (by kernel_rfl) ?_
        refine x_region (by kernel_rfl) ?_
        refine w_run 1 [.cells ((cL cPrune_state) a2 ++ [rfv false a3 1 2]), rfb cHeld a3] rfl (by kernel_rfl) ?_
        refine w_end (by kernel_rfl) ?_
        refine then_n ?_
        refine go_same ?_
        refine x_ret (by kernel_rfl) ?_
        refine block_r ?_
        refine then_r ?_
        have e := Option.some.inj hF
        subst e
        exact fin_sh [0, 1] (.inl rfl) (by kernel_rfl) (by kernel_rfl) (by kernel_rfl) (by kernel_rfl) rfl (shh (b0 := .cells ((cL cPrune_state) a2 ++ [rfv false a3 1 2])) (by kernel_rfl) (shb_cells (by kernel_rfl) (by kernel_rfl) (tights_app (tights_lows ((low_cL low_cPrune_state) _)) (tights_cons rfl rfl))) (shh (b0 := rfb cHeld a3) (by kernel_rfl) (NoRef.shb (noref_rfb low_cHeld _)) shh_nil)) (And.intro rfl rfl)
       ·refine x_set 52 (b := false) (by kernel_rfl) hc10 ?_
        refine x_cond (b0 := false) (by kernel_rfl) (by kernel_rfl) ?_
        refine x_skip (.inl (by kernel_rfl)) ?_
        refine block_n ?_
        refine then_n ?_
        exact x_to hJ1 (VS.same2 4835703273880150272133496 (by kernel_rfl) (by kernel_rfl)) ⟨(some false), none, (some false), (some false), (some y1150), (some (!y1150)), (some y1151), (some (!y1151)), (some (!y1151)), (some (iGt y1152 256)), rfl, rfl, hF⟩
      ·refine x_set 42 (b := true) (by kernel_rfl) (show (!y1151) = true by rw [hc9]; rfl) ?_
       refine x_cond (b0 := true) (by kernel_rfl) (by kernel_rfl) ?_
       refine x_seq (by kernel_rfl) ?_
       refine x_region (by kernel_rfl) ?_
       refine w_run 1 [.cells ((cL cPrune_state) a2 ++ [rfv false a3 1 2]), rfb cHeld a3] rfl (by kernel_rfl) ?_
       refine w_end (by kernel_rfl) ?_
       refine then_n ?_
       refine go_same ?_
       refine x_ret (by kernel_rfl) ?_
       refine block_r ?_
       refine then_r ?_
       have e := Option.some.inj hF
       subst e
       exact fin_sh [0, 1] (.inl rfl) (by kernel_rfl) (by kernel_rfl) (by kernel_rfl) (by kernel_rfl) rfl (shh (b0 := .cells ((cL cPrune_state) a2 ++ [rfv false a3 1 2])) (by kernel_rfl) (shb_cells (by kernel_rfl) (by kernel_rfl) (tights_app (tights_lows ((low_cL low_cPrune_state) _)) (tights_cons rfl rfl))) (shh (b0 := rfb cHeld a3) (by kernel_rfl) (NoRef.shb (noref_rfb low_cHeld _)) shh_nil)) (And.intro rfl rfl)
     ·refine w_set 46 (b := true) (by kernel_rfl) (show (!y1150) = true by rw [hc8]; rfl) ?_
      refine w_run 10 [.cells ((cL cPrune_state) a2 ++ [rfv false a3 1 2]), rfb cHeld a3] rfl (by kernel_rfl) ?_
      refine w_end (by kernel_rfl) ?_
      refine then_n ?_
      refine go_same ?_
      refine x_cond (b0 := true) (by kernel_rfl) (by kernel_rfl) ?_
      refine x_seq (by kernel_rfl) ?_
      refine x_region (by kernel_rfl) ?_
      refine w_run 1 [.cells ((cL cPrune_state) a2 ++ [rfv false a3 1 2]), rfb cHeld a3] rfl (by kernel_rfl) ?_
      refine w_end (by kernel_rfl) ?_
      refine then_n ?_
      refine go_same ?_
      refine x_ret (by kernel_rfl) ?_
      refine block_r ?_
      refine then_r ?_
      have e := Option.some.inj hF
      subst e
      exact fin_sh [0, 1] (.inl rfl) (by kernel_rfl) (by kernel_rfl) (by kernel_rfl) (by kernel_rfl) rfl (shh (b0 := .cells ((cL cPrune_state) a2 ++ [rfv false a3 1 2])) (by kernel_rfl) (shb_cells (by kernel_rfl) (by kernel_rfl) (tights_app (tights_lows ((low_cL low_cPrune_state) _)) (tights_cons rfl rfl))) (shh (b0 := rfb cHeld a3) (by kernel_rfl) (NoRef.shb (noref_rfb low_cHeld _)) shh_nil)) (And.intro rfl rfl)
def r24_Rise_J4  : Option Bool :=
 some true
def r24_Rise_J7 (k1324 : Int → Option Bool) (x1324 : Int) : Option Bool :=
 k1324 (iAdd .i64 x1324 1)
def r24_Rise_B1324 (a0 : Sl Held) (k1324 : Int → Option Bool) (x1324 : Int) : Option Bool :=
 if iLt x1324 (a0.l.length : Int) = true then (idxL a0.l x1324).bind fun y1338 => if iLt y1338.Number 0 = true then some false else if iGt y1338.Number 1099511627776 = true then some false else if iLt y1338.Size 0 = true then some false else if iGt y1338.Size 4096 = true then some false else if iGt x1324 0 = true then (idxL a0.l (iSub .i64 x1324 1)).bind fun y1342 => if iGe y1342.Number y1338.Number = true then some false else r24_Rise_J7 k1324 x1324 else r24_Rise_J7 k1324 x1324 else r24_Rise_J4
def r24_Rise (a0 : Sl Held) : Option Bool :=
 loopN (r24_Rise_B1324 a0) FUEL 0
theorem r24_Rise_ev {a0 : Sl Held} {r : Bool} (hF : r24_Rise a0 = some r) : EvCall Try.prog T G0 44 [sl cHeld a0] [] (fun v H' => v = .bool r ∧ H' = []) := by
 refine x_call Try.func44 (by kernel_rfl) (by kernel_rfl) rfl ?_
 refine x_seq (by kernel_rfl) ?_
 refine x_region (by kernel_rfl) ?_
 refine w_run 1 [] rfl (by kernel_rfl) ?_
 refine w_end (by kernel_rfl) ?_
 refine then_n ?_
 refine go_same ?_
 refine x_join (fun fr H => ∃ (g1242 : Option Bool) (g1243 : Option Bool) (g1244 : Option Bool) (g1245 : Option Bool) (g1246 : Option Bool) (g1247 : Option Bool) (g1248 : Option Bool) (g1249 : Option Bool) (g1250 : Option Bool) (g1251 : Option Bool) (g1252 : Option Bool) (g1253 : Option Bool) (g1254 : Option Bool) (g1255 : Option Bool), fr = [.any, .any, .bool false, .any, .any, .any, .any, .any, .bool false, .any, .any, .any, .any, .any, .any, .any, .any, junkB g1242, junkB g1243, .any, .any, junkB g1244, junkB g1245, junkB g1246, .any, .any, junkB g1247, junkB g1248, junkB g1249, .any, .any, junkB g1250, junkB g1251, .any, junkB g1252, junkB g1253, .any, .any, .any, .any, .any, .any, .any, .any, junkB g1254, junkB g1255] ∧ H = [] ∧ r24_Rise_J4 = some r) (by kernel_rfl) (fun fr H ⟨g1242, g1243, g1244, g1245, g1246, g1247, g1248, g1249, g1250, g1251, g1252, g1253, g1254, g1255, e1, e2, hF⟩ => ?_) (fun hJ4 => ?_)
 ·subst e1 e2
  refine x_seq (by kernel_rfl) ?_
  refine x_region (by kernel_rfl) ?_
  refine w_run 1 [] rfl (by kernel_rfl) ?_
  refine w_end (by kernel_rfl) ?_
  refine then_n ?_
  refine go_same ?_
  refine x_ret (by kernel_rfl) ?_
  have e := Option.some.inj hF
  subst e
  exact fin_end (.inl rfl) (by kernel_rfl) (by kernel_rfl) (Nat.zero_le _) rfl (by kernel_rfl) ⟨rfl, rfl⟩
 ·refine x_seq (by kernel_rfl) ?_
  refine x_region (by kernel_rfl) ?_
  refine w_run 1 [] rfl (by kernel_rfl) ?_
  refine w_end (by kernel_rfl) ?_
  refine then_n ?_
  refine go_same ?_
  refine x_block (by kernel_rfl) ?_
  refine x_loop (fun d fr H => ∃ (x1324 : Int) (g1275 : Option Bool) (g1276 : Option Bool) (g1277 : Option Bool) (g1278 : Option Bool) (g1279 : Option Bool) (g1280 : Option Bool) (g1281 : Option Bool) (g1282 : Option Bool) (g1283 : Option Bool) (g1284 : Option Bool) (g1285 : Option Bool) (g1286 : Option Bool) (g1287 : Option Bool) (g1288 : Option Bool) (g1289 : Option Bool), fr = [sl cHeld a0, .any, .bool false, .int .i64 x1324, .any, .any, .any, .any, junkB g1275, .any, .any, .any, .any, .any, .any, .any, .any, junkB g1276, junkB g1277, .any, .any, junkB g1278, junkB g1279, junkB g1280, .any, .any, junkB g1281, junkB g1282, junkB g1283, .any, .any, junkB g1284, junkB g1285, .any, junkB g1286, junkB g1287, .any, .any, .any, .any, .any, .any, .any, .any, junkB g1288, junkB g1289] ∧ H = [] ∧ loopN (r24_Rise_B1324 a0) d x1324 = some r) (by kernel_rfl) (fun fr H ⟨x1324, g1275, g1276, g1277, g1278, g1279, g1280, g1281, g1282, g1283, g1284, g1285, g1286, g1287, g1288, g1289, e1, e2, hF⟩ => loop_no hF) (fun d1324 fr H ⟨x1324, g1275, g1276, g1277, g1278, g1279, g1280, g1281, g1282, g1283, g1284, g1285, g1286, g1287, g1288, g1289, e1, e2, hF⟩ => ?_) (VS.same2 70368744177650 (by kernel_rfl) (by kernel_rfl)) ⟨0, none, none, none, none, none, none, none, none, none, none, none, none, none, none, none, rfl, rfl, hF⟩
  subst e1 e2
  have hF := loop_in hF
  refine x_seq (by kernel_rfl) ?_
  refine x_seq (by kernel_rfl) ?_
  refine x_region (by kernel_rfl) ?_
  refine w_run 4 [] rfl (by kernel_rfl) ?_
  refine w_end (by kernel_rfl) ?_
  refine then_n ?_
  refine go_same ?_
  refine ite_elim hF (fun hc1 hF => ?_) (fun hc1 hF => ?_)
  ·refine x_set 8 (b := true) (by kernel_rfl) hc1 ?_
   refine x_cond (b0 := true) (by kernel_rfl) (by kernel_rfl) ?_
   refine x_skip (.inl (by kernel_rfl)) ?_
   refine then_n ?_
   refine go_same ?_
   refine x_join (fun fr H => ∃ (g1330 : Option Bool) (g1331 : Option Bool) (g1332 : Option Bool) (g1333 : Option Bool) (g1334 : Option Bool) (g1335 : Option Bool) (g1336 : Option Bool) (g1337 : Option Bool), fr = [sl cHeld a0, .any, .bool false, .int .i64 x1324, .any, .any, .any, .any, .bool true, .any, .any, .any, .any, .any, .any, .any, .any, junkB g1330, .bool false, .any, .any, junkB g1331, junkB g1332, .bool false, .any, .any, junkB g1333, junkB g1334, .bool false, .any, .any, junkB g1335, .bool false, .any, .bool (iGt x1324 0), junkB g1336, .any, .any, .any, .any, .any, .any, .any, .any, junkB g1337, .bool false] ∧ H = [] ∧ r24_Rise_J7 (loopN (r24_Rise_B1324 a0) d1324) x1324 = some r) (by kernel_rfl) (fun fr H ⟨g1330, g1331, g1332, g1333, g1334, g1335, g1336, g1337, e1, e2, hF⟩ => ?_) (fun hJ7 => ?_)
   ·subst e1 e2
    refine x_region (by kernel_rfl) ?_
    refine w_run 3 [] rfl (by kernel_rfl) ?_
    refine w_end (by kernel_rfl) ?_
    refine then_n ?_
    exact x_back (VS.same2 52739843162098 (by kernel_rfl) (by kernel_rfl)) ⟨iAdd .i64 x1324 1, (some true), g1330, (some false), g1331, g1332, (some false), g1333, g1334, (some false), g1335, (some false), (some (iGt x1324 0)), g1336, g1337, (some false), rfl, rfl, hF⟩
   ·refine x_block (by kernel_rfl) ?_
    refine x_seq (by kernel_rfl) ?_
    refine x_region (by kernel_rfl) ?_
    refine w_run 2 [] rfl (by kernel_rfl) ?_
    refine bind_elim hF (fun y1338 hy1338 hF => w_iaddr cHeld (sz := 2) hy1338 (by kernel_rfl) (by decide) len_cHeld ?_)
    refine w_elem cHeld 0 (t := 41) (v := .agg (cHeld y1338)) (sz := 2) (z := 2) hy1338 (by kernel_rfl) (by kernel_rfl) len_cHeld (by decide) (by decide) ?_
    refine w_run 6 [.cells (cHeld y1338)] rfl (by kernel_rfl) ?_
    refine w_end (by kernel_rfl) ?_
    refine then_n ?_
    refine go_same ?_
    refine x_seq (by kernel_rfl) ?_
    refine x_seq (by kernel_rfl) ?_
    refine x_region (by kernel_rfl) ?_
    refine w_run 4 [.cells (cHeld y1338)] rfl (by kernel_rfl) ?_
    refine ite_elim hF (fun hc2 hF => ?_) (fun hc2 hF => ?_)
    ·refine w_set 18 (b := true) (by kernel_rfl) hc2 ?_
     refine w_run 18 [.cells (cHeld y1338)] rfl (by kernel_rfl) ?_
     refine w_end (by kernel_rfl) ?_
     refine then_n ?_
     refine go_same ?_
     refine x_cond (b0 := true) (by kernel_rfl) (by kernel_rfl) ?_
     refine x_seq (by kernel_rfl) ?_
     refine x_region (by kernel_rfl) ?_
     refine w_run 1 [.cells (cHeld y1338)] rfl (by kernel_rfl) ?_
     refine w_end (by kernel_rfl) ?_
     refine then_n ?_
     refine go_same ?_
     refine x_ret (by kernel_rfl) ?_
     refine then_r ?_
     refine block_r ?_
     refine then_r ?_
     refine then_r ?_
     refine block_r ?_
     refine then_r ?_
     have e := Option.some.inj hF
     subst e
     exact fin_end (.inl rfl) (by kernel_rfl) (by kernel_rfl) (Nat.zero_le _) rfl (by kernel_rfl) ⟨rfl, rfl⟩
    ·refine w_set 18 (b := false) (by kernel_rfl) hc2 ?_
     refine w_run 9 [.cells (cHeld y1338)] rfl (by kernel_rfl) ?_
     refine ite_elim hF (fun hc3 hF => ?_) (fun hc3 hF => ?_)
     ·refine w_set 23 (b := true) (by kernel_rfl) hc3 ?_
      refine w_run 18 [.cells (cHeld y1338)] rfl (by kernel_rfl) ?_
      refine w_end (by kernel_rfl) ?_
      refine then_n ?_
      refine go_same ?_
      refine x_cond (b0 := true) (by kernel_rfl) (by kernel_rfl) ?_
      refine x_seq (by kernel_rfl) ?_
      refine x_region (by kernel_rfl) ?_
      refine w_run 1 [.cells (cHeld y1338)] rfl (by kernel_rfl) ?_
      refine w_end (by kernel_rfl) ?_
      refine then_n ?_
      refine go_same ?_
      refine x_ret (by kernel_rfl) ?_
      refine then_r ?_
      refine block_r ?_
      refine then_r ?_
      refine then_r ?_
      refine block_r ?_
      refine then_r ?_
      have e := Option.some.inj hF
      subst e
      exact fin_end (.inl rfl) (by kernel_rfl) (by kernel_rfl) (Nat.zero_le _) rfl (by kernel_rfl) ⟨rfl, rfl⟩
     ·refine w_set 23 (b := false) (by kernel_rfl) hc3 ?_
      refine w_run 14 [.cells (cHeld y1338)] rfl (by kernel_rfl) ?_
      refine ite_elim hF (fun hc4 hF => ?_) (fun hc4 hF => ?_)
      ·refine w_set 28 (b := true) (by kernel_rfl) hc4 ?_
       refine w_run 18 [.cells (cHeld y1338)] rfl (by kernel_rfl) ?_
       refine w_end (by kernel_rfl) ?_
       refine then_n ?_
       refine go_same ?_
       refine x_cond (b0 := true) (by kernel_rfl) (by kernel_rfl) ?_
       refine x_seq (by kernel_rfl) ?_
       refine x_region (by kernel_rfl) ?_
       refine w_run 1 [.cells (cHeld y1338)] rfl (by kernel_rfl) ?_
       refine w_end (by kernel_rfl) ?_
       refine then_n ?_
       refine go_same ?_
       refine x_ret (by kernel_rfl) ?_
       refine then_r ?_
       refine block_r ?_
       refine then_r ?_
       refine then_r ?_
       refine block_r ?_
       refine then_r ?_
       have e := Option.some.inj hF
       subst e
       exact fin_end (.inl rfl) (by kernel_rfl) (by kernel_rfl) (Nat.zero_le _) rfl (by kernel_rfl) ⟨rfl, rfl⟩
      ·refine w_set 28 (b := false) (by kernel_rfl) hc4 ?_
       refine w_run 18 [.cells (cHeld y1338)] rfl (by kernel_rfl) ?_
       refine w_end (by kernel_rfl) ?_
       refine then_n ?_
       refine go_same ?_
       refine ite_elim hF (fun hc5 hF => ?_) (fun hc5 hF => ?_)
       ·refine x_set 32 (b := true) (by kernel_rfl) hc5 ?_
        refine x_cond (b0 := true) (by kernel_rfl) (by kernel_rfl) ?_
        refine x_seq (by kernel_rfl) ?_
        refine x_region (by kernel_rfl) ?_
        refine w_run 1 [.cells (cHeld y1338)] rfl (by kernel_rfl) ?_
        refine w_end (by kernel_rfl) ?_
        refine then_n ?_
        refine go_same ?_
        refine x_ret (by kernel_rfl) ?_
        refine then_r ?_
        refine block_r ?_
        refine then_r ?_
        refine then_r ?_
        refine block_r ?_
        refine then_r ?_
        have e := Option.some.inj hF
        subst e
        exact fin_end (.inl rfl) (by kernel_rfl) (by kernel_rfl) (Nat.zero_le _) rfl (by kernel_rfl) ⟨rfl, rfl⟩
       ·refine x_set 32 (b := false) (by kernel_rfl) hc5 ?_
        refine x_cond (b0 := false) (by kernel_rfl) (by kernel_rfl) ?_
        refine x_skip (.inl (by kernel_rfl)) ?_
        refine then_n ?_
        refine go_same ?_
        refine x_seq (by kernel_rfl) ?_
        refine x_drawn 0 call_ends callMono (by kernel_rfl) (by kernel_rfl) ?_
        refine w_pure 3 rfl (by kernel_rfl) ?_
        refine ite_elim hF (fun hc6 hF => ?_) (fun hc6 hF => ?_)
        ·refine w_set 35 (b := true) (by kernel_rfl) hc6 ?_
         refine w_pure 6 rfl (by kernel_rfl) ?_
         refine bind_elim hF (fun y1342 hy1342 hF => w_iaddr cHeld (sz := 2) hy1342 (by kernel_rfl) (by decide) len_cHeld ?_)
         refine w_pure 8 rfl (by kernel_rfl) ?_
         refine w_elem cHeld 0 (t := 3) (v := .int .i64 y1342.Number) (sz := 2) (z := 1) hy1342 (by kernel_rfl) (by kernel_rfl) len_cHeld (by decide) (by decide) ?_
         refine w_pure 13 rfl (by kernel_rfl) ?_
         refine w_end (by kernel_rfl) ?_
         refine ⟨_, _, VS.refl _ _ _, ?_⟩
         refine then_n ?_
         refine go_same ?_
         refine ite_elim hF (fun hc7 hF => ?_) (fun hc7 hF => ?_)
         ·refine x_set 45 (b := true) (by kernel_rfl) hc7 ?_
          refine x_cond (b0 := true) (by kernel_rfl) (by kernel_rfl) ?_
          refine x_seq (by kernel_rfl) ?_
          refine x_region (by kernel_rfl) ?_
          refine w_run 1 [.cells (cHeld y1338)] rfl (by kernel_rfl) ?_
          refine w_end (by kernel_rfl) ?_
          refine then_n ?_
          refine go_same ?_
          refine x_ret (by kernel_rfl) ?_
          refine block_r ?_
          refine then_r ?_
          refine then_r ?_
          refine block_r ?_
          refine then_r ?_
          have e := Option.some.inj hF
          subst e
          exact fin_end (.inl rfl) (by kernel_rfl) (by kernel_rfl) (Nat.zero_le _) rfl (by kernel_rfl) ⟨rfl, rfl⟩
         ·refine x_set 45 (b := false) (by kernel_rfl) hc7 ?_
          refine x_cond (b0 := false) (by kernel_rfl) (by kernel_rfl) ?_
          refine x_skip (.inl (by kernel_rfl)) ?_
          refine block_n ?_
          refine then_n ?_
          exact x_to hJ7 (VS.sh [] 35162620165874 (by kernel_rfl) (by kernel_rfl) (by kernel_rfl) (tights_at [0] (by kernel_rfl) (by exact ⟨(tight_sl low_cHeld), trivial⟩)) shh_nil) ⟨(some (iLt y1338.Number 0)), (some (iGt y1338.Number 1099511627776)), (some (iGt y1338.Number 1099511627776)), (some (iLt y1338.Size 0)), (some (iLt y1338.Size 0)), (some (iGt y1338.Size 4096)), (some true), (some (iGe y1342.Number y1338.Number)), rfl, rfl, hF⟩
        ·refine w_set 35 (b := false) (by kernel_rfl) hc6 ?_
         refine w_pure 13 rfl (by kernel_rfl) ?_
         refine w_end (by kernel_rfl) ?_
         refine ⟨_, _, VS.refl _ _ _, ?_⟩
         refine then_n ?_
         refine go_same ?_
         refine x_cond (b0 := false) (by kernel_rfl) (by kernel_rfl) ?_
         refine x_skip (.inl (by kernel_rfl)) ?_
         refine block_n ?_
         refine then_n ?_
         exact x_to hJ7 (VS.sh [] 35162620165874 (by kernel_rfl) (by kernel_rfl) (by kernel_rfl) (tights_at [0] (by kernel_rfl) (by exact ⟨(tight_sl low_cHeld), trivial⟩)) shh_nil) ⟨(some (iLt y1338.Number 0)), (some (iGt y1338.Number 1099511627776)), (some (iGt y1338.Number 1099511627776)), (some (iLt y1338.Size 0)), (some (iLt y1338.Size 0)), (some (iGt y1338.Size 4096)), (some false), none, rfl, rfl, hF⟩
  ·refine x_set 8 (b := false) (by kernel_rfl) hc1 ?_
   refine x_cond (b0 := false) (by kernel_rfl) (by kernel_rfl) ?_
   refine x_exit (by kernel_rfl) ?_
   refine then_e ?_
   refine then_e ?_
   refine block_e ?_
   refine then_n ?_
   exact x_to hJ4 (VS.same2 17533719150331 (by kernel_rfl) (by kernel_rfl)) ⟨g1276, g1277, g1278, g1279, g1280, g1281, g1282, g1283, g1284, g1285, g1286, g1287, g1288, g1289, rfl, rfl, hF⟩
def r24_Book_Held_J4 (p2121 : Sl Held) : Option (Sl Held) :=
 some p2121
def r24_Book_Held_J7 (k2257 : ((Sl Held) × Int) → Option (Sl Held)) (x2257 : (Sl Held) × Int) (p2289 : Sl Held) : Option (Sl Held) :=
 k2257 (p2289, iAdd .i64 x2257.2 1)
def r24_Book_Held_B2312 (a0 : Sl Affidavitref24_State) (k2257 : ((Sl Held) × Int) → Option (Sl Held)) (x2257 : (Sl Held) × Int) (k2312 : ((Sl Held) × Int) → Option (Sl Held)) (x2312 : (Sl Held) × Int) : Option (Sl Held) :=
 (idxL a0.l x2257.2).bind fun y2314 => if iLt x2312.2 (y2314.L.l.length : Int) = true then (idxL a0.l x2257.2).bind fun y2318 => (idxL y2318.L.l x2312.2).bind fun y2319 => (r24_put x2312.1 y2319).bind fun y2320 => k2312 (y2320, iAdd .i64 x2312.2 1) else r24_Book_Held_J7 k2257 x2257 x2312.1
def r24_Book_Held_B2257 (a0 : Sl Affidavitref24_State) (k2257 : ((Sl Held) × Int) → Option (Sl Held)) (x2257 : (Sl Held) × Int) : Option (Sl Held) :=
 if iLt x2257.2 (a0.l.length : Int) = true then loopN (r24_Book_Held_B2312 a0 k2257 x2257) FUEL (x2257.1, 0) else r24_Book_Held_J4 x2257.1
def r24_Book_Held (a0 : Sl Affidavitref24_State) (a1 : Sl Held) : Option (Sl Held) :=
 loopN (r24_Book_Held_B2257 a0) FUEL (a1, 0)
theorem r24_Book_Held_ev {a0 : Sl Affidavitref24_State} {a1 : Sl Held} {r : (Sl Held)} (hF : r24_Book_Held a0 a1 = some r) : EvCall Try.prog T G0 40 [.ptr 0 0] [.cells ((cL cAffidavitref24_State) a0 ++ (cL cHeld) a1)] (fun v H' => v = sl cHeld r ∧ H' = [.cells ((cL cAffidavitref24_State) a0 ++ (cL cHeld) a1)]) := by
 refine x_call Try.func40 (by kernel_rfl) (by kernel_rfl) rfl ?_
 refine x_seq (by kernel_rfl) ?_
 refine x_region (by kernel_rfl) ?_
 refine w_run 1 [.cells ((cL cAffidavitref24_State) a0 ++ (cL cHeld) a1)] rfl (by kernel_rfl) ?_
 refine w_end (by kernel_rfl) ?_
 refine then_n ?_
 refine go_same ?_
 refine x_seq (by kernel_rfl) ?_
 refine x_region (by kernel_rfl) ?_
 refine w_run 5 [.cells ((cL cAffidavitref24_State) a0 ++ (cL cHeld) a1)] rfl (by kernel_rfl) ?_
 refine w_end (by kernel_rfl) ?_
 refine then_n ?_
 refine go_same ?_
 refine x_join (fun fr H => ∃ (p2121 : Sl Held) (g2122 : Option Bool), fr = [.any, .any, .any, sl cHeld p2121, .any, .any, .any, .any, .any, .any, .any, .any, .any, .any, .any, .any, .bool false, .any, .any, .any, .any, .any, .any, .any, .any, .any, .any, .any, .any, junkB g2122, .any, .any, .any, .any, .any, .any, .any, .any, .any, .any, .any, .any, .any, .any, .any, .any] ∧ H = [.cells ((cL cAffidavitref24_State) a0 ++ (cL cHeld) a1)] ∧ r24_Book_Held_J4 p2121 = some r) (by kernel_rfl) (fun fr H ⟨p2121, g2122, e1, e2, hF⟩ => ?_) (fun hJ4 => ?_)
 ·subst e1 e2
  refine x_seq (by kernel_rfl) ?_
  refine x_region (by kernel_rfl) ?_
  refine w_run 2 [.cells ((cL cAffidavitref24_State) a0 ++ (cL cHeld) a1)] rfl (by kernel_rfl) ?_
  refine w_end (by kernel_rfl) ?_
  refine then_n ?_
  refine go_same ?_
  refine x_ret (by kernel_rfl) ?_
  have e := Option.some.inj hF
  subst e
  exact fin_sh [0] (.inl rfl) (by kernel_rfl) (by kernel_rfl) (by kernel_rfl) (by kernel_rfl) (tight_sl low_cHeld) (shh (b0 := .cells ((cL cAffidavitref24_State) a0 ++ (cL cHeld) a1)) (by kernel_rfl) (shb_cells (by kernel_rfl) (by kernel_rfl) (tights_app (tights_lows ((low_cL low_cAffidavitref24_State) _)) (tights_lows ((low_cL low_cHeld) _)))) shh_nil) (And.intro rfl rfl)
 ·refine x_seq (by kernel_rfl) ?_
  refine x_region (by kernel_rfl) ?_
  refine w_run 1 [.cells ((cL cAffidavitref24_State) a0 ++ (cL cHeld) a1)] rfl (by kernel_rfl) ?_
  refine w_end (by kernel_rfl) ?_
  refine then_n ?_
  refine go_same ?_
  refine x_block (by kernel_rfl) ?_
  refine x_loop (fun d fr H => ∃ (x2257 : (Sl Held) × Int) (g2188 : Option Bool) (g2189 : Option Bool), fr = [.ptr 0 0, .any, .any, sl cHeld x2257.1, .int .i64 x2257.2, .any, .any, .any, .any, .any, .any, .any, .any, .any, .any, .any, junkB g2188, .any, .any, .any, .any, .any, .any, .any, .any, .any, .any, .any, .any, junkB g2189, .any, .any, .any, .any, .any, .any, .any, .any, .any, .any, .any, .any, .any, .any, .any, .any] ∧ H = [.cells ((cL cAffidavitref24_State) a0 ++ (cL cHeld) a1)] ∧ loopN (r24_Book_Held_B2257 a0) d x2257 = some r) (by kernel_rfl) (fun fr H ⟨x2257, g2188, g2189, e1, e2, hF⟩ => loop_no hF) (fun d2257 fr H ⟨x2257, g2188, g2189, e1, e2, hF⟩ => ?_) (VS.same2 70368744177638 (by kernel_rfl) (by kernel_rfl)) ⟨(a1, 0), none, none, rfl, rfl, hF⟩
  subst e1 e2
  have hF := loop_in hF
  refine x_seq (by kernel_rfl) ?_
  refine x_seq (by kernel_rfl) ?_
  refine x_region (by kernel_rfl) ?_
  refine w_run 7 [.cells ((cL cAffidavitref24_State) a0 ++ (cL cHeld) a1)] rfl (by kernel_rfl) ?_
  refine w_end (by kernel_rfl) ?_
  refine then_n ?_
  refine go_same ?_
  refine ite_elim hF (fun hc1 hF => ?_) (fun hc1 hF => ?_)
  ·refine x_set 16 (b := true) (by kernel_rfl) hc1 ?_
   refine x_cond (b0 := true) (by kernel_rfl) (by kernel_rfl) ?_
   refine x_skip (.inl (by kernel_rfl)) ?_
   refine then_n ?_
   refine go_same ?_
   refine x_join (fun fr H => ∃ (p2289 : Sl Held), fr = [.ptr 0 0, .any, .any, sl cHeld p2289, .int .i64 x2257.2, .any, .any, .any, .any, .any, .any, .any, .any, .any, .any, .any, .bool true, .any, .any, .any, .any, .any, .any, .any, .any, .any, .any, .any, .any, .bool false, .any, .any, .any, .any, .any, .any, .any, .any, .any, .any, .any, .any, .any, .any, .any, .any] ∧ H = [.cells ((cL cAffidavitref24_State) a0 ++ (cL cHeld) a1)] ∧ r24_Book_Held_J7 (loopN (r24_Book_Held_B2257 a0) d2257) x2257 p2289 = some r) (by kernel_rfl) (fun fr H ⟨p2289, e1, e2, hF⟩ => ?_) (fun hJ7 => ?_)
   ·subst e1 e2
    refine x_region (by kernel_rfl) ?_
    refine w_run 3 [.cells ((cL cAffidavitref24_State) a0 ++ (cL cHeld) a1)] rfl (by kernel_rfl) ?_
    refine w_end (by kernel_rfl) ?_
    refine then_n ?_
    exact x_back (VS.same2 70368744177638 (by kernel_rfl) (by kernel_rfl)) ⟨(p2289, iAdd .i64 x2257.2 1), (some true), (some false), rfl, rfl, hF⟩
   ·refine x_block (by kernel_rfl) ?_
    refine x_seq (by kernel_rfl) ?_
    refine x_region (by kernel_rfl) ?_
    refine w_run 1 [.cells ((cL cAffidavitref24_State) a0 ++ (cL cHeld) a1)] rfl (by kernel_rfl) ?_
    refine w_end (by kernel_rfl) ?_
    refine then_n ?_
    refine go_same ?_
    refine x_block (by kernel_rfl) ?_
    refine x_loop (fun d fr H => ∃ (x2312 : (Sl Held) × Int) (g2300 : Option Bool), fr = [.ptr 0 0, .any, .any, sl cHeld x2312.1, .int .i64 x2257.2, .int .i64 x2312.2, .any, .any, .any, .any, .any, .any, .any, .any, .any, .any, .bool true, .any, .any, .any, .any, .any, .any, .any, .any, .any, .any, .any, .any, junkB g2300, .any, .any, .any, .any, .any, .any, .any, .any, .any, .any, .any, .any, .any, .any, .any, .any] ∧ H = [.cells ((cL cAffidavitref24_State) a0 ++ (cL cHeld) a1)] ∧ loopN (r24_Book_Held_B2312 a0 (loopN (r24_Book_Held_B2257 a0) d2257) x2257) d x2312 = some r) (by kernel_rfl) (fun fr H ⟨x2312, g2300, e1, e2, hF⟩ => loop_no hF) (fun d2312 fr H ⟨x2312, g2300, e1, e2, hF⟩ => ?_) (VS.same2 70368207241158 (by kernel_rfl) (by kernel_rfl)) ⟨(x2257.1, 0), g2189, rfl, rfl, hF⟩
    subst e1 e2
    have hF := loop_in hF
    refine x_seq (by kernel_rfl) ?_
    refine x_seq (by kernel_rfl) ?_
    refine x_region (by kernel_rfl) ?_
    refine w_run 6 [.cells ((cL cAffidavitref24_State) a0 ++ (cL cHeld) a1)] rfl (by kernel_rfl) ?_
    refine bind_elim hF (fun y2314 hy2314 hF => w_iaddr cAffidavitref24_State (sz := 2) hy2314 (by kernel_rfl) (by decide) len_cAffidavitref24_State ?_)
    refine w_run 8 [.cells ((cL cAffidavitref24_State) a0 ++ (cL cHeld) a1)] rfl (by kernel_rfl) ?_
    refine w_elem cAffidavitref24_State 1 (t := 27) (v := sl cHeld y2314.L) (sz := 2) (z := 1) hy2314 (by kernel_rfl) (by kernel_rfl) len_cAffidavitref24_State (by decide) (by decide) ?_
    refine w_run 11 [.cells ((cL cAffidavitref24_State) a0 ++ (cL cHeld) a1)] rfl (by kernel_rfl) ?_
    refine w_end (by kernel_rfl) ?_
    refine then_n ?_
    refine go_same ?_
    refine ite_elim hF (fun hc2 hF => ?_) (fun hc2 hF => ?_)
    ·refine x_set 29 (b := true) (by kernel_rfl) hc2 ?_
     refine x_cond (b0 := true) (by kernel_rfl) (by kernel_rfl) ?_
     refine x_skip (.inl (by kernel_rfl)) ?_
     refine then_n ?_
     refine go_same ?_
     refine x_seq (by kernel_rfl) ?_
     refine x_block (by kernel_rfl) ?_
     refine x_region (by kernel_rfl) ?_
     refine w_run 6 [.cells ((cL cAffidavitref24_State) a0 ++ (cL cHeld) a1)] rfl (by kernel_rfl) ?_
     refine bind_elim hF (fun y2318 hy2318 hF => w_iaddr cAffidavitref24_State (sz := 2) hy2318 (by kernel_rfl) (by decide) len_cAffidavitref24_State ?_)
     refine w_run 8 [.cells ((cL cAffidavitref24_State) a0 ++ (cL cHeld) a1)] rfl (by kernel_rfl) ?_
     refine w_elem cAffidavitref24_State 1 (t := 27) (v := sl cHeld y2318.L) (sz := 2) (z := 1) hy2318 (by kernel_rfl) (by kernel_rfl) len_cAffidavitref24_State (by decide) (by decide) ?_
     refine w_run 10 [.cells ((cL cAffidavitref24_State) a0 ++ (cL cHeld) a1)] rfl (by kernel_rfl) ?_
     refine bind_elim hF (fun y2319 hy2319 hF => w_iaddr cHeld (sz := 2) hy2319 (by kernel_rfl) (by decide) len_cHeld ?_)
     refine w_elem cHeld 0 (t := 41) (v := .agg (cHeld y2319)) (sz := 2) (z := 2) hy2319 (by kernel_rfl) (by kernel_rfl) len_cHeld (by decide) (by decide) ?_
     refine bind_elim hF (fun y2320 hy2320 hF => w_pcallW (r24_put_ev hy2320) (by kernel_rfl) (lows_cons (low_sl low_cHeld) (lows_cons (low_agg (low_cHeld _)) rfl)) (low_sl low_cHeld) ?_)
     refine w_run 14 [.cells ((cL cAffidavitref24_State) a0 ++ (cL cHeld) a1)] rfl (by kernel_rfl) ?_
     refine w_end (by kernel_rfl) ?_
     refine block_n ?_
     refine then_n ?_
     refine go_same ?_
     refine x_region (by kernel_rfl) ?_
     refine w_run 3 [.cells ((cL cAffidavitref24_State) a0 ++ (cL cHeld) a1)] rfl (by kernel_rfl) ?_
     refine w_end (by kernel_rfl) ?_
     refine then_n ?_
     exact x_back (VS.same2 70368744112070 (by kernel_rfl) (by kernel_rfl)) ⟨(y2320, iAdd .i64 x2312.2 1), (some true), rfl, rfl, hF⟩
    ·refine x_set 29 (b := false) (by kernel_rfl) hc2 ?_
     refine x_cond (b0 := false) (by kernel_rfl) (by kernel_rfl) ?_
     refine x_exit (by kernel_rfl) ?_
     refine then_e ?_
     refine then_e ?_
     refine block_e ?_
     refine block_n ?_
     refine then_n ?_
     exact x_to hJ7 (VS.same2 70368207241190 (by kernel_rfl) (by kernel_rfl)) ⟨x2312.1, rfl, rfl, hF⟩
  ·refine x_set 16 (b := false) (by kernel_rfl) hc1 ?_
   refine x_cond (b0 := false) (by kernel_rfl) (by kernel_rfl) ?_
   refine x_exit (by kernel_rfl) ?_
   refine then_e ?_
   refine then_e ?_
   refine block_e ?_
   refine then_n ?_
   exact x_to hJ4 (VS.same2 70368207241207 (by kernel_rfl) (by kernel_rfl)) ⟨x2257.1, g2189, rfl, rfl, hF⟩
def r24_Book_Add_J24 (a0 : Int) (a1 : Sl Held) (a2 : Sl Affidavitref24_State) (p1755 : Sl Held) : Option (Int × (Sl Affidavitref24_State)) :=
 if iGt (p1755.l.length : Int) 256 = true then some (11, a2) else (appL 32 (⟨false, true, []⟩ : Sl Affidavitref24_State) a2.l).bind fun y1756 => (appX 16 (⟨false, true, []⟩ : Sl Held) a1.l).bind fun y1757 => (appL 32 y1756 (⟨false, true, [(⟨a0, y1757⟩ : Affidavitref24_State)]⟩ : Sl Affidavitref24_State).l).bind fun y1758 => some (0, y1758.weak)
def r24_Book_Add_B1773 (a0 : Int) (a1 : Sl Held) (a2 : Sl Affidavitref24_State) (k1773 : ((Sl Held) × Int) → Option (Int × (Sl Affidavitref24_State))) (x1773 : (Sl Held) × Int) : Option (Int × (Sl Affidavitref24_State)) :=
 if iLt x1773.2 (a1.l.length : Int) = true then (idxL a1.l x1773.2).bind fun y1776 => (r24_put x1773.1 y1776).bind fun y1777 => k1773 (y1777, iAdd .i64 x1773.2 1) else r24_Book_Add_J24 a0 a1 a2 x1773.1
def r24_Book_Add_J23 (a0 : Int) (a1 : Sl Held) (a2 : Sl Affidavitref24_State) (a3 : Sl Held) : Option (Int × (Sl Affidavitref24_State)) :=
 (r24_Book_Held a2 a3).bind fun y1735 => loopN (r24_Book_Add_B1773 a0 a1 a2) FUEL (y1735, 0)
def r24_Book_Add_J42 (k2154 : Int → Option (Int × (Sl Affidavitref24_State))) (x2154 : Int) : Option (Int × (Sl Affidavitref24_State)) :=
 k2154 (iAdd .i64 x2154 1)
def r24_Book_Add_J45 (k2309 : Int → Option (Int × (Sl Affidavitref24_State))) (x2309 : Int) : Option (Int × (Sl Affidavitref24_State)) :=
 k2309 (iAdd .i64 x2309 1)
def r24_Book_Add_B2309 (a1 : Sl Held) (a2 : Sl Affidavitref24_State) (k2154 : Int → Option (Int × (Sl Affidavitref24_State))) (x2154 : Int) (k2309 : Int → Option (Int × (Sl Affidavitref24_State))) (x2309 : Int) : Option (Int × (Sl Affidavitref24_State)) :=
 if iLt x2309 (a2.l.length : Int) = true then (idxL a2.l x2309).bind fun y2326 => (idxL a1.l x2154).bind fun y2327 => (r24_in y2326.L y2327.Number).bind fun y2328 => if y2328.2 = true then (idxL a1.l x2154).bind fun y2330 => if (y2328.1 != y2330.Size) = true then some (2, a2) else r24_Book_Add_J45 k2309 x2309 else r24_Book_Add_J45 k2309 x2309 else r24_Book_Add_J42 k2154 x2154
def r24_Book_Add_B2154 (a0 : Int) (a1 : Sl Held) (a2 : Sl Affidavitref24_State) (a3 : Sl Held) (k2154 : Int → Option (Int × (Sl Affidavitref24_State))) (x2154 : Int) : Option (Int × (Sl Affidavitref24_State)) :=
 if iLt x2154 (a1.l.length : Int) = true then (idxL a1.l x2154).bind fun y2249 => (r24_in a3 y2249.Number).bind fun y2250 => if y2250.2 = true then some (2, a2) else loopN (r24_Book_Add_B2309 a1 a2 k2154 x2154) FUEL 0 else r24_Book_Add_J23 a0 a1 a2 a3
def r24_Book_Add_J1 (a0 : Int) (a1 : Sl Held) (a2 : Sl Affidavitref24_State) (a3 : Sl Held) : Option (Int × (Sl Affidavitref24_State)) :=
 loopN (r24_Book_Add_B2154 a0 a1 a2 a3) FUEL 0
def r24_Book_Add (a0 : Int) (a1 : Sl Held) (a2 : Sl Affidavitref24_State) (a3 : Sl Held) : Option (Int × (Sl Affidavitref24_State)) :=
 if iLt a0 1 = true then some (2, a2) else if iGt a0 512 = true then some (2, a2) else if iGt (a2.l.length : Int) 0 = true then (idxL a2.l (iSub .i64 (a2.l.length : Int) 1)).bind fun y2340 => if iLe a0 y2340.N = true then some (2, a2) else (r24_Rise a1).bind fun y2341 => if y2341 = true then r24_Book_Add_J1 a0 a1 a2 a3 else some (2, a2) else (r24_Rise a1).bind fun y2342 => if y2342 = true then r24_Book_Add_J1 a0 a1 a2 a3 else some (2, a2)
theorem r24_Book_Add_ev {a0 : Int} {a1 : Sl Held} {a2 : Sl Affidavitref24_State} {a3 : Sl Held} {r : Int × (Sl Affidavitref24_State)} (hF : r24_Book_Add a0 a1 a2 a3 = some r) : EvCall Try.prog T G0 25 [.ptr 0 0, .int .i64 a0, sl cHeld a1] [.cells ((cL cAffidavitref24_State) a2 ++ (cL cHeld) a3)] (fun v H' => v = .int .i64 r.1 ∧ H' = [.cells ((cL cAffidavitref24_State) r.2 ++ (cL cHeld) a3)]) := by
 refine x_call Try.func25 (by kernel_rfl) (by kernel_rfl) rfl ?_
 refine x_seq (by kernel_rfl) ?_
 refine x_region (by kernel_rfl) ?_
 refine w_run 1 [.cells ((cL cAffidavitref24_State) a2 ++ (cL cHeld) a3)] rfl (by kernel_rfl) ?_
 refine w_end (by kernel_rfl) ?_
 refine then_n ?_
 refine go_same ?_
 refine x_join (fun fr H => ∃ (g1166 : Option Bool) (g1167 : Option Bool) (g1168 : Option Bool) (g1169 : Option Bool) (g1170 : Option Bool) (g1171 : Option Bool), fr = [.ptr 0 0, .int .i64 a0, sl cHeld a1, .any, .any, .any, .any, .any, .any, .any, .any, .any, .any, .any, .any, .any, .bool (iLt a0 1), .bool false, .any, .bool (iGt a0 512), .bool (iGt a0 512), .bool false, .any, .any, .any, .any, .any, .bool (iGt (a2.l.length : Int) 0), junkB g1166, .any, .any, .any, .any, .any, .any, .any, .any, .any, .any, .any, .any, .any, .any, junkB g1167, junkB g1168, junkB g1169, .bool false, .any, junkB g1170, junkB g1171, .bool false, .any, .any, .any, .any, .any, .any, .any, .any, .any, .any, .any, .any, .any, .any, .any, .any, .any, .any, .any, .any, .any, .any, .any, .any, .any, .any, .any, .any, .any, .any, .any, .any, .any, .any, .any, .any, .any, .any, .any, .any, .any, .any, .any, .any, .any, .any, .any, .any, .any, .any, .any, .any, .any, .any, .any, .any, .any, .any, .any, .any, .any, .any, .any, .any, .any, .any, .any, .any, .any, .any, .any, .any, .any, .any, .any, .any, .any, .any, .any, .any, .any, .any, .any, .any, .any, .any, .any, .any, .any] ∧ H = [.cells ((cL cAffidavitref24_State) a2 ++ (cL cHeld) a3)] ∧ r24_Book_Add_J1 a0 a1 a2 a3 = some r) (by kernel_rfl) (fun fr H ⟨g1166, g1167, g1168, g1169, g1170, g1171, e1, e2, hF⟩ => ?_) (fun hJ1 => ?_)
 ·subst e1 e2
  refine x_join (fun fr H => ∃ (g1725 : Option Bool) (g1726 : Option Bool) (g1727 : Option Bool) (g1728 : Option Bool) (g1729 : Option Bool) (g1730 : Option Bool) (g1731 : Option Bool) (g1732 : Option Bool) (g1733 : Option Bool) (g1734 : Option Bool), fr = [.ptr 0 0, .int .i64 a0, sl cHeld a1, .any, .any, .any, .any, .any, .any, junkB g1725, .any, .any, junkB g1726, .any, .any, .any, .bool (iLt a0 1), .bool false, .any, .bool (iGt a0 512), .bool (iGt a0 512), .bool false, .any, .any, .any, .any, .any, .bool (iGt (a2.l.length : Int) 0), junkB g1166, .any, .any, .any, .any, .any, .any, .any, .any, .any, .any, .any, .any, .any, .any, junkB g1167, junkB g1168, junkB g1169, .bool false, .any, junkB g1170, junkB g1171, .bool false, .any, .any, .any, .bool false, .any, .any, .any, .any, .any, .any, .any, .any, .any, .any, .any, .any, .any, .any, junkB g1727, junkB g1728, .any, .any, .any, .any, .any, .any, junkB g1729, .any, .any, .any, .any, .any, .any, .any, .any, .any, .any, .any, .any, .any, .any, .any, .any, .any, .any, junkB g1730, junkB g1731, junkB g1732, .any, .any, .any, .any, .any, .any, junkB g1733, junkB g1734, .any, .any, .any, .any, .any, .any, .any, .any, .any, .any, .any, .any, .any, .any, .any, .any, .any, .any, .any, .any, .any, .any, .any, .any, .any, .any, .any, .any, .any, .any, .any, .any, .any] ∧ H = [.cells ((cL cAffidavitref24_State) a2 ++ (cL cHeld) a3)] ∧ r24_Book_Add_J23 a0 a1 a2 a3 = some r) (by kernel_rfl) (fun fr H ⟨g1725, g1726, g1727, g1728, g1729, g1730, g1731, g1732, g1733, g1734, e1, e2, hF⟩ => ?_) (fun hJ23 => ?_)
  ·subst e1 e2
   refine x_seq (by kernel_rfl) ?_
   refine x_region (by kernel_rfl) ?_
   refine w_run 1 [.cells ((cL cAffidavitref24_State) a2 ++ (cL cHeld) a3)] rfl (by kernel_rfl) ?_
   refine bind_elim hF (fun y1735 hy1735 hF => w_ocall [0] [0] (ga := [.ptr 0 0]) (as0 := [.ptr 0 0]) (h0 := [.cells ((cL cAffidavitref24_State) a2 ++ (cL cHeld) a3)]) (h1 := [.cells ((cL cAffidavitref24_State) a2 ++ (cL cHeld) a3)]) (h2 := [.cells ((cL cAffidavitref24_State) a2 ++ (cL cHeld) a3)]) (H2 := [.cells ((cL cAffidavitref24_State) a2 ++ (cL cHeld) a3)]) (v0 := sl cHeld y1735) (v := sl cHeld y1735) (r24_Book_Held_ev hy1735) (by kernel_rfl) (by kernel_rfl) (by kernel_rfl) (by kernel_rfl) (pl (b' := .cells ((cL cAffidavitref24_State) a2 ++ (cL cHeld) a3)) (by kernel_rfl) (sb_cells (by kernel_rfl) (by kernel_rfl) (tights_app (tights_lows ((low_cL low_cAffidavitref24_State) _)) (tights_lows ((low_cL low_cHeld) _)))) pl_nil) (by kernel_rfl) (tight_sl low_cHeld) (sbs (sb_cells (by kernel_rfl) (by kernel_rfl) (tights_app (tights_lows ((low_cL low_cAffidavitref24_State) _)) (tights_lows ((low_cL low_cHeld) _)))) sbs_nil) (by kernel_rfl) (fun _ => rfl) ?_)
   refine w_run 3 [.cells ((cL cAffidavitref24_State) a2 ++ (cL cHeld) a3)] rfl (by kernel_rfl) ?_
   refine w_end (by kernel_rfl) ?_
   refine then_n ?_
   refine go_same ?_
   refine x_join (fun fr H => ∃ (p1755 : Sl Held), fr = [.ptr 0 0, .int .i64 a0, sl cHeld a1, .any, .any, .any, .any, .any, .any, junkB g1725, .any, .any, junkB g1726, sl cHeld p1755, .any, .any, .bool (iLt a0 1), .bool false, .any, .bool (iGt a0 512), .bool (iGt a0 512), .bool false, .any, .any, .any, .any, .any, .bool (iGt (a2.l.length : Int) 0), junkB g1166, .any, .any, .any, .any, .any, .any, .any, .any, .any, .any, .any, .any, .any, .any, junkB g1167, junkB g1168, junkB g1169, .bool false, .any, junkB g1170, junkB g1171, .bool false, .any, .any, .any, .bool false, .any, .any, .any, .any, .any, .any, .any, .any, .any, .any, .any, .any, .any, .any, junkB g1727, junkB g1728, .any, .any, .any, .any, .any, .any, junkB g1729, .any, .any, .any, .any, .any, .any, .any, .any, .any, .any, .any, .any, .any, .any, .any, .any, .any, .any, junkB g1730, junkB g1731, junkB g1732, .any, .any, .any, .any, .any, .any, junkB g1733, junkB g1734, .any, .any, .any, .any, .any, .bool false, .any, .any, .any, .any, .any, .any, .any, .any, .any, .any, .any, .any, .any, .any, .any, .any, .any, .any, .any, .any, .any, .any, .any, .any, .any, .any, .any] ∧ H = [.cells ((cL cAffidavitref24_State) a2 ++ (cL cHeld) a3)] ∧ r24_Book_Add_J24 a0 a1 a2 p1755 = some r) (by kernel_rfl) (fun fr H ⟨p1755, e1, e2, hF⟩ => ?_) (fun hJ24 => ?_)
   ·subst e1 e2
    refine x_seq (by kernel_rfl) ?_
    refine x_seq (by kernel_rfl) ?_
    refine x_region (by kernel_rfl) ?_
    refine w_run 3 [.cells ((cL cAffidavitref24_State) a2 ++ (cL cHeld) a3)] rfl (by kernel_rfl) ?_
    refine w_end (by kernel_rfl) ?_
    refine then_n ?_
    refine go_same ?_
    refine ite_elim hF (fun hc1 hF => ?_) (fun hc1 hF => ?_)
    ·refine x_set 123 (b := true) (by kernel_rfl) hc1 ?_
     refine x_cond (b0 := true) (by kernel_rfl) (by kernel_rfl) ?_
     refine x_seq (by kernel_rfl) ?_
     refine x_region (by kernel_rfl) ?_
     refine w_run 1 [.cells ((cL cAffidavitref24_State) a2 ++ (cL cHeld) a3)] rfl (by kernel_rfl) ?_
     refine w_end (by kernel_rfl) ?_
     refine then_n ?_
     refine go_same ?_
     refine x_ret (by kernel_rfl) ?_
     refine then_r ?_
     have e := Option.some.inj hF
     subst e
     exact fin_sh [0] (.inl rfl) (by kernel_rfl) (by kernel_rfl) (by kernel_rfl) (by kernel_rfl) rfl (shh (b0 := .cells ((cL cAffidavitref24_State) a2 ++ (cL cHeld) a3)) (by kernel_rfl) (shb_cells (by kernel_rfl) (by kernel_rfl) (tights_app (tights_lows ((low_cL low_cAffidavitref24_State) _)) (tights_lows ((low_cL low_cHeld) _)))) shh_nil) (And.intro rfl rfl)
    ·refine x_set 123 (b := false) (by kernel_rfl) hc1 ?_
     refine x_cond (b0 := false) (by kernel_rfl) (by kernel_rfl) ?_
     refine x_skip (.inl (by kernel_rfl)) ?_
     refine then_n ?_
     refine go_same ?_
     refine x_seq (by kernel_rfl) ?_
     refine x_region (by kernel_rfl) ?_
     refine w_run 1 [.cells ((cL cAffidavitref24_State) a2 ++ (cL cHeld) a3)] rfl (by kernel_rfl) ?_
     refine w_frz (v := sl cAffidavitref24_State (⟨false, true, []⟩ : Sl Affidavitref24_State)) (by kernel_rfl) ?_
     refine w_run 6 [.cells ((cL cAffidavitref24_State) a2 ++ (cL cHeld) a3)] rfl (by kernel_rfl) ?_
     refine bind_elim hF (fun y1756 hy1756 hF => w_app0 cAffidavitref24_State (e := 39) (sz := 2) (x := (⟨false, true, []⟩ : Sl Affidavitref24_State)) (ys := a2.l) hy1756 (by kernel_rfl) (by kernel_rfl) (by decide) len_cAffidavitref24_State (gives_sl (x := a2) (by kernel_rfl) len_cAffidavitref24_State) ?_)
     refine w_run 8 [.cells ((cL cAffidavitref24_State) a2 ++ (cL cHeld) a3), .room 1 (!(a2.l.length == 0))] rfl (by kernel_rfl) ?_
     refine w_frz (v := sl cHeld (⟨false, true, []⟩ : Sl Held)) (by kernel_rfl) ?_
     refine w_run 10 [.cells ((cL cAffidavitref24_State) a2 ++ (cL cHeld) a3), .room 1 (!(a2.l.length == 0))] rfl (by kernel_rfl) ?_
     refine bind_elim hF (fun y1757 hy1757 hF => w_appL cHeld (e := 41) (sz := 2) (x := (⟨false, true, []⟩ : Sl Held)) (ys := a1.l) hy1757 (by kernel_rfl) (by kernel_rfl) (by decide) len_cHeld (gives_sl (x := a1) (by kernel_rfl) len_cHeld) ?_)
     refine w_run 12 [.cells ((cL cAffidavitref24_State) a2 ++ (cL cHeld) a3), .room 1 (!(a2.l.length == 0))] rfl (by kernel_rfl) ?_
     refine w_frz (v := sl cAffidavitref24_State (⟨false, true, [(⟨a0, y1757⟩ : Affidavitref24_State)]⟩ : Sl Affidavitref24_State)) (by kernel_rfl) ?_
     refine bind_elim hF (fun y1758 hy1758 hF => w_app cAffidavitref24_State (e := 39) (sz := 2) (l0 := 1) (real := (!(a2.l.length == 0))) (ver := 1) (x := y1756) (ys := (⟨false, true, [(⟨a0, y1757⟩ : Affidavitref24_State)]⟩ : Sl Affidavitref24_State).l) hy1758 (by kernel_rfl) (by decide) (gives_sl (x := (⟨false, true, [(⟨a0, y1757⟩ : Affidavitref24_State)]⟩ : Sl Affidavitref24_State)) (by kernel_rfl) len_cAffidavitref24_State) (room_at (by kernel_rfl)) ?_)
     refine w_run 17 [.cells ([ownv cAffidavitref24_State 1 (1 + 1) 2 y1758] ++ (cL cHeld) a3), .room (1 + 1) ((!(a2.l.length == 0)) || !((⟨false, true, [(⟨a0, y1757⟩ : Affidavitref24_State)]⟩ : Sl Affidavitref24_State).l.length == 0))] rfl (by kernel_rfl) ?_
     refine w_end (by kernel_rfl) ?_
     refine then_n ?_
     refine go_same ?_
     refine x_seq (by kernel_rfl) ?_
     refine x_region (by kernel_rfl) ?_
     refine w_run 1 [.cells ([ownv cAffidavitref24_State 1 (1 + 1) 2 y1758] ++ (cL cHeld) a3), .room (1 + 1) ((!(a2.l.length == 0)) || !((⟨false, true, [(⟨a0, y1757⟩ : Affidavitref24_State)]⟩ : Sl Affidavitref24_State).l.length == 0))] rfl (by kernel_rfl) ?_
     refine w_end (by kernel_rfl) ?_
     refine then_n ?_
     refine go_same ?_
     refine x_ret (by kernel_rfl) ?_
     have e := Option.some.inj hF
     subst e
     exact fin_sh [0] (.inl rfl) (by kernel_rfl) (by kernel_rfl) (by kernel_rfl) (by kernel_rfl) rfl (shh (b0 := .cells ([ownv cAffidavitref24_State 1 (1 + 1) 2 y1758] ++ (cL cHeld) a3)) (by kernel_rfl) (shb_cellsW (by kernel_rfl) (by kernel_rfl) (by kernel_rfl) (tights_app (tights_lows ((low_cL low_cAffidavitref24_State) _)) (tights_lows ((low_cL low_cHeld) _)))) shh_nil) (And.intro rfl rfl)
   ·refine x_seq (by kernel_rfl) ?_
    refine x_region (by kernel_rfl) ?_
    refine w_run 1 [.cells ((cL cAffidavitref24_State) a2 ++ (cL cHeld) a3)] rfl (by kernel_rfl) ?_
    refine w_end (by kernel_rfl) ?_
    refine then_n ?_
    refine go_same ?_
    refine x_block (by kernel_rfl) ?_
    refine x_loop (fun d fr H => ∃ (x1773 : (Sl Held) × Int) (g1765 : Option Bool), fr = [.ptr 0 0, .int .i64 a0, sl cHeld a1, .any, .any, .any, .any, .any, .any, junkB g1725, .any, .any, junkB g1726, sl cHeld x1773.1, .int .i64 x1773.2, .any, .bool (iLt a0 1), .bool false, .any, .bool (iGt a0 512), .bool (iGt a0 512), .bool false, .any, .any, .any, .any, .any, .bool (iGt (a2.l.length : Int) 0), junkB g1166, .any, .any, .any, .any, .any, .any, .any, .any, .any, .any, .any, .any, .any, .any, junkB g1167, junkB g1168, junkB g1169, .bool false, .any, junkB g1170, junkB g1171, .bool false, .any, .any, .any, .bool false, .any, .any, .any, .any, .any, .any, .any, .any, .any, .any, .any, .any, .any, .any, junkB g1727, junkB g1728, .any, .any, .any, .any, .any, .any, junkB g1729, .any, .any, .any, .any, .any, .any, .any, .any, .any, .any, .any, .any, .any, .any, .any, .any, .any, .any, junkB g1730, junkB g1731, junkB g1732, .any, .any, .any, .any, .any, .any, junkB g1733, junkB g1734, .any, .any, .any, .any, .any, junkB g1765, .any, .any, .any, .any, .any, .any, .any, .any, .any, .any, .any, .any, .any, .any, .any, .any, .any, .any, .any, .any, .any, .any, .any, .any, .any, .any, .any] ∧ H = [.cells ((cL cAffidavitref24_State) a2 ++ (cL cHeld) a3)] ∧ loopN (r24_Book_Add_B1773 a0 a1 a2) d x1773 = some r) (by kernel_rfl) (fun fr H ⟨x1773, g1765, e1, e2, hF⟩ => loop_no hF) (fun d1773 fr H ⟨x1773, g1765, e1, e2, hF⟩ => ?_) (VS.same2 1393796574785914891433585884134114366623224 (by kernel_rfl) (by kernel_rfl)) ⟨(y1735, 0), none, rfl, rfl, hF⟩
    subst e1 e2
    have hF := loop_in hF
    refine x_seq (by kernel_rfl) ?_
    refine x_seq (by kernel_rfl) ?_
    refine x_region (by kernel_rfl) ?_
    refine w_run 4 [.cells ((cL cAffidavitref24_State) a2 ++ (cL cHeld) a3)] rfl (by kernel_rfl) ?_
    refine w_end (by kernel_rfl) ?_
    refine then_n ?_
    refine go_same ?_
    refine ite_elim hF (fun hc2 hF => ?_) (fun hc2 hF => ?_)
    ·refine x_set 112 (b := true) (by kernel_rfl) hc2 ?_
     refine x_cond (b0 := true) (by kernel_rfl) (by kernel_rfl) ?_
     refine x_skip (.inl (by kernel_rfl)) ?_
     refine then_n ?_
     refine go_same ?_
     refine x_seq (by kernel_rfl) ?_
     refine x_block (by kernel_rfl) ?_
     refine x_region (by kernel_rfl) ?_
     refine w_run 3 [.cells ((cL cAffidavitref24_State) a2 ++ (cL cHeld) a3)] rfl (by kernel_rfl) ?_
     refine bind_elim hF (fun y1776 hy1776 hF => w_iaddr cHeld (sz := 2) hy1776 (by kernel_rfl) (by decide) len_cHeld ?_)
     refine w_elem cHeld 0 (t := 41) (v := .agg (cHeld y1776)) (sz := 2) (z := 2) hy1776 (by kernel_rfl) (by kernel_rfl) len_cHeld (by decide) (by decide) ?_
     refine bind_elim hF (fun y1777 hy1777 hF => w_pcallW (r24_put_ev hy1777) (by kernel_rfl) (lows_cons (low_sl low_cHeld) (lows_cons (low_agg (low_cHeld _)) rfl)) (low_sl low_cHeld) ?_)
     refine w_run 7 [.cells ((cL cAffidavitref24_State) a2 ++ (cL cHeld) a3)] rfl (by kernel_rfl) ?_
     refine w_end (by kernel_rfl) ?_
     refine block_n ?_
     refine then_n ?_
     refine go_same ?_
     refine x_region (by kernel_rfl) ?_
     refine w_run 3 [.cells ((cL cAffidavitref24_State) a2 ++ (cL cHeld) a3)] rfl (by kernel_rfl) ?_
     refine w_end (by kernel_rfl) ?_
     refine then_n ?_
     exact x_back (VS.same2 1393796574785914891433585884134114366623224 (by kernel_rfl) (by kernel_rfl)) ⟨(y1777, iAdd .i64 x1773.2 1), (some true), rfl, rfl, hF⟩
    ·refine x_set 112 (b := false) (by kernel_rfl) hc2 ?_
     refine x_cond (b0 := false) (by kernel_rfl) (by kernel_rfl) ?_
     refine x_exit (by kernel_rfl) ?_
     refine then_e ?_
     refine then_e ?_
     refine block_e ?_
     refine then_n ?_
     exact x_to hJ24 (VS.same2 1393796569593618032898758255603618037419512 (by kernel_rfl) (by kernel_rfl)) ⟨x1773.1, rfl, rfl, hF⟩
  ·refine x_seq (by kernel_rfl) ?_
   refine x_region (by kernel_rfl) ?_
   refine w_run 1 [.cells ((cL cAffidavitref24_State) a2 ++ (cL cHeld) a3)] rfl (by kernel_rfl) ?_
   refine w_end (by kernel_rfl) ?_
   refine then_n ?_
   refine go_same ?_
   refine x_block (by kernel_rfl) ?_
   refine x_loop (fun d fr H => ∃ (x2154 : Int) (g1955 : Option Bool) (g1956 : Option Bool) (g1957 : Option Bool) (g1958 : Option Bool) (g1959 : Option Bool) (g1960 : Option Bool) (g1961 : Option Bool) (g1962 : Option Bool) (g1963 : Option Bool) (g1964 : Option Bool) (g1965 : Option Bool), fr = [.ptr 0 0, .int .i64 a0, sl cHeld a1, .any, .any, .any, .any, .int .i64 x2154, .any, junkB g1955, .any, .any, junkB g1956, .any, .any, .any, .bool (iLt a0 1), .bool false, .any, .bool (iGt a0 512), .bool (iGt a0 512), .bool false, .any, .any, .any, .any, .any, .bool (iGt (a2.l.length : Int) 0), junkB g1166, .any, .any, .any, .any, .any, .any, .any, .any, .any, .any, .any, .any, .any, .any, junkB g1167, junkB g1168, junkB g1169, .bool false, .any, junkB g1170, junkB g1171, .bool false, .any, .any, .any, junkB g1957, .any, .any, .any, .any, .any, .any, .any, .any, .any, .any, .any, .any, .any, .any, junkB g1958, junkB g1959, .any, .any, .any, .any, .any, .any, junkB g1960, .any, .any, .any, .any, .any, .any, .any, .any, .any, .any, .any, .any, .any, .any, .any, .any, .any, .any, junkB g1961, junkB g1962, junkB g1963, .any, .any, .any, .any, .any, .any, junkB g1964, junkB g1965, .any, .any, .any, .any, .any, .any, .any, .any, .any, .any, .any, .any, .any, .any, .any, .any, .any, .any, .any, .any, .any, .any, .any, .any, .any, .any, .any, .any, .any, .any, .any, .any, .any] ∧ H = [.cells ((cL cAffidavitref24_State) a2 ++ (cL cHeld) a3)] ∧ loopN (r24_Book_Add_B2154 a0 a1 a2 a3) d x2154 = some r) (by kernel_rfl) (fun fr H ⟨x2154, g1955, g1956, g1957, g1958, g1959, g1960, g1961, g1962, g1963, g1964, g1965, e1, e2, hF⟩ => loop_no hF) (fun d2154 fr H ⟨x2154, g1955, g1956, g1957, g1958, g1959, g1960, g1961, g1962, g1963, g1964, g1965, e1, e2, hF⟩ => ?_) (VS.same2 1393796574908163946345982389938255955296120 (by kernel_rfl) (by kernel_rfl)) ⟨0, none, none, none, none, none, none, none, none, none, none, none, rfl, rfl, hF⟩
   subst e1 e2
   have hF := loop_in hF
   refine x_seq (by kernel_rfl) ?_
   refine x_seq (by kernel_rfl) ?_
   refine x_region (by kernel_rfl) ?_
   refine w_run 4 [.cells ((cL cAffidavitref24_State) a2 ++ (cL cHeld) a3)] rfl (by kernel_rfl) ?_
   refine w_end (by kernel_rfl) ?_
   refine then_n ?_
   refine go_same ?_
   refine ite_elim hF (fun hc3 hF => ?_) (fun hc3 hF => ?_)
   ·refine x_set 54 (b := true) (by kernel_rfl) hc3 ?_
    refine x_cond (b0 := true) (by kernel_rfl) (by kernel_rfl) ?_
    refine x_skip (.inl (by kernel_rfl)) ?_
    refine then_n ?_
    refine go_same ?_
    refine x_join (fun fr H => ∃ (g2239 : Option Bool) (g2240 : Option Bool) (g2241 : Option Bool) (g2242 : Option Bool) (g2243 : Option Bool) (g2244 : Option Bool) (g2245 : Option Bool) (g2246 : Option Bool), fr = [.ptr 0 0, .int .i64 a0, sl cHeld a1, .any, .any, .any, .any, .int .i64 x2154, .any, junkB g2239, .any, .any, junkB g2240, .any, .any, .any, .bool (iLt a0 1), .bool false, .any, .bool (iGt a0 512), .bool (iGt a0 512), .bool false, .any, .any, .any, .any, .any, .bool (iGt (a2.l.length : Int) 0), junkB g1166, .any, .any, .any, .any, .any, .any, .any, .any, .any, .any, .any, .any, .any, .any, junkB g1167, junkB g1168, junkB g1169, .bool false, .any, junkB g1170, junkB g1171, .bool false, .any, .any, .any, .bool true, .any, .any, .any, .any, .any, .any, .any, .any, .any, .any, .any, .any, .any, .any, junkB g2241, .bool false, .any, .any, .any, .any, .any, .any, .bool false, .any, .any, .any, .any, .any, .any, .any, .any, .any, .any, .any, .any, .any, .any, .any, .any, .any, .any, junkB g2242, junkB g2243, junkB g2244, .any, .any, .any, .any, .any, .any, junkB g2245, junkB g2246, .any, .any, .any, .any, .any, .any, .any, .any, .any, .any, .any, .any, .any, .any, .any, .any, .any, .any, .any, .any, .any, .any, .any, .any, .any, .any, .any, .any, .any, .any, .any, .any, .any] ∧ H = [.cells ((cL cAffidavitref24_State) a2 ++ (cL cHeld) a3)] ∧ r24_Book_Add_J42 (loopN (r24_Book_Add_B2154 a0 a1 a2 a3) d2154) x2154 = some r) (by kernel_rfl) (fun fr H ⟨g2239, g2240, g2241, g2242, g2243, g2244, g2245, g2246, e1, e2, hF⟩ => ?_) (fun hJ42 => ?_)
    ·subst e1 e2
     refine x_region (by kernel_rfl) ?_
     refine w_run 3 [.cells ((cL cAffidavitref24_State) a2 ++ (cL cHeld) a3)] rfl (by kernel_rfl) ?_
     refine w_end (by kernel_rfl) ?_
     refine then_n ?_
     exact x_back (VS.same2 1393796574785914891585882221221058934271352 (by kernel_rfl) (by kernel_rfl)) ⟨iAdd .i64 x2154 1, g2239, g2240, (some true), g2241, (some false), (some false), g2242, g2243, g2244, g2245, g2246, rfl, rfl, hF⟩
    ·refine x_block (by kernel_rfl) ?_
     refine x_seq (by kernel_rfl) ?_
     refine x_drawn 78149237124310777980059870029873665 call_ends callMono (by kernel_rfl) (by kernel_rfl) ?_
     refine w_pure 6 rfl (by kernel_rfl) ?_
     refine bind_elim hF (fun y2249 hy2249 hF => w_iaddr cHeld (sz := 2) hy2249 (by kernel_rfl) (by decide) len_cHeld ?_)
     refine w_pure 8 rfl (by kernel_rfl) ?_
     refine w_elem cHeld 0 (t := 3) (v := .int .i64 y2249.Number) (sz := 2) (z := 1) hy2249 (by kernel_rfl) (by kernel_rfl) len_cHeld (by decide) (by decide) ?_
     refine bind_elim hF (fun y2250 hy2250 hF => w_pcallW (r24_in_ev hy2250) (by kernel_rfl) (lows_cons (low_sl low_cHeld) (lows_cons rfl rfl)) (low_tup (lows_cons rfl (lows_cons rfl rfl))) ?_)
     refine w_pure 15 rfl (by kernel_rfl) ?_
     refine w_end (by kernel_rfl) ?_
     refine ⟨_, _, VS.refl _ _ _, ?_⟩
     refine then_n ?_
     refine go_same ?_
     refine x_seq (by kernel_rfl) ?_
     refine x_seq (by kernel_rfl) ?_
     refine x_region (by kernel_rfl) ?_
     refine w_run 1 [.cells ((cL cAffidavitref24_State) a2 ++ (cL cHeld) a3)] rfl (by kernel_rfl) ?_
     refine w_end (by kernel_rfl) ?_
     refine then_n ?_
     refine go_same ?_
     refine ite_elim hF (fun hc4 hF => ?_) (fun hc4 hF => ?_)
     ·refine x_set 70 (b := true) (by kernel_rfl) hc4 ?_
      refine x_cond (b0 := true) (by kernel_rfl) (by kernel_rfl) ?_
      refine x_seq (by kernel_rfl) ?_
      refine x_region (by kernel_rfl) ?_
      refine w_run 1 [.cells ((cL cAffidavitref24_State) a2 ++ (cL cHeld) a3)] rfl (by kernel_rfl) ?_
      refine w_end (by kernel_rfl) ?_
      refine then_n ?_
      refine go_same ?_
      refine x_ret (by kernel_rfl) ?_
      refine then_r ?_
      refine block_r ?_
      refine then_r ?_
      refine then_r ?_
      refine block_r ?_
      refine then_r ?_
      have e := Option.some.inj hF
      subst e
      exact fin_sh [0] (.inl rfl) (by kernel_rfl) (by kernel_rfl) (by kernel_rfl) (by kernel_rfl) rfl (shh (b0 := .cells ((cL cAffidavitref24_State) a2 ++ (cL cHeld) a3)) (by kernel_rfl) (shb_cells (by kernel_rfl) (by kernel_rfl) (tights_app (tights_lows ((low_cL low_cAffidavitref24_State) _)) (tights_lows ((low_cL low_cHeld) _)))) shh_nil) (And.intro rfl rfl)
     ·refine x_set 70 (b := false) (by kernel_rfl) hc4 ?_
      refine x_cond (b0 := false) (by kernel_rfl) (by kernel_rfl) ?_
      refine x_skip (.inl (by kernel_rfl)) ?_
      refine then_n ?_
      refine go_same ?_
      refine x_seq (by kernel_rfl) ?_
      refine x_region (by kernel_rfl) ?_
      refine w_run 1 [.cells ((cL cAffidavitref24_State) a2 ++ (cL cHeld) a3)] rfl (by kernel_rfl) ?_
      refine w_end (by kernel_rfl) ?_
      refine then_n ?_
      refine go_same ?_
      refine x_block (by kernel_rfl) ?_
      refine x_loop (fun d fr H => ∃ (x2309 : Int) (g2273 : Option Bool) (g2274 : Option Bool) (g2275 : Option Bool) (g2276 : Option Bool) (g2277 : Option Bool) (g2278 : Option Bool) (g2279 : Option Bool), fr = [.ptr 0 0, .int .i64 a0, sl cHeld a1, .any, .any, .any, .any, .int .i64 x2154, .any, .bool y2250.2, .int .i64 x2309, .any, junkB g2273, .any, .any, .any, .bool (iLt a0 1), .bool false, .any, .bool (iGt a0 512), .bool (iGt a0 512), .bool false, .any, .any, .any, .any, .any, .bool (iGt (a2.l.length : Int) 0), junkB g1166, .any, .any, .any, .any, .any, .any, .any, .any, .any, .any, .any, .any, .any, .any, junkB g1167, junkB g1168, junkB g1169, .bool false, .any, junkB g1170, junkB g1171, .bool false, .any, .any, .any, .bool true, .any, .any, .any, .any, .any, .any, .any, .any, .any, .any, .any, .any, .any, .any, .bool y2250.2, .bool false, .any, .any, .any, .any, .any, .any, junkB g2274, .any, .any, .any, .any, .any, .any, .any, .any, .any, .any, .any, .any, .any, .any, .any, .any, .any, .any, junkB g2275, junkB g2276, junkB g2277, .any, .any, .any, .any, .any, .any, junkB g2278, junkB g2279, .any, .any, .any, .any, .any, .any, .any, .any, .any, .any, .any, .any, .any, .any, .any, .any, .any, .any, .any, .any, .any, .any, .any, .any, .any, .any, .any, .any, .any, .any, .any, .any, .any] ∧ H = [.cells ((cL cAffidavitref24_State) a2 ++ (cL cHeld) a3)] ∧ loopN (r24_Book_Add_B2309 a1 a2 (loopN (r24_Book_Add_B2154 a0 a1 a2 a3) d2154) x2154) d x2309 = some r) (by kernel_rfl) (fun fr H ⟨x2309, g2273, g2274, g2275, g2276, g2277, g2278, g2279, e1, e2, hF⟩ => loop_no hF) (fun d2309 fr H ⟨x2309, g2273, g2274, g2275, g2276, g2277, g2278, g2279, e1, e2, hF⟩ => ?_) (VS.same2 1393796574785914891433585884134114366646648 (by kernel_rfl) (by kernel_rfl)) ⟨0, g1956, g1960, g1961, g1962, g1963, g1964, g1965, rfl, rfl, hF⟩
      subst e1 e2
      have hF := loop_in hF
      refine x_seq (by kernel_rfl) ?_
      refine x_seq (by kernel_rfl) ?_
      refine x_region (by kernel_rfl) ?_
      refine w_run 7 [.cells ((cL cAffidavitref24_State) a2 ++ (cL cHeld) a3)] rfl (by kernel_rfl) ?_
      refine w_end (by kernel_rfl) ?_
      refine then_n ?_
      refine go_same ?_
      refine ite_elim hF (fun hc5 hF => ?_) (fun hc5 hF => ?_)
      ·refine x_set 77 (b := true) (by kernel_rfl) hc5 ?_
       refine x_cond (b0 := true) (by kernel_rfl) (by kernel_rfl) ?_
       refine x_skip (.inl (by kernel_rfl)) ?_
       refine then_n ?_
       refine go_same ?_
       refine x_join (fun fr H => ∃ (g2318 : Option Bool) (g2319 : Option Bool) (g2320 : Option Bool) (g2321 : Option Bool) (g2322 : Option Bool), fr = [.ptr 0 0, .int .i64 a0, sl cHeld a1, .any, .any, .any, .any, .int .i64 x2154, .any, .bool y2250.2, .int .i64 x2309, .any, junkB g2318, .any, .any, .any, .bool (iLt a0 1), .bool false, .any, .bool (iGt a0 512), .bool (iGt a0 512), .bool false, .any, .any, .any, .any, .any, .bool (iGt (a2.l.length : Int) 0), junkB g1166, .any, .any, .any, .any, .any, .any, .any, .any, .any, .any, .any, .any, .any, .any, junkB g1167, junkB g1168, junkB g1169, .bool false, .any, junkB g1170, junkB g1171, .bool false, .any, .any, .any, .bool true, .any, .any, .any, .any, .any, .any, .any, .any, .any, .any, .any, .any, .any, .any, .bool y2250.2, .bool false, .any, .any, .any, .any, .any, .any, .bool true, .any, .any, .any, .any, .any, .any, .any, .any, .any, .any, .any, .any, .any, .any, .any, .any, .any, .any, junkB g2319, junkB g2320, junkB g2321, .any, .any, .any, .any, .any, .any, junkB g2322, .bool false, .any, .any, .any, .any, .any, .any, .any, .any, .any, .any, .any, .any, .any, .any, .any, .any, .any, .any, .any, .any, .any, .any, .any, .any, .any, .any, .any, .any, .any, .any, .any, .any, .any] ∧ H = [.cells ((cL cAffidavitref24_State) a2 ++ (cL cHeld) a3)] ∧ r24_Book_Add_J45 (loopN (r24_Book_Add_B2309 a1 a2 (loopN (r24_Book_Add_B2154 a0 a1 a2 a3) d2154) x2154) d2309) x2309 = some r) (by kernel_rfl) (fun fr H ⟨g2318, g2319, g2320, g2321, g2322, e1, e2, hF⟩ => ?_) (fun hJ45 => ?_)
       ·subst e1 e2
        refine x_region (by kernel_rfl) ?_
        refine w_run 3 [.cells ((cL cAffidavitref24_State) a2 ++ (cL cHeld) a3)] rfl (by kernel_rfl) ?_
        refine w_end (by kernel_rfl) ?_
        refine then_n ?_
        exact x_back (VS.same2 1393796574867044529999308293281732018628984 (by kernel_rfl) (by kernel_rfl)) ⟨iAdd .i64 x2309 1, g2318, (some true), g2319, g2320, g2321, g2322, (some false), rfl, rfl, hF⟩
       ·refine x_block (by kernel_rfl) ?_
        refine x_seq (by kernel_rfl) ?_
        refine x_drawn 425201214061343713638919476061854883920413185 call_ends callMono (by kernel_rfl) (by kernel_rfl) ?_
        refine w_pure 5 rfl (by kernel_rfl) ?_
        refine bind_elim hF (fun y2326 hy2326 hF => w_iaddr cAffidavitref24_State (sz := 2) hy2326 (by kernel_rfl) (by decide) len_cAffidavitref24_State ?_)
        refine w_pure 7 rfl (by kernel_rfl) ?_
        refine w_elem cAffidavitref24_State 1 (t := 27) (v := sl cHeld y2326.L) (sz := 2) (z := 1) hy2326 (by kernel_rfl) (by kernel_rfl) len_cAffidavitref24_State (by decide) (by decide) ?_
        refine w_pure 10 rfl (by kernel_rfl) ?_
        refine bind_elim hF (fun y2327 hy2327 hF => w_iaddr cHeld (sz := 2) hy2327 (by kernel_rfl) (by decide) len_cHeld ?_)
        refine w_pure 12 rfl (by kernel_rfl) ?_
        refine w_elem cHeld 0 (t := 3) (v := .int .i64 y2327.Number) (sz := 2) (z := 1) hy2327 (by kernel_rfl) (by kernel_rfl) len_cHeld (by decide) (by decide) ?_
        refine bind_elim hF (fun y2328 hy2328 hF => w_pcallW (r24_in_ev hy2328) (by kernel_rfl) (lows_cons (low_sl low_cHeld) (lows_cons rfl rfl)) (low_tup (lows_cons rfl (lows_cons rfl rfl))) ?_)
        refine w_pure 19 rfl (by kernel_rfl) ?_
        refine w_end (by kernel_rfl) ?_
        refine ⟨_, _, VS.refl _ _ _, ?_⟩
        refine then_n ?_
        refine go_same ?_
        refine x_seq (by kernel_rfl) ?_
        refine x_region (by kernel_rfl) ?_
        refine w_run 2 [.cells ((cL cAffidavitref24_State) a2 ++ (cL cHeld) a3)] rfl (by kernel_rfl) ?_
        refine ite_elim hF (fun hc6 hF => ?_) (fun hc6 hF => ?_)
        ·refine w_set 98 (b := true) (by kernel_rfl) hc6 ?_
         refine w_run 5 [.cells ((cL cAffidavitref24_State) a2 ++ (cL cHeld) a3)] rfl (by kernel_rfl) ?_
         refine bind_elim hF (fun y2330 hy2330 hF => w_iaddr cHeld (sz := 2) hy2330 (by kernel_rfl) (by decide) len_cHeld ?_)
         refine w_run 7 [.cells ((cL cAffidavitref24_State) a2 ++ (cL cHeld) a3)] rfl (by kernel_rfl) ?_
         refine w_elem cHeld 1 (t := 3) (v := .int .i64 y2330.Size) (sz := 2) (z := 1) hy2330 (by kernel_rfl) (by kernel_rfl) len_cHeld (by decide) (by decide) ?_
         refine w_run 10 [.cells ((cL cAffidavitref24_State) a2 ++ (cL cHeld) a3)] rfl (by kernel_rfl) ?_
         refine w_end (by kernel_rfl) ?_
         refine then_n ?_
         refine go_same ?_
         refine ite_elim hF (fun hc7 hF => ?_) (fun hc7 hF => ?_)
         ·refine x_set 106 (b := true) (by kernel_rfl) hc7 ?_
          refine x_cond (b0 := true) (by kernel_rfl) (by kernel_rfl) ?_
          refine x_seq (by kernel_rfl) ?_
          refine x_region (by kernel_rfl) ?_
          refine w_run 1 [.cells ((cL cAffidavitref24_State) a2 ++ (cL cHeld) a3)] rfl (by kernel_rfl) ?_
          refine w_end (by kernel_rfl) ?_
          refine then_n ?_
          refine go_same ?_
          refine x_ret (by kernel_rfl) ?_
          refine block_r ?_
          refine then_r ?_
          refine then_r ?_
          refine block_r ?_
          refine block_r ?_
          refine then_r ?_
          refine then_r ?_
          refine block_r ?_
          refine then_r ?_
          have e := Option.some.inj hF
          subst e
          exact fin_sh [0] (.inl rfl) (by kernel_rfl) (by kernel_rfl) (by kernel_rfl) (by kernel_rfl) rfl (shh (b0 := .cells ((cL cAffidavitref24_State) a2 ++ (cL cHeld) a3)) (by kernel_rfl) (shb_cells (by kernel_rfl) (by kernel_rfl) (tights_app (tights_lows ((low_cL low_cAffidavitref24_State) _)) (tights_lows ((low_cL low_cHeld) _)))) shh_nil) (And.intro rfl rfl)
         ·refine x_set 106 (b := false) (by kernel_rfl) hc7 ?_
          refine x_cond (b0 := false) (by kernel_rfl) (by kernel_rfl) ?_
          refine x_skip (.inl (by kernel_rfl)) ?_
          refine block_n ?_
          refine then_n ?_
          exact x_to hJ45 (VS.same2 1393796574827034307778489075345163676875128 (by kernel_rfl) (by kernel_rfl)) ⟨(some y2328.2), (some y2328.2), (some y2328.2), (some true), (some (y2328.1 != y2330.Size)), rfl, rfl, hF⟩
        ·refine w_set 98 (b := false) (by kernel_rfl) hc6 ?_
         refine w_run 10 [.cells ((cL cAffidavitref24_State) a2 ++ (cL cHeld) a3)] rfl (by kernel_rfl) ?_
         refine w_end (by kernel_rfl) ?_
         refine then_n ?_
         refine go_same ?_
         refine x_cond (b0 := false) (by kernel_rfl) (by kernel_rfl) ?_
         refine x_skip (.inl (by kernel_rfl)) ?_
         refine block_n ?_
         refine then_n ?_
         exact x_to hJ45 (VS.same2 1393796574827034307778489075345163676875128 (by kernel_rfl) (by kernel_rfl)) ⟨(some y2328.2), (some y2328.2), (some y2328.2), (some false), none, rfl, rfl, hF⟩
      ·refine x_set 77 (b := false) (by kernel_rfl) hc5 ?_
       refine x_cond (b0 := false) (by kernel_rfl) (by kernel_rfl) ?_
       refine x_exit (by kernel_rfl) ?_
       refine then_e ?_
       refine then_e ?_
       refine block_e ?_
       refine block_n ?_
       refine then_n ?_
       exact x_to hJ42 (VS.same2 1393796574785914891434176179944473072299896 (by kernel_rfl) (by kernel_rfl)) ⟨(some y2250.2), g2273, (some y2250.2), g2275, g2276, g2277, g2278, g2279, rfl, rfl, hF⟩
   ·refine x_set 54 (b := false) (by kernel_rfl) hc3 ?_
    refine x_cond (b0 := false) (by kernel_rfl) (by kernel_rfl) ?_
    refine x_exit (by kernel_rfl) ?_
    refine then_e ?_
    refine then_e ?_
    refine block_e ?_
    refine then_n ?_
    exact x_to hJ23 (VS.same2 1393796574785914891433585884134114366647800 (by kernel_rfl) (by kernel_rfl)) ⟨g1955, g1956, g1958, g1959, g1960, g1961, g1962, g1963, g1964, g1965, rfl, rfl, hF⟩
 ·refine x_seq (by kernel_rfl) ?_
  refine x_drawn 0 call_ends callMono (by kernel_rfl) (by kernel_rfl) ?_
  refine w_pure 3 rfl (by kernel_rfl) ?_
  refine ite_elim hF (fun hc8 hF => ?_) (fun hc8 hF => ?_)
  ·refine w_set 17 (b := true) (by kernel_rfl) hc8 ?_
   refine w_pure 36 rfl (by kernel_rfl) ?_
   refine w_end (by kernel_rfl) ?_
   refine ⟨_, _, VS.refl _ _ _, ?_⟩
   refine then_n ?_
   refine go_same ?_
   refine x_cond (b0 := true) (by kernel_rfl) (by kernel_rfl) ?_
   refine x_seq (by kernel_rfl) ?_
   refine x_region (by kernel_rfl) ?_
   refine w_run 1 [.cells ((cL cAffidavitref24_State) a2 ++ (cL cHeld) a3)] rfl (by kernel_rfl) ?_
   refine w_end (by kernel_rfl) ?_
   refine then_n ?_
   refine go_same ?_
   refine x_ret (by kernel_rfl) ?_
   refine then_r ?_
   have e := Option.some.inj hF
   subst e
   exact fin_sh [0] (.inl rfl) (by kernel_rfl) (by kernel_rfl) (by kernel_rfl) (by kernel_rfl) rfl (shh (b0 := .cells ((cL cAffidavitref24_State) a2 ++ (cL cHeld) a3)) (by kernel_rfl) (shb_cells (by kernel_rfl) (by kernel_rfl) (tights_app (tights_lows ((low_cL low_cAffidavitref24_State) _)) (tights_lows ((low_cL low_cHeld) _)))) shh_nil) (And.intro rfl rfl)
  ·refine w_set 17 (b := false) (by kernel_rfl) hc8 ?_
   refine w_pure 7 rfl (by kernel_rfl) ?_
   refine ite_elim hF (fun hc9 hF => ?_) (fun hc9 hF => ?_)
   ·refine w_set 21 (b := true) (by kernel_rfl) hc9 ?_
    refine w_pure 36 rfl (by kernel_rfl) ?_
    refine w_end (by kernel_rfl) ?_
    refine ⟨_, _, VS.refl _ _ _, ?_⟩
    refine then_n ?_
    refine go_same ?_
    refine x_cond (b0 := true) (by kernel_rfl) (by kernel_rfl) ?_
    refine x_seq (by kernel_rfl) ?_
    refine x_region (by kernel_rfl) ?_
    refine w_run 1 [.cells ((cL cAffidavitref24_State) a2 ++ (cL cHeld) a3)] rfl (by kernel_rfl) ?_
    refine w_end (by kernel_rfl) ?_
    refine then_n ?_
    refine go_same ?_
    refine x_ret (by kernel_rfl) ?_
    refine then_r ?_
    have e := Option.some.inj hF
    subst e
    exact fin_sh [0] (.inl rfl) (by kernel_rfl) (by kernel_rfl) (by kernel_rfl) (by kernel_rfl) rfl (shh (b0 := .cells ((cL cAffidavitref24_State) a2 ++ (cL cHeld) a3)) (by kernel_rfl) (shb_cells (by kernel_rfl) (by kernel_rfl) (tights_app (tights_lows ((low_cL low_cAffidavitref24_State) _)) (tights_lows ((low_cL low_cHeld) _)))) shh_nil) (And.intro rfl rfl)
   ·refine w_set 21 (b := false) (by kernel_rfl) hc9 ?_
    refine w_pure 14 rfl (by kernel_rfl) ?_
    refine ite_elim hF (fun hc10 hF => ?_) (fun hc10 hF => ?_)
    ·refine w_set 28 (b := true) (by kernel_rfl) hc10 ?_
     refine w_pure 25 rfl (by kernel_rfl) ?_
     refine bind_elim hF (fun y2340 hy2340 hF => w_iaddr cAffidavitref24_State (sz := 2) hy2340 (by kernel_rfl) (by decide) len_cAffidavitref24_State ?_)
     refine w_pure 27 rfl (by kernel_rfl) ?_
     refine w_elem cAffidavitref24_State 0 (t := 3) (v := .int .i64 y2340.N) (sz := 2) (z := 1) hy2340 (by kernel_rfl) (by kernel_rfl) len_cAffidavitref24_State (by decide) (by decide) ?_
     refine w_pure 32 rfl (by kernel_rfl) ?_
     refine ite_elim hF (fun hc11 hF => ?_) (fun hc11 hF => ?_)
     ·refine w_set 46 (b := true) (by kernel_rfl) hc11 ?_
      refine w_pure 36 rfl (by kernel_rfl) ?_
      refine w_end (by kernel_rfl) ?_
      refine ⟨_, _, VS.refl _ _ _, ?_⟩
      refine then_n ?_
      refine go_same ?_
      refine x_cond (b0 := true) (by kernel_rfl) (by kernel_rfl) ?_
      refine x_seq (by kernel_rfl) ?_
      refine x_region (by kernel_rfl) ?_
      refine w_run 1 [.cells ((cL cAffidavitref24_State) a2 ++ (cL cHeld) a3)] rfl (by kernel_rfl) ?_
      refine w_end (by kernel_rfl) ?_
      refine then_n ?_
      refine go_same ?_
      refine x_ret (by kernel_rfl) ?_
      refine then_r ?_
      have e := Option.some.inj hF
      subst e
      exact fin_sh [0] (.inl rfl) (by kernel_rfl) (by kernel_rfl) (by kernel_rfl) (by kernel_rfl) rfl (shh (b0 := .cells ((cL cAffidavitref24_State) a2 ++ (cL cHeld) a3)) (by kernel_rfl) (shb_cells (by kernel_rfl) (by kernel_rfl) (tights_app (tights_lows ((low_cL low_cAffidavitref24_State) _)) (tights_lows ((low_cL low_cHeld) _)))) shh_nil) (And.intro rfl rfl)
     ·refine w_set 46 (b := false) (by kernel_rfl) hc11 ?_
      refine w_pure 33 rfl (by kernel_rfl) ?_
      refine bind_elim hF (fun y2341 hy2341 hF => w_pcallW (r24_Rise_ev hy2341) (by kernel_rfl) (lows_cons (low_sl low_cHeld) rfl) rfl ?_)
      refine w_pure 36 rfl (by kernel_rfl) ?_
      refine w_end (by kernel_rfl) ?_
      refine ⟨_, _, VS.refl _ _ _, ?_⟩
      refine then_n ?_
      refine go_same ?_
      refine ite_elim hF (fun hc12 hF => ?_) (fun hc12 hF => ?_)
      ·refine x_set 50 (b := false) (by kernel_rfl) (show (!y2341) = false by rw [hc12]; rfl) ?_
       refine x_cond (b0 := false) (by kernel_rfl) (by kernel_rfl) ?_
       refine x_skip (.inl (by kernel_rfl)) ?_
       refine then_n ?_
       exact x_to hJ1 (VS.same2 1393796574908163946345982390844253805019128 (by kernel_rfl) (by kernel_rfl)) ⟨(some true), (some (iLe a0 y2340.N)), (some (iLe a0 y2340.N)), (some (iLe a0 y2340.N)), (some y2341), (some (!y2341)), rfl, rfl, hF⟩
      ·refine x_set 50 (b := true) (by kernel_rfl) (show (!y2341) = true by rw [hc12]; rfl) ?_
       refine x_cond (b0 := true) (by kernel_rfl) (by kernel_rfl) ?_
       refine x_seq (by kernel_rfl) ?_
       refine x_region (by kernel_rfl) ?_
       refine w_run 1 [.cells ((cL cAffidavitref24_State) a2 ++ (cL cHeld) a3)] rfl (by kernel_rfl) ?_
       refine w_end (by kernel_rfl) ?_
       refine then_n ?_
       refine go_same ?_
       refine x_ret (by kernel_rfl) ?_
       refine then_r ?_
       have e := Option.some.inj hF
       subst e
       exact fin_sh [0] (.inl rfl) (by kernel_rfl) (by kernel_rfl) (by kernel_rfl) (by kernel_rfl) rfl (shh (b0 := .cells ((cL cAffidavitref24_State) a2 ++ (cL cHeld) a3)) (by kernel_rfl) (shb_cells (by kernel_rfl) (by kernel_rfl) (tights_app (tights_lows ((low_cL low_cAffidavitref24_State) _)) (tights_lows ((low_cL low_cHeld) _)))) shh_nil) (And.intro rfl rfl)
    ·refine w_set 28 (b := false) (by kernel_rfl) hc10 ?_
     refine w_pure 33 rfl (by kernel_rfl) ?_
     refine bind_elim hF (fun y2342 hy2342 hF => w_pcallW (r24_Rise_ev hy2342) (by kernel_rfl) (lows_cons (low_sl low_cHeld) rfl) rfl ?_)
     refine w_pure 36 rfl (by kernel_rfl) ?_
     refine w_end (by kernel_rfl) ?_
     refine ⟨_, _, VS.refl _ _ _, ?_⟩
     refine then_n ?_
     refine go_same ?_
     refine ite_elim hF (fun hc13 hF => ?_) (fun hc13 hF => ?_)
     ·refine x_set 50 (b := false) (by kernel_rfl) (show (!y2342) = false by rw [hc13]; rfl) ?_
      refine x_cond (b0 := false) (by kernel_rfl) (by kernel_rfl) ?_
      refine x_skip (.inl (by kernel_rfl)) ?_
      refine then_n ?_
      exact x_to hJ1 (VS.same2 1393796574908163946345982390844253805019128 (by kernel_rfl) (by kernel_rfl)) ⟨(some false), none, (some false), (some false), (some y2342), (some (!y2342)), rfl, rfl, hF⟩
     ·refine x_set 50 (b := true) (by kernel_rfl) (show (!y2342) = true by rw [hc13]; rfl) ?_
      refine x_cond (b0 := true) (by kernel_rfl) (by kernel_rfl) ?_
      refine x_seq (by kernel_rfl) ?_
      refine x_region (by kernel_rfl) ?_
      refine w_run 1 [.cells ((cL cAffidavitref24_State) a2 ++ (cL cHeld) a3)] rfl (by kernel_rfl) ?_
      refine w_end (by kernel_rfl) ?_
      refine then_n ?_
      refine go_same ?_
      refine x_ret (by kernel_rfl) ?_
      refine then_r ?_
      have e := Option.some.inj hF
      subst e
      exact fin_sh [0] (.inl rfl) (by kernel_rfl) (by kernel_rfl) (by kernel_rfl) (by kernel_rfl) rfl (shh (b0 := .cells ((cL cAffidavitref24_State) a2 ++ (cL cHeld) a3)) (by kernel_rfl) (shb_cells (by kernel_rfl) (by kernel_rfl) (tights_app (tights_lows ((low_cL low_cAffidavitref24_State) _)) (tights_lows ((low_cL low_cHeld) _)))) shh_nil) (And.intro rfl rfl)
def l24_do_J2 (a0 : Affidavitlaw24_Act) (a1 : Sl Prune_state) (a2 : Sl Held) (a3 : Sl Affidavitref24_State) (a4 : Sl Held) (p30 : Int) : Option (Bool × (Sl Prune_state) × (Sl Affidavitref24_State) × (Sl Held) × (Sl Held)) :=
 (prune_Book_Add p30 a0.L a1 a2).bind fun y35 => (r24_Book_Add p30 a0.L a3 a4).bind fun y36 => some ((y35.1 == y36.1), y35.2, y36.2, a4, a2)
def l24_do_J3 (a0 : Affidavitlaw24_Act) (a1 : Sl Prune_state) (a2 : Sl Held) (a3 : Sl Affidavitref24_State) (a4 : Sl Held) (p37 : Bool) : Option (Bool × (Sl Prune_state) × (Sl Affidavitref24_State) × (Sl Held) × (Sl Held)) :=
 if p37 = true then (prune_Book_Prune a0.N a1 a2).bind fun y45 => (r24_Book_Prune a0.N a3 a4).bind fun y46 => (r01_Ints y45.1 y46.1).bind fun y47 => some (y47, y45.2.1, y46.2.1, y46.2.2, y45.2.2) else if (a0.Kind == 3) = true then if iGt (a3.l.length : Int) 0 = true then (idxL a3.l (iSub .i64 (a3.l.length : Int) 1)).bind fun y50 => l24_do_J2 a0 a1 a2 a3 a4 (iAdd .i64 y50.N 1) else l24_do_J2 a0 a1 a2 a3 a4 1 else l24_do_J2 a0 a1 a2 a3 a4 a0.N
def l24_do (a0 : Affidavitlaw24_Act) (a1 : Sl Prune_state) (a2 : Sl Held) (a3 : Sl Affidavitref24_State) (a4 : Sl Held) : Option (Bool × (Sl Prune_state) × (Sl Affidavitref24_State) × (Sl Held) × (Sl Held)) :=
 if (a0.Kind == 4) = true then l24_do_J3 a0 a1 a2 a3 a4 true else l24_do_J3 a0 a1 a2 a3 a4 (a0.Kind == 5)
theorem l24_do_ev {a0 : Affidavitlaw24_Act} {a1 : Sl Prune_state} {a2 : Sl Held} {a3 : Sl Affidavitref24_State} {a4 : Sl Held} {r : Bool × (Sl Prune_state) × (Sl Affidavitref24_State) × (Sl Held) × (Sl Held)} (hF : l24_do a0 a1 a2 a3 a4 = some r) : EvCall Try.prog T G0 11 [.ptr 0 0, .ptr 2 0, .agg (cAffidavitlaw24_Act a0)] [.cells ((cL cPrune_state) a1 ++ [rfv false a2 1 2]), rfb cHeld a2, .cells ((cL cAffidavitref24_State) a3 ++ (cL cHeld) a4)] (fun v H' => v = .bool r.1 ∧ H' = [.cells ((cL cPrune_state) r.2.1 ++ [rfv false r.2.2.2.2 3 2]), .dead, .cells ((cL cAffidavitref24_State) r.2.2.1 ++ (cL cHeld) r.2.2.2.1), rfb cHeld r.2.2.2.2]) := by
 refine x_call Try.func11 (by kernel_rfl) (by kernel_rfl) rfl ?_
 refine x_seq (by kernel_rfl) ?_
 refine x_region (by kernel_rfl) ?_
 refine w_run 2 [.cells ((cL cPrune_state) a1 ++ [rfv false a2 1 2]), rfb cHeld a2, .cells ((cL cAffidavitref24_State) a3 ++ (cL cHeld) a4), .cells (cAffidavitlaw24_Act a0)] rfl (by kernel_rfl) ?_
 refine w_end (by kernel_rfl) ?_
 refine then_n ?_
 refine go_same ?_
 refine x_join (fun fr H => ∃ (p30 : Int) (g27 : Option Bool) (g28 : Option Bool) (g29 : Option Bool), fr = [.ptr 0 0, .ptr 2 0, .any, .any, .any, .ptr 3 0, .bool false, .any, .any, .bool false, .bool (a0.Kind == 4), junkB g27, .any, .any, .any, .any, .any, .any, .any, .any, .any, junkB g28, .bool (a0.Kind == 3), .any, .any, .any, .any, .any, .any, junkB g29, .any, .any, .any, .any, .any, .any, .any, .any, .any, .any, .any, .any, .any, .any, .any, .any, .any, .any, .any, .any, .any, .any, .any, .any, .any, .any, .any, .any] ∧ H = [.cells ((cL cPrune_state) a1 ++ [rfv false a2 1 2]), rfb cHeld a2, .cells ((cL cAffidavitref24_State) a3 ++ (cL cHeld) a4), .cells ((cI .i64) a0.Kind ++ (cI .i64) p30 ++ (cL cHeld) a0.L)] ∧ l24_do_J2 a0 a1 a2 a3 a4 p30 = some r) (by kernel_rfl) (fun fr H ⟨p30, g27, g28, g29, e1, e2, hF⟩ => ?_) (fun hJ2 => ?_)
 ·subst e1 e2
  refine x_seq (by kernel_rfl) ?_
  refine x_rows 0 14303 [⟨5, [], [6, 7, 8, 9, 10], [], [8, 10]⟩, ⟨11, [12, 13], [12, 13], [], []⟩] call_ends callMono (by kernel_rfl) (by kernel_rfl) ?_
  refine w_pure 10 rfl (by kernel_rfl) ?_
  refine w_end (by kernel_rfl) ?_
  refine rows_next ?_
  refine bind_elim hF (fun y35 hy35 hF => w_ocall [0, 1] [0, 1] (ga := [.ptr 0 0, .int .i64 p30, sl cHeld a0.L]) (as0 := [.ptr 0 0, .int .i64 p30, sl cHeld a0.L]) (h0 := [.cells ((cL cPrune_state) a1 ++ [rfv false a2 1 2]), rfb cHeld a2]) (h1 := [.cells ((cL cPrune_state) y35.2 ++ [rfv false a2 1 2]), rfb cHeld a2]) (h2 := [.cells ((cL cPrune_state) y35.2 ++ [rfv false a2 1 2]), rfb cHeld a2]) (H2 := [.cells ((cL cPrune_state) y35.2 ++ [rfv false a2 1 2]), rfb cHeld a2, .cells ((cL cAffidavitref24_State) a3 ++ (cL cHeld) a4), .cells ((cI .i64) a0.Kind ++ (cI .i64) p30 ++ (cL cHeld) a0.L)]) (v0 := .int .i64 y35.1) (v := .int .i64 y35.1) (prune_Book_Add_ev hy35) (by kernel_rfl) (by kernel_rfl) (by kernel_rfl) (tights_cons rfl (tights_cons rfl (tights_cons (tight_sl low_cHeld) rfl))) (pl (b' := .cells ((cL cPrune_state) a1 ++ [rfv false a2 1 2])) (by kernel_rfl) (sb_cells (by kernel_rfl) (by kernel_rfl) (tights_app (tights_lows ((low_cL low_cPrune_state) _)) (tights_cons rfl rfl))) (pl (b' := rfb cHeld a2) (by kernel_rfl) (sb_low (noref_rfb low_cHeld _)) pl_nil)) (by kernel_rfl) rfl (sbs (sb_cells (by kernel_rfl) (by kernel_rfl) (tights_app (tights_lows ((low_cL low_cPrune_state) _)) (tights_cons rfl rfl))) (sbs (sb_low (noref_rfb low_cHeld _)) sbs_nil)) (by kernel_rfl) (fun e => by cases e) ?_)
  refine w_end (by kernel_rfl) ?_
  refine ⟨⟨(by kernel_rfl), chks_of (by kernel_rfl) (by kernel_rfl)⟩, ?_⟩
  refine w_end (by kernel_rfl) ?_
  refine rows_next ?_
  refine bind_elim hF (fun y36 hy36 hF => w_ocall [2] [2] (ga := [.ptr 2 0, .int .i64 p30, sl cHeld a0.L]) (as0 := [.ptr 0 0, .int .i64 p30, sl cHeld a0.L]) (h0 := [.cells ((cL cAffidavitref24_State) a3 ++ (cL cHeld) a4)]) (h1 := [.cells ((cL cAffidavitref24_State) y36.2 ++ (cL cHeld) a4)]) (h2 := [.cells ((cL cAffidavitref24_State) y36.2 ++ (cL cHeld) a4)]) (H2 := [.cells ((cL cPrune_state) y35.2 ++ [rfv false a2 1 2]), rfb cHeld a2, .cells ((cL cAffidavitref24_State) y36.2 ++ (cL cHeld) a4), .cells ((cI .i64) a0.Kind ++ (cI .i64) p30 ++ (cL cHeld) a0.L)]) (v0 := .int .i64 y36.1) (v := .int .i64 y36.1) (r24_Book_Add_ev hy36) (by kernel_rfl) (by kernel_rfl) (by kernel_rfl) (tights_cons rfl (tights_cons rfl (tights_cons (tight_sl low_cHeld) rfl))) (pl (b' := .cells ((cL cAffidavitref24_State) a3 ++ (cL cHeld) a4)) (by kernel_rfl) (sb_cells (by kernel_rfl) (by kernel_rfl) (tights_app (tights_lows ((low_cL low_cAffidavitref24_State) _)) (tights_lows ((low_cL low_cHeld) _)))) pl_nil) (by kernel_rfl) rfl (sbs (sb_cells (by kernel_rfl) (by kernel_rfl) (tights_app (tights_lows ((low_cL low_cAffidavitref24_State) _)) (tights_lows ((low_cL low_cHeld) _)))) sbs_nil) (by kernel_rfl) (fun e => by cases e) ?_)
  refine w_end (by kernel_rfl) ?_
  refine ⟨⟨(by kernel_rfl), trivial⟩, ?_⟩
  refine w_pure 2 rfl (by kernel_rfl) ?_
  refine w_end (by kernel_rfl) ?_
  refine rows_done ?_
  refine ⟨_, _, VS.refl _ _ _, ?_⟩
  refine then_n ?_
  refine go_same ?_
  refine x_ret (by kernel_rfl) ?_
  have e := Option.some.inj hF
  subst e
  exact fin_vs2 (.inl rfl) (by kernel_rfl) (VS.trans (VS.move cHeld a2 1 [] [0] (by kernel_rfl) (by kernel_rfl)) (VS.sh [0, 1, 2, 4] 0 (by kernel_rfl) (by kernel_rfl) (by kernel_rfl) (by kernel_rfl) (shh (b0 := .cells ((cL cPrune_state) y35.2 ++ [rfv false a2 4 2])) (by kernel_rfl) (shb_cells (by kernel_rfl) (by kernel_rfl) (tights_app (tights_lows ((low_cL low_cPrune_state) _)) (tights_cons rfl rfl))) (shh (b0 := .dead) (by kernel_rfl) (shb_dead (by kernel_rfl)) (shh (b0 := .cells ((cL cAffidavitref24_State) y36.2 ++ (cL cHeld) a4)) (by kernel_rfl) (shb_cells (by kernel_rfl) (by kernel_rfl) (tights_app (tights_lows ((low_cL low_cAffidavitref24_State) _)) (tights_lows ((low_cL low_cHeld) _)))) (shh (b0 := rfb cHeld a2) (by kernel_rfl) (NoRef.shb (noref_rfb low_cHeld _)) shh_nil)))))) (And.intro rfl rfl)
 ·refine x_seq (by kernel_rfl) ?_
  refine x_region (by kernel_rfl) ?_
  refine w_run 2 [.cells ((cL cPrune_state) a1 ++ [rfv false a2 1 2]), rfb cHeld a2, .cells ((cL cAffidavitref24_State) a3 ++ (cL cHeld) a4), .cells (cAffidavitlaw24_Act a0)] rfl (by kernel_rfl) ?_
  refine w_end (by kernel_rfl) ?_
  refine then_n ?_
  refine go_same ?_
  refine x_block (by kernel_rfl) ?_
  refine x_join (fun fr H => ∃ (p37 : Bool) (g38 : Option Bool), fr = [.ptr 0 0, .ptr 2 0, .any, .any, .any, .ptr 3 0, .bool false, .any, .int .i64 a0.Kind, .bool p37, .bool (a0.Kind == 4), junkB g38, .any, .any, .any, .any, .any, .any, .any, .any, .any, .any, .any, .any, .any, .any, .any, .any, .any, .any, .any, .any, .any, .any, .any, .any, .any, .any, .any, .any, .any, .any, .any, .any, .any, .any, .any, .any, .any, .any, .any, .any, .any, .any, .any, .any, .any, .any] ∧ H = [.cells ((cL cPrune_state) a1 ++ [rfv false a2 1 2]), rfb cHeld a2, .cells ((cL cAffidavitref24_State) a3 ++ (cL cHeld) a4), .cells (cAffidavitlaw24_Act a0)] ∧ l24_do_J3 a0 a1 a2 a3 a4 p37 = some r) (by kernel_rfl) (fun fr H ⟨p37, g38, e1, e2, hF⟩ => ?_) (fun hJ3 => ?_)
  ·subst e1 e2
   refine ite_elim hF (fun hc1 hF => ?_) (fun hc1 hF => ?_)
   ·refine x_set 9 (b := true) (by kernel_rfl) hc1 ?_
    refine x_cond (b0 := true) (by kernel_rfl) (by kernel_rfl) ?_
    refine x_seq (by kernel_rfl) ?_
    refine x_rows 0 887 [⟨3, [], [4, 5, 6], [], [6]⟩, ⟨7, [8, 9], [9], [8], []⟩] call_ends callMono (by kernel_rfl) (by kernel_rfl) ?_
    refine w_pure 6 rfl (by kernel_rfl) ?_
    refine w_end (by kernel_rfl) ?_
    refine rows_next ?_
    refine bind_elim hF (fun y45 hy45 hF => w_ocall [0, 1] [0, 1, 4] (ga := [.ptr 0 0, .int .i64 a0.N]) (as0 := [.ptr 0 0, .int .i64 a0.N]) (h0 := [.cells ((cL cPrune_state) a1 ++ [rfv false a2 1 2]), rfb cHeld a2]) (h1 := [.cells ((cL cPrune_state) y45.2.1 ++ [rfv false y45.2.2 2 2]), .dead, rfb cHeld y45.2.2]) (h2 := [.cells ((cL cPrune_state) y45.2.1 ++ [rfv false y45.2.2 4 2]), .dead, rfb cHeld y45.2.2]) (H2 := [.cells ((cL cPrune_state) y45.2.1 ++ [rfv false y45.2.2 4 2]), .dead, .cells ((cL cAffidavitref24_State) a3 ++ (cL cHeld) a4), .cells (cAffidavitlaw24_Act a0), rfb cHeld y45.2.2]) (v0 := sl (cI .i64) y45.1) (v := sl (cI .i64) y45.1) (prune_Book_Prune_ev hy45) (by kernel_rfl) (by kernel_rfl) (by kernel_rfl) (by kernel_rfl) (pl (b' := .cells ((cL cPrune_state) a1 ++ [rfv false a2 1 2])) (by kernel_rfl) (sb_cells (by kernel_rfl) (by kernel_rfl) (tights_app (tights_lows ((low_cL low_cPrune_state) _)) (tights_cons rfl rfl))) (pl (b' := rfb cHeld a2) (by kernel_rfl) (sb_low (noref_rfb low_cHeld _)) pl_nil)) (by kernel_rfl) (tight_sl low_cI) (sbs (sb_cells (by kernel_rfl) (by kernel_rfl) (tights_app (tights_lows ((low_cL low_cPrune_state) _)) (tights_cons rfl rfl))) (sbs sb_dead (sbs (sb_low (noref_rfb low_cHeld _)) sbs_nil))) (by kernel_rfl) (fun e => by cases e) ?_)
    refine w_end (by kernel_rfl) ?_
    refine ⟨⟨(by kernel_rfl), chks_of (by kernel_rfl) (by kernel_rfl)⟩, ?_⟩
    refine w_end (by kernel_rfl) ?_
    refine rows_next ?_
    refine bind_elim hF (fun y46 hy46 hF => w_ocall [2] [2] (ga := [.ptr 2 0, .int .i64 a0.N]) (as0 := [.ptr 0 0, .int .i64 a0.N]) (h0 := [.cells ((cL cAffidavitref24_State) a3 ++ (cL cHeld) a4)]) (h1 := [.cells ((cL cAffidavitref24_State) y46.2.1 ++ (cL cHeld) y46.2.2)]) (h2 := [.cells ((cL cAffidavitref24_State) y46.2.1 ++ (cL cHeld) y46.2.2)]) (H2 := [.cells ((cL cPrune_state) y45.2.1 ++ [rfv false y45.2.2 4 2]), .dead, .cells ((cL cAffidavitref24_State) y46.2.1 ++ (cL cHeld) y46.2.2), .cells (cAffidavitlaw24_Act a0), rfb cHeld y45.2.2]) (v0 := sl (cI .i64) y46.1) (v := sl (cI .i64) y46.1) (r24_Book_Prune_ev hy46) (by kernel_rfl) (by kernel_rfl) (by kernel_rfl) (by kernel_rfl) (pl (b' := .cells ((cL cAffidavitref24_State) a3 ++ (cL cHeld) a4)) (by kernel_rfl) (sb_cells (by kernel_rfl) (by kernel_rfl) (tights_app (tights_lows ((low_cL low_cAffidavitref24_State) _)) (tights_lows ((low_cL low_cHeld) _)))) pl_nil) (by kernel_rfl) (tight_sl low_cI) (sbs (sb_cells (by kernel_rfl) (by kernel_rfl) (tights_app (tights_lows ((low_cL low_cAffidavitref24_State) _)) (tights_lows ((low_cL low_cHeld) _)))) sbs_nil) (by kernel_rfl) (fun e => by cases e) ?_)
    refine w_end (by kernel_rfl) ?_
    refine ⟨⟨(by kernel_rfl), trivial⟩, ?_⟩
    refine bind_elim hF (fun y47 hy47 hF => w_pcallW (r01_Ints_ev hy47) (by kernel_rfl) (lows_cons (low_sl low_cI) (lows_cons (low_sl low_cI) rfl)) rfl ?_)
    refine w_pure 2 rfl (by kernel_rfl) ?_
    refine w_end (by kernel_rfl) ?_
    refine rows_done ?_
    refine ⟨_, _, VS.refl _ _ _, ?_⟩
    refine then_n ?_
    refine go_same ?_
    refine x_ret (by kernel_rfl) ?_
    refine block_r ?_
    refine then_r ?_
    have e := Option.some.inj hF
    subst e
    exact fin_sh [0, 1, 2, 4] (.inl rfl) (by kernel_rfl) (by kernel_rfl) (by kernel_rfl) (by kernel_rfl) rfl (shh (b0 := .cells ((cL cPrune_state) y45.2.1 ++ [rfv false y45.2.2 4 2])) (by kernel_rfl) (shb_cells (by kernel_rfl) (by kernel_rfl) (tights_app (tights_lows ((low_cL low_cPrune_state) _)) (tights_cons rfl rfl))) (shh (b0 := .dead) (by kernel_rfl) (shb_dead (by kernel_rfl)) (shh (b0 := .cells ((cL cAffidavitref24_State) y46.2.1 ++ (cL cHeld) y46.2.2)) (by kernel_rfl) (shb_cells (by kernel_rfl) (by kernel_rfl) (tights_app (tights_lows ((low_cL low_cAffidavitref24_State) _)) (tights_lows ((low_cL low_cHeld) _)))) (shh (b0 := rfb cHeld y45.2.2) (by kernel_rfl) (NoRef.shb (noref_rfb low_cHeld _)) shh_nil)))) (And.intro rfl rfl)
   ·refine x_set 9 (b := false) (by kernel_rfl) hc1 ?_
    refine x_cond (b0 := false) (by kernel_rfl) (by kernel_rfl) ?_
    refine x_seq (by kernel_rfl) ?_
    refine x_region (by kernel_rfl) ?_
    refine w_run 2 [.cells ((cL cPrune_state) a1 ++ [rfv false a2 1 2]), rfb cHeld a2, .cells ((cL cAffidavitref24_State) a3 ++ (cL cHeld) a4), .cells (cAffidavitlaw24_Act a0)] rfl (by kernel_rfl) ?_
    refine w_end (by kernel_rfl) ?_
    refine then_n ?_
    refine go_same ?_
    refine ite_elim hF (fun hc2 hF => ?_) (fun hc2 hF => ?_)
    ·refine x_set 21 (b := true) (by kernel_rfl) hc2 ?_
     refine x_cond (b0 := true) (by kernel_rfl) (by kernel_rfl) ?_
     refine x_seq (by kernel_rfl) ?_
     refine x_region (by kernel_rfl) ?_
     refine w_run 2 [.cells ((cL cPrune_state) a1 ++ [rfv false a2 1 2]), rfb cHeld a2, .cells ((cL cAffidavitref24_State) a3 ++ (cL cHeld) a4), .cells ((cI .i64) a0.Kind ++ (cI .i64) 1 ++ (cL cHeld) a0.L)] rfl (by kernel_rfl) ?_
     refine w_end (by kernel_rfl) ?_
     refine then_n ?_
     refine go_same ?_
     refine x_seq (by kernel_rfl) ?_
     refine x_region (by kernel_rfl) ?_
     refine w_run 6 [.cells ((cL cPrune_state) a1 ++ [rfv false a2 1 2]), rfb cHeld a2, .cells ((cL cAffidavitref24_State) a3 ++ (cL cHeld) a4), .cells ((cI .i64) a0.Kind ++ (cI .i64) 1 ++ (cL cHeld) a0.L)] rfl (by kernel_rfl) ?_
     refine w_end (by kernel_rfl) ?_
     refine then_n ?_
     refine go_same ?_
     refine ite_elim hF (fun hc3 hF => ?_) (fun hc3 hF => ?_)
     ·refine x_set 29 (b := true) (by kernel_rfl) hc3 ?_
      refine x_cond (b0 := true) (by kernel_rfl) (by kernel_rfl) ?_
      refine x_rows 0 32767 [⟨15, [], [], [], []⟩] call_ends callMono (by kernel_rfl) (by kernel_rfl) ?_
      refine w_pure 10 rfl (by kernel_rfl) ?_
      refine bind_elim hF (fun y50 hy50 hF => w_iaddr cAffidavitref24_State (sz := 2) hy50 (by kernel_rfl) (by decide) len_cAffidavitref24_State ?_)
      refine w_pure 12 rfl (by kernel_rfl) ?_
      refine w_elem cAffidavitref24_State 0 (t := 3) (v := .int .i64 y50.N) (sz := 2) (z := 1) hy50 (by kernel_rfl) (by kernel_rfl) len_cAffidavitref24_State (by decide) (by decide) ?_
      refine w_pure 15 rfl (by kernel_rfl) ?_
      refine w_end (by kernel_rfl) ?_
      refine rows_next ?_
      refine w_run 1 [.cells ((cL cPrune_state) a1 ++ [rfv false a2 1 2]), rfb cHeld a2, .cells ((cL cAffidavitref24_State) a3 ++ (cL cHeld) a4), .cells ((cI .i64) a0.Kind ++ (cI .i64) (iAdd .i64 y50.N 1) ++ (cL cHeld) a0.L)] rfl (by kernel_rfl) ?_
      refine w_end (by kernel_rfl) ?_
      refine ⟨⟨(by kernel_rfl), trivial⟩, ?_⟩
      refine w_end (by kernel_rfl) ?_
      refine rows_done ?_
      refine ⟨_, _, VS.refl _ _ _, ?_⟩
      refine block_n ?_
      refine then_n ?_
      exact x_to hJ2 (VS.same2 288230376147513756 (by kernel_rfl) (by kernel_rfl)) ⟨iAdd .i64 y50.N 1, g38, (some true), (some true), rfl, rfl, hF⟩
     ·refine x_set 29 (b := false) (by kernel_rfl) hc3 ?_
      refine x_cond (b0 := false) (by kernel_rfl) (by kernel_rfl) ?_
      refine x_skip (.inl (by kernel_rfl)) ?_
      refine block_n ?_
      refine then_n ?_
      exact x_to hJ2 (VS.same2 288230376147513756 (by kernel_rfl) (by kernel_rfl)) ⟨1, g38, (some true), (some false), rfl, rfl, hF⟩
    ·refine x_set 21 (b := false) (by kernel_rfl) hc2 ?_
     refine x_cond (b0 := false) (by kernel_rfl) (by kernel_rfl) ?_
     refine x_skip (.inl (by kernel_rfl)) ?_
     refine block_n ?_
     refine then_n ?_
     exact x_to hJ2 (VS.same2 288230376147513756 (by kernel_rfl) (by kernel_rfl)) ⟨a0.N, g38, (some false), none, rfl, rfl, hF⟩
  ·refine x_seq (by kernel_rfl) ?_
   refine x_region (by kernel_rfl) ?_
   refine w_run 2 [.cells ((cL cPrune_state) a1 ++ [rfv false a2 1 2]), rfb cHeld a2, .cells ((cL cAffidavitref24_State) a3 ++ (cL cHeld) a4), .cells (cAffidavitlaw24_Act a0)] rfl (by kernel_rfl) ?_
   refine w_end (by kernel_rfl) ?_
   refine then_n ?_
   refine go_same ?_
   refine ite_elim hF (fun hc4 hF => ?_) (fun hc4 hF => ?_)
   ·refine x_set 9 (b := true) (by kernel_rfl) hc4 ?_
    refine x_cond (b0 := true) (by kernel_rfl) (by kernel_rfl) ?_
    refine x_skip (.inl (by kernel_rfl)) ?_
    refine then_n ?_
    exact x_to hJ3 (VS.same2 288230376151709852 (by kernel_rfl) (by kernel_rfl)) ⟨true, none, rfl, rfl, hF⟩
   ·refine x_set 9 (b := false) (by kernel_rfl) hc4 ?_
    refine x_cond (b0 := false) (by kernel_rfl) (by kernel_rfl) ?_
    refine x_region (by kernel_rfl) ?_
    refine w_run 2 [.cells ((cL cPrune_state) a1 ++ [rfv false a2 1 2]), rfb cHeld a2, .cells ((cL cAffidavitref24_State) a3 ++ (cL cHeld) a4), .cells (cAffidavitlaw24_Act a0)] rfl (by kernel_rfl) ?_
    refine w_end (by kernel_rfl) ?_
    refine then_n ?_
    exact x_to hJ3 (VS.same2 288230376151709852 (by kernel_rfl) (by kernel_rfl)) ⟨(a0.Kind == 5), (some (a0.Kind == 5)), rfl, rfl, hF⟩
def prune_Book_States_J1 (p193 : Sl Int) : Option (Sl Int) :=
 some p193.weak
def prune_Book_States_B221 (a0 : Sl Prune_state) (k221 : ((Sl Int) × Int) → Option (Sl Int)) (x221 : (Sl Int) × Int) : Option (Sl Int) :=
 if iLt x221.2 (a0.l.length : Int) = true then (idxL a0.l x221.2).bind fun y224 => (appL 8 x221.1 (⟨false, true, [y224.number]⟩ : Sl Int).l).bind fun y225 => k221 (y225, iAdd .i64 x221.2 1) else prune_Book_States_J1 x221.1
def prune_Book_States (a0 : Sl Prune_state) (a1 : Sl Held) : Option (Sl Int) :=
 loopN (prune_Book_States_B221 a0) FUEL (⟨true, true, []⟩, 0)
theorem prune_Book_States_ev {a0 : Sl Prune_state} {a1 : Sl Held} {r : (Sl Int)} (hF : prune_Book_States a0 a1 = some r) : EvCall Try.prog T G0 13 [.ptr 0 0] [.cells ((cL cPrune_state) a0 ++ [rfv false a1 1 2]), rfb cHeld a1] (fun v H' => v = sl (cI .i64) r ∧ H' = [.cells ((cL cPrune_state) a0 ++ [rfv false a1 1 2]), rfb cHeld a1]) := by
 refine x_call Try.func13 (by kernel_rfl) (by kernel_rfl) rfl ?_
 refine x_seq (by kernel_rfl) ?_
 refine x_region (by kernel_rfl) ?_
 refine w_run 1 [.cells ((cL cPrune_state) a0 ++ [rfv false a1 1 2]), rfb cHeld a1] rfl (by kernel_rfl) ?_
 refine w_end (by kernel_rfl) ?_
 refine then_n ?_
 refine go_same ?_
 refine x_seq (by kernel_rfl) ?_
 refine x_region (by kernel_rfl) ?_
 refine w_run 1 [.cells ((cL cPrune_state) a0 ++ [rfv false a1 1 2]), rfb cHeld a1] rfl (by kernel_rfl) ?_
 refine w_end (by kernel_rfl) ?_
 refine then_n ?_
 refine go_same ?_
 refine x_seq (by kernel_rfl) ?_
 refine x_seq (by kernel_rfl) ?_
 refine x_region (by kernel_rfl) ?_
 refine w_run 2 [.cells ((cL cPrune_state) a0 ++ [rfv false a1 1 2]), rfb cHeld a1] rfl (by kernel_rfl) ?_
 refine w_end (by kernel_rfl) ?_
 refine then_n ?_
 refine go_same ?_
 refine x_cond (b0 := false) (by kernel_rfl) (by kernel_rfl) ?_
 refine x_skip (.inl (by kernel_rfl)) ?_
 refine then_n ?_
 refine go_same ?_
 refine x_join (fun fr H => ∃ (p193 : Sl Int) (g192 : Nat) (g194 : Bool), fr = [.any, .any, .any, ownv (cI .i64) 2 g192 1 p193, .any, .any, .any, .bool false, .any, .any, .any, .any, .any, .any, .any, .bool false, .any, .any, .any, .any, .any, .any, .any, .any, .any] ∧ H = [.cells ((cL cPrune_state) a0 ++ [rfv false a1 1 2]), rfb cHeld a1, .room g192 g194] ∧ prune_Book_States_J1 p193 = some r) (by kernel_rfl) (fun fr H ⟨p193, g192, g194, e1, e2, hF⟩ => ?_) (fun hJ1 => ?_)
 ·subst e1 e2
  refine x_seq (by kernel_rfl) ?_
  refine x_region (by kernel_rfl) ?_
  refine w_run 2 [.cells ((cL cPrune_state) a0 ++ [rfv false a1 1 2]), rfb cHeld a1, .room g192 g194] rfl (by kernel_rfl) ?_
  refine w_end (by kernel_rfl) ?_
  refine then_n ?_
  refine go_same ?_
  refine x_ret (by kernel_rfl) ?_
  have e := Option.some.inj hF
  subst e
  exact fin_sh [0, 1] (.inl rfl) (by kernel_rfl) (by kernel_rfl) (by kernel_rfl) (by kernel_rfl) (tight_sl low_cI) (shh (b0 := .cells ((cL cPrune_state) a0 ++ [rfv false a1 1 2])) (by kernel_rfl) (shb_cells (by kernel_rfl) (by kernel_rfl) (tights_app (tights_lows ((low_cL low_cPrune_state) _)) (tights_cons rfl rfl))) (shh (b0 := rfb cHeld a1) (by kernel_rfl) (NoRef.shb (noref_rfb low_cHeld _)) shh_nil)) (And.intro rfl rfl)
 ·refine x_seq (by kernel_rfl) ?_
  refine x_region (by kernel_rfl) ?_
  refine w_run 6 [.cells ((cL cPrune_state) a0 ++ [rfv false a1 1 2]), rfb cHeld a1] rfl (by kernel_rfl) ?_
  refine w_end (by kernel_rfl) ?_
  refine then_n ?_
  refine go_same ?_
  refine x_block (by kernel_rfl) ?_
  refine x_loop (fun d fr H => ∃ (x221 : (Sl Int) × Int) (g207 : Nat) (g210 : Option Bool) (g211 : Bool), fr = [.any, .any, .any, ownv (cI .i64) 2 g207 1 x221.1, .any, .any, .any, .bool false, .any, .any, .any, .any, sl cPrune_state a0, .int .i64 (a0.l.length : Int), .int .i64 x221.2, junkB g210, .any, .any, .any, .any, .any, .any, .any, .any, .any] ∧ H = [.cells ((cL cPrune_state) a0 ++ [rfv false a1 1 2]), rfb cHeld a1, .room g207 g211] ∧ loopN (prune_Book_States_B221 a0) d x221 = some r) (by kernel_rfl) (fun fr H ⟨x221, g207, g210, g211, e1, e2, hF⟩ => loop_no hF) (fun d221 fr H ⟨x221, g207, g210, g211, e1, e2, hF⟩ => ?_) (VS.trans (VS.thaw (cI .i64) 3 1 ⟨true, true, []⟩ (by kernel_rfl) rfl (fun _ => rfl)) (VS.same2 33525623 (by kernel_rfl) (by kernel_rfl))) ⟨(⟨true, true, []⟩, 0), 1, none, false, rfl, rfl, hF⟩
  subst e1 e2
  have hF := loop_in hF
  refine x_seq (by kernel_rfl) ?_
  refine x_region (by kernel_rfl) ?_
  refine w_run 1 [.cells ((cL cPrune_state) a0 ++ [rfv false a1 1 2]), rfb cHeld a1, .room g207 g211] rfl (by kernel_rfl) ?_
  refine w_end (by kernel_rfl) ?_
  refine then_n ?_
  refine go_same ?_
  refine x_seq (by kernel_rfl) ?_
  refine ite_elim hF (fun hc1 hF => ?_) (fun hc1 hF => ?_)
  ·refine x_set 15 (b := true) (by kernel_rfl) hc1 ?_
   refine x_cond (b0 := true) (by kernel_rfl) (by kernel_rfl) ?_
   refine x_skip (.inl (by kernel_rfl)) ?_
   refine then_n ?_
   refine go_same ?_
   refine x_seq (by kernel_rfl) ?_
   refine x_block (by kernel_rfl) ?_
   refine x_seq (by kernel_rfl) ?_
   refine x_region (by kernel_rfl) ?_
   refine bind_elim hF (fun y224 hy224 hF => w_iaddr cPrune_state (sz := 2) hy224 (by kernel_rfl) (by decide) len_cPrune_state ?_)
   refine w_elem cPrune_state 0 (t := 63) (v := .agg (cPrune_state y224)) (sz := 2) (z := 2) hy224 (by kernel_rfl) (by kernel_rfl) len_cPrune_state (by decide) (by decide) ?_
   refine w_run 4 [.cells ((cL cPrune_state) a0 ++ [rfv false a1 1 2]), rfb cHeld a1, .room g207 g211, .cells (cPrune_state y224)] rfl (by kernel_rfl) ?_
   refine w_end (by kernel_rfl) ?_
   refine then_n ?_
   refine go_same ?_
   refine x_region (by kernel_rfl) ?_
   refine w_run 3 [.cells ((cL cPrune_state) a0 ++ [rfv false a1 1 2]), rfb cHeld a1, .room g207 g211, .cells (cPrune_state y224)] rfl (by kernel_rfl) ?_
   refine w_frz (v := sl (cI .i64) (⟨false, true, [y224.number]⟩ : Sl Int)) (by kernel_rfl) ?_
   refine bind_elim hF (fun y225 hy225 hF => w_app (cI .i64) (e := 3) (sz := 1) (l0 := 2) (real := g211) (ver := g207) (x := x221.1) (ys := (⟨false, true, [y224.number]⟩ : Sl Int).l) hy225 (by kernel_rfl) (by decide) (gives_sl (x := (⟨false, true, [y224.number]⟩ : Sl Int)) (by kernel_rfl) (fun _ => rfl)) (room_at (by kernel_rfl)) ?_)
   refine w_run 6 [.cells ((cL cPrune_state) a0 ++ [rfv false a1 1 2]), rfb cHeld a1, .room (g207 + 1) (g211 || !((⟨false, true, [y224.number]⟩ : Sl Int).l.length == 0)), .cells (cPrune_state y224)] rfl (by kernel_rfl) ?_
   refine w_end (by kernel_rfl) ?_
   refine block_n ?_
   refine then_n ?_
   refine go_same ?_
   refine x_region (by kernel_rfl) ?_
   refine w_run 2 [.cells ((cL cPrune_state) a0 ++ [rfv false a1 1 2]), rfb cHeld a1, .room (g207 + 1) (g211 || !((⟨false, true, [y224.number]⟩ : Sl Int).l.length == 0)), .cells (cPrune_state y224)] rfl (by kernel_rfl) ?_
   refine w_end (by kernel_rfl) ?_
   refine then_n ?_
   exact x_back (VS.sh [0, 1, 2] 33525623 (by kernel_rfl) (by kernel_rfl) (by kernel_rfl) (tights_at [3, 12] (by kernel_rfl) (by exact ⟨(tight_own low_cI), (tight_sl low_cPrune_state), trivial⟩)) (shh (b0 := .cells ((cL cPrune_state) a0 ++ [rfv false a1 1 2])) (by kernel_rfl) (shb_cells (by kernel_rfl) (by kernel_rfl) (tights_app (tights_lows ((low_cL low_cPrune_state) _)) (tights_cons rfl rfl))) (shh (b0 := rfb cHeld a1) (by kernel_rfl) (NoRef.shb (noref_rfb low_cHeld _)) (shh (b0 := .room (g207 + 1) (g211 || !((⟨false, true, [y224.number]⟩ : Sl Int).l.length == 0))) (by kernel_rfl) shb_room shh_nil)))) ⟨(y225, iAdd .i64 x221.2 1), (g207 + 1), (some true), (g211 || !((⟨false, true, [y224.number]⟩ : Sl Int).l.length == 0)), rfl, rfl, hF⟩
  ·refine x_set 15 (b := false) (by kernel_rfl) hc1 ?_
   refine x_cond (b0 := false) (by kernel_rfl) (by kernel_rfl) ?_
   refine x_exit (by kernel_rfl) ?_
   refine then_e ?_
   refine then_e ?_
   refine block_e ?_
   refine then_n ?_
   exact x_to hJ1 (VS.same2 33521527 (by kernel_rfl) (by kernel_rfl)) ⟨x221.1, g207, g211, rfl, rfl, hF⟩
end Go.Proofs.Ytbdomlbmbcnaeaa
