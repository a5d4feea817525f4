/- The library's slices.Compact over blobs, in place: what it comes to. Printed by main.py (COMP=1), the end by hand. -/
import Derived.Test.YtbdomlbmbcnaeaaSort
import Derived.Test.YtbdomlbmbcnaeaaAbnC
namespace Go.Proofs.Ytbdomlbmbcnaeaa
open Go.Abs
set_option maxRecDepth 100000
attribute [local irreducible] ev evAt evW evList evOp evRes EvCall VS aop aload astore AX.then AX.inBlock kRun kRunQ aput evRows
set_option linter.unusedVariables false
def slices_Compact_api_Held_api_Held_J43 (a0 : Sl Held) : Option (Sl Held) :=
  (frzR (a0.nl && a0.l.isEmpty) 0 a0.l.length a0).bind fun y773 => some y773
def slices_Compact_api_Held_api_Held_J82 (a0 : Sl Held) (p1478 : Sl Held) (p1479 : Int) : Option (Sl Held) :=
  (cutR a0.l.length (some p1479) none).bind fun y1482 => (clearR (a0.nl && a0.l.isEmpty) (0 + y1482.1) y1482.2 p1478 ⟨0, 0⟩).bind fun y1483 => (cutR a0.l.length none (some p1479)).bind fun y1485 => (frzR (a0.nl && a0.l.isEmpty) (0 + y1485.1) y1485.2 y1483).bind fun y1486 => some y1486
def slices_Compact_api_Held_api_Held_J85 (k1527 : ((Sl Held) × Int × Int) → Option (Sl Held)) (x1527 : (Sl Held) × Int × Int) (p1534 : Sl Held) (p1535 : Int) : Option (Sl Held) :=
  k1527 (p1534, p1535, iAdd .i64 x1527.2.2 1)
def slices_Compact_api_Held_api_Held_B1527 (a0 : Sl Held) (y1421 : Nat × Nat) (k1527 : ((Sl Held) × Int × Int) → Option (Sl Held)) (x1527 : (Sl Held) × Int × Int) : Option (Sl Held) :=
  if iLt x1527.2.2 (y1421.2 : Int) = true then (idxR (0 + y1421.1) y1421.2 x1527.1.l x1527.2.2).bind fun y1539 => (idxR (0 + y1421.1) y1421.2 x1527.1.l (iSub .i64 x1527.2.2 1)).bind fun y1540 => if eqHeld y1539 y1540 = true then slices_Compact_api_Held_api_Held_J85 k1527 x1527 x1527.1 x1527.2.1 else (idxR (0 + y1421.1) y1421.2 x1527.1.l x1527.2.2).bind fun y1541 => (idxR 0 a0.l.length x1527.1.l x1527.2.1).bind fun y1542 => slices_Compact_api_Held_api_Held_J85 k1527 x1527 (x1527.1.put (0 + x1527.2.1.toNat) y1541) (iAdd .i64 x1527.2.1 1) else slices_Compact_api_Held_api_Held_J82 a0 x1527.1 x1527.2.1
def slices_Compact_api_Held_api_Held_B1288 (a0 : Sl Held) (k1288 : Int → Option (Sl Held)) (x1288 : Int) : Option (Sl Held) :=
  if iLt x1288 (a0.l.length : Int) = true then (idxR 0 a0.l.length a0.l x1288).bind fun y1418 => (idxR 0 a0.l.length a0.l (iSub .i64 x1288 1)).bind fun y1419 => if eqHeld y1418 y1419 = true then (cutR a0.l.length (some x1288) none).bind fun y1421 => loopN (slices_Compact_api_Held_api_Held_B1527 a0 y1421) FUEL (a0, x1288, 1) else k1288 (iAdd .i64 x1288 1) else slices_Compact_api_Held_api_Held_J43 a0
def slices_Compact_api_Held_api_Held (a0 : Sl Held) : Option (Sl Held) :=
  if iLt (a0.l.length : Int) 2 = true then (frzR (a0.nl && a0.l.isEmpty) 0 a0.l.length a0).bind fun y2 => some y2 else loopN (slices_Compact_api_Held_api_Held_B1288 a0) FUEL 1
theorem slices_Compact_api_Held_api_Held_ev {ex : Bool} {a0 : Sl Held} {r : (Sl Held)} (hF : slices_Compact_api_Held_api_Held a0 = some r) : EvCall Try.prog T G0 32 [rfv ex a0 0 2] [rfb cHeld a0] (fun v H' => v = sl cHeld r ∧ H' = [.dead]) := by
 refine xc Try.func32 ?_
 refine xq ?_
 refine wh 1 ?_
 refine we ?_
 refine ng ?_
 refine xs ?_
 refine xq ?_
 refine wh 3 ?_
 refine we ?_
 refine ng ?_
 refine ite_elim hF (fun hc1 hF => ?_) (fun hc1 hF => ?_)
 ·refine kT 8 hc1 ?_
  refine xT ?_
  refine xq ?_
  refine wh 2 ?_
  refine we ?_
  refine ng ?_
  refine xt ?_
  refine then_r ?_
  refine bind_elim hF (fun y2 hy2 hF => ?_)
  have e := Option.some.inj hF
  subst e
  exact fin_vs2 (.inl rfl) (by kernel_rfl) (VS.trans (VS.frzS cHeld (ex := ex) (l := 0) (sz := 2) hy2 (by kernel_rfl) (by kernel_rfl) len_cHeld) (VS.sh [0] 0 (by kernel_rfl) (by kernel_rfl) (by kernel_rfl) (tights_at [0] (by kernel_rfl) (by exact ⟨(tight_sl low_cHeld), trivial⟩)) (shh (b0 := .dead) (by kernel_rfl) (shb_dead (by kernel_rfl)) shh_nil))) (And.intro rfl rfl)
 refine kF 8 hc1 ?_
 refine xF ?_
 refine xk ?_
 refine ng ?_
 refine xj (fun fr H => ∃ (g772 : Option Bool), fr = [.ref ex (a0.nl && a0.l.isEmpty) 0 (0 * 2) a0.l.length 2, .any, .any, .any, .any, .any, .any, .any, .bool false, .any, .any, .any, .any, .bool false, .any, .any, .any, .any, .any, .any, .any, .any, .any, .any, .any, junkB g772, .any, .any, .any, .any, .any, .any, .any, .any, .any, .any, .any, .any, .any, .any, .any, .any, .any, .any, .any, .any, .any, .any, .any, .any, .any, .any, .any, .any, .any, .any, .any, .any, .any, .any, .any] ∧ H = [rfb cHeld a0] ∧ slices_Compact_api_Held_api_Held_J43 a0 = some r) (fun fr H ⟨g772, e1, e2, hF⟩ => ?_) (fun hJ43 => ?_)
 ·subst e1 e2
  refine xq ?_
  refine wh 2 ?_
  refine we ?_
  refine ng ?_
  refine xt ?_
  refine bind_elim hF (fun y773 hy773 hF => ?_)
  have e := Option.some.inj hF
  subst e
  exact fin_vs2 (.inl rfl) (by kernel_rfl) (VS.trans (VS.frzS cHeld (ex := ex) (l := 0) (sz := 2) hy773 (by kernel_rfl) (by kernel_rfl) len_cHeld) (VS.sh [0] 0 (by kernel_rfl) (by kernel_rfl) (by kernel_rfl) (tights_at [0] (by kernel_rfl) (by exact ⟨(tight_sl low_cHeld), trivial⟩)) (shh (b0 := .dead) (by kernel_rfl) (shb_dead (by kernel_rfl)) shh_nil))) (And.intro rfl rfl)
 refine xq ?_
 refine wh 1 ?_
 refine we ?_
 refine ng ?_
 refine xb ?_
 refine x_loop (fun d fr H => ∃ (x1288 : Int) (g1029 : Option Bool) (g1030 : Option Bool), fr = [.ref ex (a0.nl && a0.l.isEmpty) 0 (0 * 2) a0.l.length 2, .any, .any, .int .i64 x1288, .any, .any, .any, .any, .bool false, .any, .any, .any, .any, junkB g1029, .any, .any, .any, .any, .any, .any, .any, .any, .any, .any, .any, junkB g1030, .any, .any, .any, .any, .any, .any, .any, .any, .any, .any, .any, .any, .any, .any, .any, .any, .any, .any, .any, .any, .any, .any, .any, .any, .any, .any, .any, .any, .any, .any, .any, .any, .any, .any, .any] ∧ H = [rfb cHeld a0] ∧ loopN (slices_Compact_api_Held_api_Held_B1288 a0) d x1288 = some r) (by kernel_rfl) (fun fr H ⟨x1288, g1029, g1030, e1, e2, hF⟩ => loop_no hF) (fun d1288 fr H ⟨x1288, g1029, g1030, e1, e2, hF⟩ => ?_) (VS.sm 2305843009213693686) ⟨1, none, none, rfl, rfl, hF⟩
 subst e1 e2
 have hF := loop_in hF
 refine xs ?_
 refine xq ?_
 refine wh 4 ?_
 refine we ?_
 refine ng ?_
 refine ite_elim hF (fun hc2 hF => ?_) (fun hc2 hF => ?_)
 ·refine kT 13 hc2 ?_
  refine xT ?_
  refine xk ?_
  refine ng ?_
  refine xs ?_
  refine xb ?_
  refine xs ?_
  refine xd 0 call_ends callMono ?_
  refine wp 2 ?_
  refine bind_elim hF (fun y1418 hy1418 hF => w_siaddr (t := 27) (e := 41) (l := 0) (ex := ex) (nl := (a0.nl && a0.l.isEmpty)) (kd := .i64) (off := 0) (sz := 2) (len := a0.l.length) hy1418 (by kernel_rfl) (by kernel_rfl) (by kernel_rfl) ?_)
  refine w_rload cHeld (l := 0) (t := 41) (sz := 2) (fo := 0) (j := (0 + x1288.toNat)) a0 (v := .agg (cHeld y1418)) (z := 2) (idxR_at hy1418) (by kernel_rfl) (by kernel_rfl) len_cHeld (by kernel_rfl) (by kernel_rfl) (by decide) (by decide) ?_
  refine wp 7 ?_
  refine bind_elim hF (fun y1419 hy1419 hF => w_siaddr (t := 27) (e := 41) (l := 0) (ex := ex) (nl := (a0.nl && a0.l.isEmpty)) (kd := .i64) (off := 0) (sz := 2) (len := a0.l.length) hy1419 (by kernel_rfl) (by kernel_rfl) (by kernel_rfl) ?_)
  refine w_rload cHeld (l := 0) (t := 41) (sz := 2) (fo := 0) (j := (0 + (iSub .i64 x1288 1).toNat)) a0 (v := .agg (cHeld y1419)) (z := 2) (idxR_at hy1419) (by kernel_rfl) (by kernel_rfl) len_cHeld (by kernel_rfl) (by kernel_rfl) (by decide) (by decide) ?_
  refine w_eql (b := eqHeld y1418 y1419) (by kernel_rfl) ?_
  refine we ?_
  refine de ?_
  refine ng ?_
  refine ite_elim hF (fun hc3 hF => ?_) (fun hc3 hF => ?_)
  ·refine kT 25 hc3 ?_
   refine xT ?_
   refine xq ?_
   refine wh 2 ?_
   refine bind_elim hF (fun y1421 hy1421 hF => w_sslice (e := 41) (l := 0) (ex := ex) (nl := (a0.nl && a0.l.isEmpty)) (off := 0) (len := a0.l.length) (sz := 2) hy1421 (by kernel_rfl) (by kernel_rfl) (fun e1420 => ?_))
   refine wh 4 ?_
   refine we ?_
   refine ng ?_
   refine xj (fun fr H => ∃ (p1478 : Sl Held) (p1479 : Int) (g1480 : Option Bool), fr = [.ref ex (a0.nl && a0.l.isEmpty) 0 (0 * 2) a0.l.length 2, .any, .any, .int .i64 p1479, .any, .any, .any, .any, .bool false, .any, .any, .any, .any, .bool true, .any, .any, .any, .any, .any, .any, .any, .any, .any, .any, .any, .bool true, .any, .any, .any, .any, .any, .any, .bool false, .any, .any, .any, .any, .any, .any, .any, .any, .any, .any, .any, junkB g1480, .any, .any, .any, .any, .any, .any, .any, .any, .any, .any, .any, .any, .any, .any, .any, .any] ∧ H = [rfb cHeld p1478] ∧ slices_Compact_api_Held_api_Held_J82 a0 p1478 p1479 = some r) (fun fr H ⟨p1478, p1479, g1480, e1, e2, hF⟩ => ?_) (fun hJ82 => ?_)
   ·subst e1 e2
    refine xq ?_
    refine wh 2 ?_
    refine bind_elim hF (fun y1482 hy1482 hF => w_sslice (e := 41) (l := 0) (ex := ex) (nl := (a0.nl && a0.l.isEmpty)) (off := 0) (len := a0.l.length) (sz := 2) hy1482 (by kernel_rfl) (by kernel_rfl) (fun e1481 => ?_))
    refine bind_elim hF (fun y1483 hy1483 hF => w_clear cHeld (e := 41) (l := 0) (ex := e1481) (off := (0 + y1482.1)) (len := y1482.2) (sz := 2) (z := ⟨0, 0⟩) hy1483 (by kernel_rfl) (by kernel_rfl) (by kernel_rfl) len_cHeld (by kernel_rfl) ?_)
    refine we ?_
    refine ng ?_
    refine xq ?_
    refine wr 2 [rfb cHeld y1483] ?_
    refine bind_elim hF (fun y1485 hy1485 hF => w_sslice (e := 41) (l := 0) (ex := ex) (nl := (a0.nl && a0.l.isEmpty)) (off := 0) (len := a0.l.length) (sz := 2) hy1485 (by kernel_rfl) (by kernel_rfl) (fun e1484 => ?_))
    refine wh 4 ?_
    refine we ?_
    refine ng ?_
    refine xt ?_
    refine block_r ?_
    refine then_r ?_
    refine then_r ?_
    refine block_r ?_
    refine then_r ?_
    refine bind_elim hF (fun y1486 hy1486 hF => ?_)
    have e := Option.some.inj hF
    subst e
    exact fin_vs2 (.inl rfl) (by kernel_rfl) (VS.trans (VS.frzS cHeld (ex := e1484) (l := 0) (sz := 2) hy1486 (by kernel_rfl) (by kernel_rfl) len_cHeld) (VS.sh [0] 0 (by kernel_rfl) (by kernel_rfl) (by kernel_rfl) (tights_at [0] (by kernel_rfl) (by exact ⟨(tight_sl low_cHeld), trivial⟩)) (shh (b0 := .dead) (by kernel_rfl) (shb_dead (by kernel_rfl)) shh_nil))) (And.intro rfl rfl)
   refine xq ?_
   refine wh 1 ?_
   refine we ?_
   refine ng ?_
   refine xb ?_
   refine x_loop (fun d fr H => ∃ (x1527 : (Sl Held) × Int × Int) (g1505 : Option Bool) (g1506 : Option Bool), fr = [.ref ex (a0.nl && a0.l.isEmpty) 0 (0 * 2) a0.l.length 2, .any, .any, .int .i64 x1527.2.1, .ref e1420 (a0.nl && a0.l.isEmpty) 0 ((0 + y1421.1) * 2) y1421.2 2, .int .i64 x1527.2.2, .any, .any, .bool false, .any, .any, .any, .any, .bool true, .any, .any, .any, .any, .any, .any, .any, .any, .any, .any, .any, .bool true, .any, .any, .any, .any, .any, .any, junkB g1505, .any, .any, .any, .any, .any, .any, .any, .any, .any, .any, .any, junkB g1506, .any, .any, .any, .any, .any, .any, .any, .any, .any, .any, .any, .any, .any, .any, .any, .any] ∧ H = [rfb cHeld x1527.1] ∧ loopN (slices_Compact_api_Held_api_Held_B1527 a0 y1421) d x1527 = some r) (by kernel_rfl) (fun fr H ⟨x1527, g1505, g1506, e1, e2, hF⟩ => loop_no hF) (fun d1527 fr H ⟨x1527, g1505, g1506, e1, e2, hF⟩ => ?_) (VS.sm 2305843009180131014) ⟨(a0, x1288, 1), none, none, rfl, rfl, hF⟩
   subst e1 e2
   have hF := loop_in hF
   refine xs ?_
   refine xq ?_
   refine wh 4 ?_
   refine we ?_
   refine ng ?_
   refine ite_elim hF (fun hc4 hF => ?_) (fun hc4 hF => ?_)
   ·refine kT 32 hc4 ?_
    refine xT ?_
    refine xk ?_
    refine ng ?_
    refine xj (fun fr H => ∃ (p1534 : Sl Held) (p1535 : Int) (g1536 : Option Bool), fr = [.ref ex (a0.nl && a0.l.isEmpty) 0 (0 * 2) a0.l.length 2, .any, .any, .int .i64 p1535, .ref e1420 (a0.nl && a0.l.isEmpty) 0 ((0 + y1421.1) * 2) y1421.2 2, .int .i64 x1527.2.2, .any, .any, .bool false, .any, .any, .any, .any, .bool true, .any, .any, .any, .any, .any, .any, .any, .any, .any, .any, .any, .bool true, .any, .any, .any, .any, .any, .any, .bool true, .any, .any, .any, .any, .any, .any, .any, .any, .any, .any, .any, junkB g1536, .any, .any, .any, .any, .any, .any, .any, .any, .any, .any, .any, .any, .any, .any, .any, .any] ∧ H = [rfb cHeld p1534] ∧ slices_Compact_api_Held_api_Held_J85 (loopN (slices_Compact_api_Held_api_Held_B1527 a0 y1421) d1527) x1527 p1534 p1535 = some r) (fun fr H ⟨p1534, p1535, g1536, e1, e2, hF⟩ => ?_) (fun hJ85 => ?_)
    ·subst e1 e2
     refine xr ?_
     refine wh 3 ?_
     refine we ?_
     refine then_n ?_
     exact x_back (VS.sm 2305825416994086598) ⟨(p1534, p1535, iAdd .i64 x1527.2.2 1), (some true), g1536, rfl, rfl, hF⟩
    refine xb ?_
    refine xs ?_
    refine xd 0 call_ends callMono ?_
    refine wp 2 ?_
    refine bind_elim hF (fun y1539 hy1539 hF => w_siaddr (t := 27) (e := 41) (l := 0) (ex := e1420) (nl := (a0.nl && a0.l.isEmpty)) (kd := .i64) (off := (0 + y1421.1)) (sz := 2) (len := y1421.2) hy1539 (by kernel_rfl) (by kernel_rfl) (by kernel_rfl) ?_)
    refine w_rload cHeld (l := 0) (t := 41) (sz := 2) (fo := 0) (j := ((0 + y1421.1) + x1527.2.2.toNat)) x1527.1 (v := .agg (cHeld y1539)) (z := 2) (idxR_at hy1539) (by kernel_rfl) (by kernel_rfl) len_cHeld (by kernel_rfl) (by kernel_rfl) (by decide) (by decide) ?_
    refine wp 7 ?_
    refine bind_elim hF (fun y1540 hy1540 hF => w_siaddr (t := 27) (e := 41) (l := 0) (ex := e1420) (nl := (a0.nl && a0.l.isEmpty)) (kd := .i64) (off := (0 + y1421.1)) (sz := 2) (len := y1421.2) hy1540 (by kernel_rfl) (by kernel_rfl) (by kernel_rfl) ?_)
    refine w_rload cHeld (l := 0) (t := 41) (sz := 2) (fo := 0) (j := ((0 + y1421.1) + (iSub .i64 x1527.2.2 1).toNat)) x1527.1 (v := .agg (cHeld y1540)) (z := 2) (idxR_at hy1540) (by kernel_rfl) (by kernel_rfl) len_cHeld (by kernel_rfl) (by kernel_rfl) (by decide) (by decide) ?_
    refine w_neq (b := eqHeld y1539 y1540) (by kernel_rfl) ?_
    refine we ?_
    refine de ?_
    refine ng ?_
    refine ite_elim hF (fun hc5 hF => ?_) (fun hc5 hF => ?_)
    ·refine kF 44 (show (!(eqHeld y1539 y1540)) = false by rw [hc5]; rfl) ?_
     refine xF ?_
     refine xk ?_
     refine block_n ?_
     refine then_n ?_
     exact x_to hJ85 (VS.sm 2305843004885163718) ⟨x1527.1, x1527.2.1, (some false), rfl, rfl, hF⟩
    refine kT 44 (show (!(eqHeld y1539 y1540)) = true by rw [hc5]; rfl) ?_
    refine xT ?_
    refine xq ?_
    refine wh 4 ?_
    refine bind_elim hF (fun y1541 hy1541 hF => w_siaddr (t := 27) (e := 41) (l := 0) (ex := e1420) (nl := (a0.nl && a0.l.isEmpty)) (kd := .i64) (off := (0 + y1421.1)) (sz := 2) (len := y1421.2) hy1541 (by kernel_rfl) (by kernel_rfl) (by kernel_rfl) ?_)
    refine w_rload cHeld (l := 0) (t := 41) (sz := 2) (fo := 0) (j := ((0 + y1421.1) + x1527.2.2.toNat)) x1527.1 (v := .agg (cHeld y1541)) (z := 2) (idxR_at hy1541) (by kernel_rfl) (by kernel_rfl) len_cHeld (by kernel_rfl) (by kernel_rfl) (by decide) (by decide) ?_
    refine bind_elim hF (fun y1542 hy1542 hF => w_siaddr (t := 27) (e := 41) (l := 0) (ex := ex) (nl := (a0.nl && a0.l.isEmpty)) (kd := .i64) (off := 0) (sz := 2) (len := a0.l.length) hy1542 (by kernel_rfl) (by kernel_rfl) (by kernel_rfl) ?_)
    refine w_rstore cHeld (l := 0) (sz := 2) (fo := 0) (j := (0 + x1527.2.1.toNat)) x1527.1 y1541 (v := .agg (cHeld y1541)) (vs := cHeld y1541) (z := 2) (idxR_at hy1542) (by kernel_rfl) (by kernel_rfl) (len_cHeld _) (by kernel_rfl) len_cHeld (splice_all ((len_cHeld _).trans (len_cHeld _).symm)) (by decide) ?_
    refine we ?_
    refine ng ?_
    refine xr ?_
    refine wr 3 [rfb cHeld (x1527.1.put (0 + x1527.2.1.toNat) y1541)] ?_
    refine we ?_
    refine block_n ?_
    refine then_n ?_
    exact x_to hJ85 (VS.sm 2305843004885163718) ⟨x1527.1.put (0 + x1527.2.1.toNat) y1541, iAdd .i64 x1527.2.1 1, (some true), rfl, rfl, hF⟩
   refine kF 32 hc4 ?_
   refine xF ?_
   refine xe ?_
   refine then_e ?_
   refine then_e ?_
   refine block_e ?_
   refine then_n ?_
   exact x_to hJ82 (VS.sm 2305825412699119350) ⟨x1527.1, x1527.2.1, g1506, rfl, rfl, hF⟩
  refine kF 25 hc3 ?_
  refine xF ?_
  refine xk ?_
  refine block_n ?_
  refine ng ?_
  refine xr ?_
  refine wh 3 ?_
  refine we ?_
  refine then_n ?_
  exact x_back (VS.sm 2305843009213693686) ⟨iAdd .i64 x1288 1, (some true), (some false), rfl, rfl, hF⟩
 refine kF 13 hc2 ?_
 refine xF ?_
 refine xe ?_
 refine then_e ?_
 refine then_e ?_
 refine block_e ?_
 refine then_n ?_
 exact x_to hJ43 (VS.sm 2305843009180131070) ⟨g1030, rfl, rfl, hF⟩
def compactHeld (x : Sl Held) : Option (Sl Held) := slices_Compact_api_Held_api_Held x
theorem compactHeld_ev {ex : Bool} {b x r : Sl Held} (h1 : b.l.length = x.l.length) (h2 : b.nl = x.nl) (h : compactHeld b = some r) : EvCall Try.prog T G0 32 [rfv ex x 0 2] [rfb cHeld b] (fun v H' => v = sl cHeld r ∧ H' = [.dead]) := by
  have e : rfv ex x 0 2 = rfv ex b 0 2 := by unfold rfv; rw [nl_eq h1 h2, h1]
  rw [e]
  exact slices_Compact_api_Held_api_Held_ev h
end Go.Proofs.Ytbdomlbmbcnaeaa
