/- What each function of these laws comes to. Printed by main.py; no conditions. -/
import Derived.Test.YtbdomlbmbcnaeaaSort
import Derived.Test.YtbdomlbmbcnaeaaAwk
import Derived.Test.YtbdomlbmbcnaeaaAbnC
import Derived.Test.YtbdomlbmbcnaeaaDecA
import Derived.Test.YtbdomlbmbcnaeaaComp
import Derived.Test.YtbdomlbmbcnaeaaDecO
import Derived.Test.YtbdomlbmbcnaeaaDecD
namespace Go.Proofs.Ytbdomlbmbcnaeaa
open Go.Abs
set_option maxRecDepth 100000
attribute [local irreducible] ev evAt evW evList evOp evRes EvCall VS aop aload astore AX.then AX.inBlock kRun kRunQ aput evRows
set_option linter.unusedVariables false
def r01_End_J1 (p18250 : Int) : Option Int :=
  some p18250
def r01_End_B18289 (a0 : List UInt8) (k18289 : Int → Option Int) (x18289 : Int) : Option Int :=
  if iLt x18289 (a0.length : Int) = true then (idxB a0 x18289).bind fun y18296 => if iGe y18296 48 = true then (idxB a0 x18289).bind fun y18297 => if iLe y18297 57 = true then k18289 (iAdd .i64 x18289 1) else r01_End_J1 x18289 else r01_End_J1 x18289 else r01_End_J1 x18289
def r01_End (a0 : List UInt8) (a1 : Int) : Option Int :=
  loopN (r01_End_B18289 a0) FUEL a1
theorem r01_End_ev {a0 : List UInt8} {a1 : Int} {r : Int} (hF : r01_End a0 a1 = some r) : EvCall Try.prog T G0 55 [.str a0, .int .i64 a1] [] (fun v H' => v = .int .i64 r ∧ H' = []) := by
 refine xc Try.func55 ?_
 refine xq ?_
 refine wh 1 ?_
 refine we ?_
 refine ng ?_
 refine xj (fun fr H => ∃ (p18250 : Int) (g18251 : Option Bool) (g18252 : Option Bool) (g18253 : Option Bool) (g18254 : Option Bool) (g18255 : Option Bool) (g18256 : Option Bool), fr = [.any, .int .i64 p18250, .any, .any, .any, .any, .any, .any, junkB g18251, junkB g18252, .any, .any, .any, junkB g18253, junkB g18254, junkB g18255, .any, .any, .any, junkB g18256, .bool false, .any, .any, .any] ∧ H = [] ∧ r01_End_J1 p18250 = some r) (fun fr H ⟨p18250, g18251, g18252, g18253, g18254, g18255, g18256, e1, e2, hF⟩ => ?_) (fun hJ1 => ?_)
 ·subst e1 e2
  refine xq ?_
  refine wh 2 ?_
  refine we ?_
  refine ng ?_
  refine xt ?_
  have e := Option.some.inj hF
  subst e
  exact fE [] (.inl rfl) rfl ⟨rfl, rfl⟩
 refine xb ?_
 refine x_loop (fun d fr H => ∃ (x18289 : Int) (g18266 : Option Bool) (g18267 : Option Bool) (g18268 : Option Bool) (g18269 : Option Bool) (g18270 : Option Bool) (g18271 : Option Bool) (g18272 : Option Bool), fr = [.str a0, .int .i64 x18289, .any, .any, .any, .any, .any, .any, junkB g18266, junkB g18267, .any, .any, .any, junkB g18268, junkB g18269, junkB g18270, .any, .any, .any, junkB g18271, junkB g18272, .any, .any, .any] ∧ H = [] ∧ loopN (r01_End_B18289 a0) d x18289 = some r) (by kernel_rfl) (fun fr H ⟨x18289, g18266, g18267, g18268, g18269, g18270, g18271, g18272, e1, e2, hF⟩ => loop_no hF) (fun d18289 fr H ⟨x18289, g18266, g18267, g18268, g18269, g18270, g18271, g18272, e1, e2, hF⟩ => ?_) (VS.sm 16777212) ⟨a1, none, none, none, none, none, none, none, rfl, rfl, hF⟩
 subst e1 e2
 have hF := loop_in hF
 refine xs ?_
 refine xq ?_
 refine wh 5 ?_
 refine ite_elim hF (fun hc1 hF => ?_) (fun hc1 hF => ?_)
 ·refine wT 9 hc1 ?_
  refine wh 7 ?_
  refine bind_elim hF (fun y18296 hy18296 hF => w_idx (by kernel_rfl) hy18296 ?_)
  refine wh 11 ?_
  refine ite_elim hF (fun hc2 hF => ?_) (fun hc2 hF => ?_)
  ·refine wT 15 hc2 ?_
   refine wh 13 ?_
   refine bind_elim hF (fun y18297 hy18297 hF => w_idx (by kernel_rfl) hy18297 ?_)
   refine wh 16 ?_
   refine we ?_
   refine ng ?_
   refine ite_elim hF (fun hc3 hF => ?_) (fun hc3 hF => ?_)
   ·refine kT 20 hc3 ?_
    refine xT ?_
    refine xk ?_
    refine ng ?_
    refine xb ?_
    refine xr ?_
    refine wh 3 ?_
    refine we ?_
    refine block_n ?_
    refine then_n ?_
    exact x_back (VS.sm 16777212) ⟨iAdd .i64 x18289 1, (some (iLt x18289 (a0.length : Int))), (some true), (some (iGe y18296 48)), (some (iGe y18296 48)), (some true), (some (iLe y18297 57)), (some true), rfl, rfl, hF⟩
   refine kF 20 hc3 ?_
   refine xF ?_
   refine xe ?_
   refine then_e ?_
   refine then_e ?_
   refine block_e ?_
   refine then_n ?_
   exact x_to hJ1 (VS.sm 15728637) ⟨x18289, (some (iLt x18289 (a0.length : Int))), (some true), (some (iGe y18296 48)), (some (iGe y18296 48)), (some true), (some (iLe y18297 57)), rfl, rfl, hF⟩
  refine wF 15 hc2 ?_
  refine wh 16 ?_
  refine we ?_
  refine ng ?_
  refine xF ?_
  refine xe ?_
  refine then_e ?_
  refine then_e ?_
  refine block_e ?_
  refine then_n ?_
  exact x_to hJ1 (VS.sm 15728637) ⟨x18289, (some (iLt x18289 (a0.length : Int))), (some true), (some (iGe y18296 48)), (some (iGe y18296 48)), (some false), none, rfl, rfl, hF⟩
 refine wF 9 hc1 ?_
 refine wh 16 ?_
 refine we ?_
 refine ng ?_
 refine xF ?_
 refine xe ?_
 refine then_e ?_
 refine then_e ?_
 refine block_e ?_
 refine then_n ?_
 exact x_to hJ1 (VS.sm 15728637) ⟨x18289, (some (iLt x18289 (a0.length : Int))), (some false), none, (some false), (some false), none, rfl, rfl, hF⟩
def r01_bad_J1  : Option Int :=
  some 0
def r01_bad (a0 : List UInt8) (a1 : Int) (a2 : Int) (a3 : Int) : Option Int :=
  if iGe a2 (a0.length : Int) = true then some 5 else if (a2 == a1) = true then some 6 else (idxB a0 a2).bind fun y18302 => if (y18302 != a3) = true then some 6 else if iGt a2 (iAdd .i64 a1 1) = true then (idxB a0 a1).bind fun y18308 => if (y18308 == 48) = true then some 6 else r01_bad_J1 else r01_bad_J1
theorem r01_bad_ev {a0 : List UInt8} {a1 : Int} {a2 : Int} {a3 : Int} {r : Int} (hF : r01_bad a0 a1 a2 a3 = some r) : EvCall Try.prog T G0 56 [.str a0, .int .i64 a1, .int .i64 a2, .int .u8 a3] [] (fun v H' => v = .int .i64 r ∧ H' = []) := by
 refine xc Try.func56 ?_
 refine xq ?_
 refine wh 1 ?_
 refine we ?_
 refine ng ?_
 refine xs ?_
 refine xq ?_
 refine wh 4 ?_
 refine we ?_
 refine ng ?_
 refine ite_elim hF (fun hc1 hF => ?_) (fun hc1 hF => ?_)
 ·refine kT 12 hc1 ?_
  refine xT ?_
  refine xq ?_
  refine wh 1 ?_
  refine we ?_
  refine ng ?_
  refine xt ?_
  refine then_r ?_
  have e := Option.some.inj hF
  subst e
  exact fE [] (.inl rfl) rfl ⟨rfl, rfl⟩
 refine kF 12 hc1 ?_
 refine xF ?_
 refine xk ?_
 refine ng ?_
 refine xs ?_
 refine xq ?_
 refine wh 4 ?_
 refine ite_elim hF (fun hc2 hF => ?_) (fun hc2 hF => ?_)
 ·refine wT 16 hc2 ?_
  refine wh 10 ?_
  refine we ?_
  refine ng ?_
  refine xT ?_
  refine xq ?_
  refine wh 1 ?_
  refine we ?_
  refine ng ?_
  refine xt ?_
  refine then_r ?_
  have e := Option.some.inj hF
  subst e
  exact fE [] (.inl rfl) rfl ⟨rfl, rfl⟩
 refine wF 16 hc2 ?_
 refine wh 6 ?_
 refine bind_elim hF (fun y18302 hy18302 hF => w_idx (by kernel_rfl) hy18302 ?_)
 refine wh 10 ?_
 refine we ?_
 refine ng ?_
 refine ite_elim hF (fun hc3 hF => ?_) (fun hc3 hF => ?_)
 ·refine kT 22 hc3 ?_
  refine xT ?_
  refine xq ?_
  refine wh 1 ?_
  refine we ?_
  refine ng ?_
  refine xt ?_
  refine then_r ?_
  have e := Option.some.inj hF
  subst e
  exact fE [] (.inl rfl) rfl ⟨rfl, rfl⟩
 refine kF 22 hc3 ?_
 refine xF ?_
 refine xk ?_
 refine ng ?_
 refine xj (fun fr H => ∃ (g18305 : Option Bool) (g18306 : Option Bool), fr = [.any, .any, .any, .any, .any, .any, .any, .any, .any, .any, .any, .any, .bool false, .any, .any, .bool (a2 == a1), .bool false, .any, .any, .any, .any, .bool (y18302 != a3), .bool false, .any, .any, .any, .bool (iGt a2 (iAdd .i64 a1 1)), junkB g18305, .any, .any, .any, junkB g18306, .bool false] ∧ H = [] ∧ r01_bad_J1 = some r) (fun fr H ⟨g18305, g18306, e1, e2, hF⟩ => ?_) (fun hJ1 => ?_)
 ·subst e1 e2
  refine xq ?_
  refine wh 1 ?_
  refine we ?_
  refine ng ?_
  refine xt ?_
  have e := Option.some.inj hF
  subst e
  exact fE [] (.inl rfl) rfl ⟨rfl, rfl⟩
 refine xq ?_
 refine wh 5 ?_
 refine ite_elim hF (fun hc4 hF => ?_) (fun hc4 hF => ?_)
 ·refine wT 27 hc4 ?_
  refine wh 7 ?_
  refine bind_elim hF (fun y18308 hy18308 hF => w_idx (by kernel_rfl) hy18308 ?_)
  refine wh 10 ?_
  refine we ?_
  refine ng ?_
  refine ite_elim hF (fun hc5 hF => ?_) (fun hc5 hF => ?_)
  ·refine kT 32 hc5 ?_
   refine xT ?_
   refine xq ?_
   refine wh 1 ?_
   refine we ?_
   refine ng ?_
   refine xt ?_
   refine then_r ?_
   have e := Option.some.inj hF
   subst e
   exact fE [] (.inl rfl) rfl ⟨rfl, rfl⟩
  refine kF 32 hc5 ?_
  refine xF ?_
  refine xk ?_
  refine then_n ?_
  exact x_to hJ1 (VS.sm 4221464575) ⟨(some true), (some (y18308 == 48)), rfl, rfl, hF⟩
 refine wF 27 hc4 ?_
 refine wh 10 ?_
 refine we ?_
 refine ng ?_
 refine xF ?_
 refine xk ?_
 refine then_n ?_
 exact x_to hJ1 (VS.sm 4221464575) ⟨(some false), none, rfl, rfl, hF⟩
def r01_ReadNumber_J4 (y18209 : Int) (p18232 : Int) : Option (Int × Int × Int) :=
  some (p18232, iAdd .i64 y18209 1, 0)
def r01_ReadNumber_J3 (a1 : Int) (p18205 : Int) (y18209 : Int) (p18230 : Int) : Option (Int × Int × Int) :=
  if (p18205 == a1) = true then if (p18230 == (-9223372036854775808)) = true then some (0, 0, 4) else r01_ReadNumber_J4 y18209 (iNeg .i64 p18230) else r01_ReadNumber_J4 y18209 p18230
def r01_ReadNumber_B18247 (a0 : List UInt8) (a1 : Int) (p18205 : Int) (y18209 : Int) (k18247 : (Int × Int) → Option (Int × Int × Int)) (x18247 : Int × Int) : Option (Int × Int × Int) :=
  if iLt x18247.2 y18209 = true then (idxB a0 x18247.2).bind fun y18249 => if iLt x18247.1 (iQuo .i64 (iAdd .i64 (-9223372036854775808) (iSub .i64 (IntKind.wrap .i64 y18249) 48)) 10) = true then some (0, 0, 4) else k18247 (iSub .i64 (iMul .i64 x18247.1 10) (iSub .i64 (IntKind.wrap .i64 y18249) 48), iAdd .i64 x18247.2 1) else r01_ReadNumber_J3 a1 p18205 y18209 x18247.1
def r01_ReadNumber_J2 (a0 : List UInt8) (a1 : Int) (p18205 : Int) (y18209 : Int) : Option (Int × Int × Int) :=
  loopN (r01_ReadNumber_B18247 a0 a1 p18205 y18209) FUEL (0, p18205)
def r01_ReadNumber_J1 (a0 : List UInt8) (a1 : Int) (p18205 : Int) : Option (Int × Int × Int) :=
  (r01_End a0 p18205).bind fun y18209 => (r01_bad a0 p18205 y18209 59).bind fun y18210 => if (y18210 != 0) = true then some (0, 0, y18210) else if iGt p18205 a1 = true then (cutS a0 (some p18205) (some y18209)).bind fun y18251 => if (y18251 == [48]) = true then some (0, 0, 6) else r01_ReadNumber_J2 a0 a1 p18205 y18209 else r01_ReadNumber_J2 a0 a1 p18205 y18209
def r01_ReadNumber (a0 : List UInt8) (a1 : Int) : Option (Int × Int × Int) :=
  if iLt a1 0 = true then some (0, 0, 3) else if iGt a1 (a0.length : Int) = true then some (0, 0, 3) else if iLt a1 (a0.length : Int) = true then (idxB a0 a1).bind fun y18253 => if (y18253 == 45) = true then r01_ReadNumber_J1 a0 a1 (iAdd .i64 a1 1) else r01_ReadNumber_J1 a0 a1 a1 else r01_ReadNumber_J1 a0 a1 a1
theorem r01_ReadNumber_ev {a0 : List UInt8} {a1 : Int} {r : Int × Int × Int} (hF : r01_ReadNumber a0 a1 = some r) : EvCall Try.prog T G0 42 [.str a0, .int .i64 a1] [] (fun v H' => v = .tup [.int .i64 r.1, .int .i64 r.2.1, .int .i64 r.2.2] ∧ H' = []) := by
 refine xc Try.func42 ?_
 refine xq ?_
 refine wh 3 ?_
 refine we ?_
 refine ng ?_
 refine xs ?_
 refine xq ?_
 refine wh 3 ?_
 refine ite_elim hF (fun hc1 hF => ?_) (fun hc1 hF => ?_)
 ·refine wT 15 hc1 ?_
  refine wh 8 ?_
  refine we ?_
  refine ng ?_
  refine xT ?_
  refine xq ?_
  refine wh 3 ?_
  refine we ?_
  refine ng ?_
  refine xt ?_
  refine then_r ?_
  have e := Option.some.inj hF
  subst e
  exact fE [] (.inl rfl) (low_tup (lows_cons rfl (lows_cons rfl (lows_cons rfl rfl)))) ⟨rfl, rfl⟩
 refine wF 15 hc1 ?_
 refine wh 8 ?_
 refine we ?_
 refine ng ?_
 refine ite_elim hF (fun hc2 hF => ?_) (fun hc2 hF => ?_)
 ·refine kT 20 hc2 ?_
  refine xT ?_
  refine xq ?_
  refine wh 3 ?_
  refine we ?_
  refine ng ?_
  refine xt ?_
  refine then_r ?_
  have e := Option.some.inj hF
  subst e
  exact fE [] (.inl rfl) (low_tup (lows_cons rfl (lows_cons rfl (lows_cons rfl rfl)))) ⟨rfl, rfl⟩
 refine kF 20 hc2 ?_
 refine xF ?_
 refine xk ?_
 refine ng ?_
 refine xq ?_
 refine wh 2 ?_
 refine we ?_
 refine ng ?_
 refine xj (fun fr H => ∃ (p18205 : Int) (g18206 : Option Bool) (g18207 : Option Bool) (g18208 : Option Bool), fr = [.str a0, .int .i64 a1, .any, .any, .any, .any, .any, .int .i64 p18205, .any, .any, .any, .any, .any, .any, .bool (iLt a1 0), .bool false, .any, .any, .any, .bool (iGt a1 (a0.length : Int)), .bool false, .any, .any, .any, .any, .bool (iLt a1 (a0.length : Int)), junkB g18206, .any, .any, .any, junkB g18207, junkB g18208, .any, .any, .any, .any, .any, .any, .any, .any, .any, .any, .any, .any, .any, .any, .any, .any, .any, .any, .any, .any, .any, .any, .any, .any, .any, .any, .any, .any, .any, .any, .any, .any, .any, .any, .any, .any, .any, .any, .any, .any, .any, .any, .any, .any, .any, .any, .any, .any, .any, .any, .any, .any] ∧ H = [] ∧ r01_ReadNumber_J1 a0 a1 p18205 = some r) (fun fr H ⟨p18205, g18206, g18207, g18208, e1, e2, hF⟩ => ?_) (fun hJ1 => ?_)
 ·subst e1 e2
  refine xq ?_
  refine wh 2 ?_
  refine bind_elim hF (fun y18209 hy18209 hF => uC (r01_End_ev hy18209) (lows_cons rfl (lows_cons rfl rfl)) rfl ?_)
  refine wh 4 ?_
  refine we ?_
  refine ng ?_
  refine xq ?_
  refine wh 3 ?_
  refine bind_elim hF (fun y18210 hy18210 hF => uC (r01_bad_ev hy18210) (lows_cons rfl (lows_cons rfl (lows_cons rfl (lows_cons rfl rfl)))) rfl ?_)
  refine wh 5 ?_
  refine we ?_
  refine ng ?_
  refine xs ?_
  refine xq ?_
  refine wh 2 ?_
  refine we ?_
  refine ng ?_
  refine ite_elim hF (fun hc3 hF => ?_) (fun hc3 hF => ?_)
  ·refine kT 42 hc3 ?_
   refine xT ?_
   refine xq ?_
   refine wh 4 ?_
   refine we ?_
   refine ng ?_
   refine xt ?_
   refine then_r ?_
   have e := Option.some.inj hF
   subst e
   exact fE [] (.inl rfl) (low_tup (lows_cons rfl (lows_cons rfl (lows_cons rfl rfl)))) ⟨rfl, rfl⟩
  refine kF 42 hc3 ?_
  refine xF ?_
  refine xk ?_
  refine ng ?_
  refine xj (fun fr H => ∃ (g18213 : Option Bool) (g18214 : Option Bool), fr = [.str a0, .int .i64 a1, .any, .any, .any, .any, .any, .int .i64 p18205, .int .i64 y18209, .any, .any, .any, .any, .any, .bool (iLt a1 0), .bool false, .any, .any, .any, .bool (iGt a1 (a0.length : Int)), .bool false, .any, .any, .any, .any, .bool (iLt a1 (a0.length : Int)), junkB g18206, .any, .any, .any, junkB g18207, junkB g18208, .any, .any, .any, .any, .any, .any, .any, .any, .any, .any, .bool false, .any, .any, .any, .bool (iGt p18205 a1), junkB g18213, .any, .any, .any, .any, junkB g18214, .bool false, .any, .any, .any, .any, .any, .any, .any, .any, .any, .any, .any, .any, .any, .any, .any, .any, .any, .any, .any, .any, .any, .any, .any, .any, .any, .any, .any, .any, .any, .any] ∧ H = [] ∧ r01_ReadNumber_J2 a0 a1 p18205 y18209 = some r) (fun fr H ⟨g18213, g18214, e1, e2, hF⟩ => ?_) (fun hJ2 => ?_)
  ·subst e1 e2
   refine xq ?_
   refine wh 1 ?_
   refine we ?_
   refine ng ?_
   refine xj (fun fr H => ∃ (p18230 : Int) (g18231 : Option Bool), fr = [.any, .int .i64 a1, .any, .any, .any, .any, .any, .int .i64 p18205, .int .i64 y18209, .any, .int .i64 p18230, .any, .any, .any, .bool (iLt a1 0), .bool false, .any, .any, .any, .bool (iGt a1 (a0.length : Int)), .bool false, .any, .any, .any, .any, .bool (iLt a1 (a0.length : Int)), junkB g18206, .any, .any, .any, junkB g18207, junkB g18208, .any, .any, .any, .any, .any, .any, .any, .any, .any, .any, .bool false, .any, .any, .any, .bool (iGt p18205 a1), junkB g18213, .any, .any, .any, .any, junkB g18214, .bool false, .any, .any, .any, .bool false, .any, .any, .any, .any, .any, .any, .any, .any, .any, .any, .any, junkB g18231, .any, .any, .any, .any, .any, .any, .any, .any, .any, .any, .any, .any, .any, .any] ∧ H = [] ∧ r01_ReadNumber_J3 a1 p18205 y18209 p18230 = some r) (fun fr H ⟨p18230, g18231, e1, e2, hF⟩ => ?_) (fun hJ3 => ?_)
   ·subst e1 e2
    refine xj (fun fr H => ∃ (p18232 : Int) (g18233 : Option Bool) (g18234 : Option Bool), fr = [.any, .any, .any, .any, .any, .any, .any, .any, .int .i64 y18209, .any, .int .i64 p18232, .any, .any, .any, .bool (iLt a1 0), .bool false, .any, .any, .any, .bool (iGt a1 (a0.length : Int)), .bool false, .any, .any, .any, .any, .bool (iLt a1 (a0.length : Int)), junkB g18206, .any, .any, .any, junkB g18207, junkB g18208, .any, .any, .any, .any, .any, .any, .any, .any, .any, .any, .bool false, .any, .any, .any, .bool (iGt p18205 a1), junkB g18213, .any, .any, .any, .any, junkB g18214, .bool false, .any, .any, .any, .bool false, .any, .any, .any, .any, .any, .any, .any, .any, .any, .any, .any, junkB g18231, .any, .any, .any, .any, .any, .any, junkB g18233, .any, junkB g18234, .any, .any, .any, .any, .any] ∧ H = [] ∧ r01_ReadNumber_J4 y18209 p18232 = some r) (fun fr H ⟨p18232, g18233, g18234, e1, e2, hF⟩ => ?_) (fun hJ4 => ?_)
    ·subst e1 e2
     refine xq ?_
     refine wh 6 ?_
     refine we ?_
     refine ng ?_
     refine xt ?_
     have e := Option.some.inj hF
     subst e
     exact fE [] (.inl rfl) (low_tup (lows_cons rfl (lows_cons rfl (lows_cons rfl rfl)))) ⟨rfl, rfl⟩
    refine xq ?_
    refine wh 3 ?_
    refine we ?_
    refine ng ?_
    refine ite_elim hF (fun hc4 hF => ?_) (fun hc4 hF => ?_)
    ·refine kT 76 hc4 ?_
     refine xT ?_
     refine xs ?_
     refine xq ?_
     refine wh 2 ?_
     refine we ?_
     refine ng ?_
     refine ite_elim hF (fun hc5 hF => ?_) (fun hc5 hF => ?_)
     ·refine kT 78 hc5 ?_
      refine xT ?_
      refine xq ?_
      refine wh 3 ?_
      refine we ?_
      refine ng ?_
      refine xt ?_
      refine then_r ?_
      refine then_r ?_
      have e := Option.some.inj hF
      subst e
      exact fE [] (.inl rfl) (low_tup (lows_cons rfl (lows_cons rfl (lows_cons rfl rfl)))) ⟨rfl, rfl⟩
     refine kF 78 hc5 ?_
     refine xF ?_
     refine xk ?_
     refine ng ?_
     refine xr ?_
     refine wh 3 ?_
     refine we ?_
     refine then_n ?_
     exact x_to hJ4 (VS.sm 19342222660182213529123583) ⟨iNeg .i64 p18230, (some true), (some false), rfl, rfl, hF⟩
    refine kF 76 hc4 ?_
    refine xF ?_
    refine xk ?_
    refine then_n ?_
    exact x_to hJ4 (VS.sm 19342222660182213529123583) ⟨p18230, (some false), none, rfl, rfl, hF⟩
   refine xq ?_
   refine wh 2 ?_
   refine we ?_
   refine ng ?_
   refine xb ?_
   refine x_loop (fun d fr H => ∃ (x18247 : Int × Int) (g18239 : Option Bool) (g18240 : Option Bool), fr = [.str a0, .int .i64 a1, .any, .any, .any, .any, .any, .int .i64 p18205, .int .i64 y18209, .any, .int .i64 x18247.1, .int .i64 x18247.2, .any, .any, .bool (iLt a1 0), .bool false, .any, .any, .any, .bool (iGt a1 (a0.length : Int)), .bool false, .any, .any, .any, .any, .bool (iLt a1 (a0.length : Int)), junkB g18206, .any, .any, .any, junkB g18207, junkB g18208, .any, .any, .any, .any, .any, .any, .any, .any, .any, .any, .bool false, .any, .any, .any, .bool (iGt p18205 a1), junkB g18213, .any, .any, .any, .any, junkB g18214, .bool false, .any, .any, .any, junkB g18239, .any, .any, .any, .any, .any, .any, .any, .any, .any, .any, .any, junkB g18240, .any, .any, .any, .any, .any, .any, .any, .any, .any, .any, .any, .any, .any, .any] ∧ H = [] ∧ loopN (r01_ReadNumber_B18247 a0 a1 p18205 y18209) d x18247 = some r) (by kernel_rfl) (fun fr H ⟨x18247, g18239, g18240, e1, e2, hF⟩ => loop_no hF) (fun d18247 fr H ⟨x18247, g18239, g18240, e1, e2, hF⟩ => ?_) (VS.sm 19342813100107760310628988) ⟨(0, p18205), none, none, rfl, rfl, hF⟩
   subst e1 e2
   have hF := loop_in hF
   refine xs ?_
   refine xq ?_
   refine wh 3 ?_
   refine we ?_
   refine ng ?_
   refine ite_elim hF (fun hc6 hF => ?_) (fun hc6 hF => ?_)
   ·refine kT 57 hc6 ?_
    refine xT ?_
    refine xk ?_
    refine ng ?_
    refine xs ?_
    refine xb ?_
    refine xq ?_
    refine wh 2 ?_
    refine bind_elim hF (fun y18249 hy18249 hF => w_idx (by kernel_rfl) hy18249 ?_)
    refine wh 6 ?_
    refine we ?_
    refine ng ?_
    refine xs ?_
    refine xq ?_
    refine wh 5 ?_
    refine we ?_
    refine ng ?_
    refine ite_elim hF (fun hc7 hF => ?_) (fun hc7 hF => ?_)
    ·refine kT 69 hc7 ?_
     refine xT ?_
     refine xq ?_
     refine wh 3 ?_
     refine we ?_
     refine ng ?_
     refine xt ?_
     refine then_r ?_
     refine block_r ?_
     refine then_r ?_
     refine then_r ?_
     refine block_r ?_
     refine then_r ?_
     have e := Option.some.inj hF
     subst e
     exact fE [] (.inl rfl) (low_tup (lows_cons rfl (lows_cons rfl (lows_cons rfl rfl)))) ⟨rfl, rfl⟩
    refine kF 69 hc7 ?_
    refine xF ?_
    refine xk ?_
    refine ng ?_
    refine xr ?_
    refine wh 5 ?_
    refine we ?_
    refine block_n ?_
    refine ng ?_
    refine xr ?_
    refine wh 3 ?_
    refine we ?_
    refine then_n ?_
    exact x_back (VS.sm 19342813100107760310628988) ⟨(iSub .i64 (iMul .i64 x18247.1 10) (iSub .i64 (IntKind.wrap .i64 y18249) 48), iAdd .i64 x18247.2 1), (some true), (some false), rfl, rfl, hF⟩
   refine kF 57 hc6 ?_
   refine xF ?_
   refine xe ?_
   refine then_e ?_
   refine then_e ?_
   refine block_e ?_
   refine then_n ?_
   exact x_to hJ3 (VS.sm 19342222660182213529123453) ⟨x18247.1, g18240, rfl, rfl, hF⟩
  refine xq ?_
  refine wh 4 ?_
  refine ite_elim hF (fun hc8 hF => ?_) (fun hc8 hF => ?_)
  ·refine wT 47 hc8 ?_
   refine wh 7 ?_
   refine bind_elim hF (fun y18251 hy18251 hF => w_cut (by kernel_rfl) hy18251 ?_)
   refine wh 10 ?_
   refine we ?_
   refine ng ?_
   refine ite_elim hF (fun hc9 hF => ?_) (fun hc9 hF => ?_)
   ·refine kT 53 hc9 ?_
    refine xT ?_
    refine xq ?_
    refine wh 3 ?_
    refine we ?_
    refine ng ?_
    refine xt ?_
    refine then_r ?_
    have e := Option.some.inj hF
    subst e
    exact fE [] (.inl rfl) (low_tup (lows_cons rfl (lows_cons rfl (lows_cons rfl rfl)))) ⟨rfl, rfl⟩
   refine kF 53 hc9 ?_
   refine xF ?_
   refine xk ?_
   refine then_n ?_
   exact x_to hJ2 (VS.sm 19342813104752097426357884) ⟨(some true), (some (y18251 == [48])), rfl, rfl, hF⟩
  refine wF 47 hc8 ?_
  refine wh 10 ?_
  refine we ?_
  refine ng ?_
  refine xF ?_
  refine xk ?_
  refine then_n ?_
  exact x_to hJ2 (VS.sm 19342813104752097426357884) ⟨(some false), none, rfl, rfl, hF⟩
 refine xq ?_
 refine wh 5 ?_
 refine ite_elim hF (fun hc10 hF => ?_) (fun hc10 hF => ?_)
 ·refine wT 26 hc10 ?_
  refine wh 7 ?_
  refine bind_elim hF (fun y18253 hy18253 hF => w_idx (by kernel_rfl) hy18253 ?_)
  refine wh 10 ?_
  refine we ?_
  refine ng ?_
  refine ite_elim hF (fun hc11 hF => ?_) (fun hc11 hF => ?_)
  ·refine kT 31 hc11 ?_
   refine xT ?_
   refine xr ?_
   refine wh 3 ?_
   refine we ?_
   refine then_n ?_
   exact x_to hJ1 (VS.sm 19342813113834066760122236) ⟨iAdd .i64 a1 1, (some true), (some (y18253 == 45)), (some true), rfl, rfl, hF⟩
  refine kF 31 hc11 ?_
  refine xF ?_
  refine xk ?_
  refine then_n ?_
  exact x_to hJ1 (VS.sm 19342813113834066760122236) ⟨a1, (some true), (some (y18253 == 45)), (some false), rfl, rfl, hF⟩
 refine wF 26 hc10 ?_
 refine wh 10 ?_
 refine we ?_
 refine ng ?_
 refine xF ?_
 refine xk ?_
 refine then_n ?_
 exact x_to hJ1 (VS.sm 19342813113834066760122236) ⟨a1, (some false), none, (some false), rfl, rfl, hF⟩
def r01_open (a0 : List UInt8) (a1 : Int) : Option Int :=
  if iLt a1 0 = true then some 3 else if iGt a1 (a0.length : Int) = true then some 3 else if (a1 == (a0.length : Int)) = true then some 5 else (idxB a0 a1).bind fun y18257 => if (y18257 != 40) = true then some 6 else some 0
theorem r01_open_ev {a0 : List UInt8} {a1 : Int} {r : Int} (hF : r01_open a0 a1 = some r) : EvCall Try.prog T G0 72 [.str a0, .int .i64 a1] [] (fun v H' => v = .int .i64 r ∧ H' = []) := by
 refine xc Try.func72 ?_
 refine xq ?_
 refine wh 1 ?_
 refine we ?_
 refine ng ?_
 refine xs ?_
 refine xq ?_
 refine wh 3 ?_
 refine ite_elim hF (fun hc1 hF => ?_) (fun hc1 hF => ?_)
 ·refine wT 7 hc1 ?_
  refine wh 8 ?_
  refine we ?_
  refine ng ?_
  refine xT ?_
  refine xq ?_
  refine wh 1 ?_
  refine we ?_
  refine ng ?_
  refine xt ?_
  refine then_r ?_
  have e := Option.some.inj hF
  subst e
  exact fE [] (.inl rfl) rfl ⟨rfl, rfl⟩
 refine wF 7 hc1 ?_
 refine wh 8 ?_
 refine we ?_
 refine ng ?_
 refine ite_elim hF (fun hc2 hF => ?_) (fun hc2 hF => ?_)
 ·refine kT 12 hc2 ?_
  refine xT ?_
  refine xq ?_
  refine wh 1 ?_
  refine we ?_
  refine ng ?_
  refine xt ?_
  refine then_r ?_
  have e := Option.some.inj hF
  subst e
  exact fE [] (.inl rfl) rfl ⟨rfl, rfl⟩
 refine kF 12 hc2 ?_
 refine xF ?_
 refine xk ?_
 refine ng ?_
 refine xs ?_
 refine xq ?_
 refine wh 4 ?_
 refine we ?_
 refine ng ?_
 refine ite_elim hF (fun hc3 hF => ?_) (fun hc3 hF => ?_)
 ·refine kT 16 hc3 ?_
  refine xT ?_
  refine xq ?_
  refine wh 1 ?_
  refine we ?_
  refine ng ?_
  refine xt ?_
  refine then_r ?_
  have e := Option.some.inj hF
  subst e
  exact fE [] (.inl rfl) rfl ⟨rfl, rfl⟩
 refine kF 16 hc3 ?_
 refine xF ?_
 refine xk ?_
 refine ng ?_
 refine xs ?_
 refine xq ?_
 refine wh 2 ?_
 refine bind_elim hF (fun y18257 hy18257 hF => w_idx (by kernel_rfl) hy18257 ?_)
 refine wh 4 ?_
 refine we ?_
 refine ng ?_
 refine ite_elim hF (fun hc4 hF => ?_) (fun hc4 hF => ?_)
 ·refine kT 20 hc4 ?_
  refine xT ?_
  refine xq ?_
  refine wh 1 ?_
  refine we ?_
  refine ng ?_
  refine xt ?_
  refine then_r ?_
  have e := Option.some.inj hF
  subst e
  exact fE [] (.inl rfl) rfl ⟨rfl, rfl⟩
 refine kF 20 hc4 ?_
 refine xF ?_
 refine xk ?_
 refine ng ?_
 refine xq ?_
 refine wh 1 ?_
 refine we ?_
 refine ng ?_
 refine xt ?_
 have e := Option.some.inj hF
 subst e
 exact fE [] (.inl rfl) rfl ⟨rfl, rfl⟩
def r01_ReadNumbers_J1 (a0 : List UInt8) (p18311 : Int) (p18313 : Sl Int) : Option ((Sl Int) × Int × Int) :=
  if iGe p18311 (a0.length : Int) = true then some (⟨true, true, []⟩, 0, 5) else some (p18313.weak, iAdd .i64 p18311 1, 0)
def r01_ReadNumbers_B18367 (a0 : List UInt8) (k18367 : (Int × (Sl Int)) → Option ((Sl Int) × Int × Int)) (x18367 : Int × (Sl Int)) : Option ((Sl Int) × Int × Int) :=
  if iLt x18367.1 (a0.length : Int) = true then (idxB a0 x18367.1).bind fun y18371 => if (y18371 != 41) = true then if ((x18367.2.l.length : Int) == 512) = true then some (⟨true, true, []⟩, 0, 4) else (r01_ReadNumber a0 x18367.1).bind fun y18372 => if (y18372.2.2 != 0) = true then some (⟨true, true, []⟩, 0, y18372.2.2) else (appL 8 x18367.2 (⟨false, true, [y18372.1]⟩ : Sl Int).l).bind fun y18373 => k18367 (y18372.2.1, y18373) else r01_ReadNumbers_J1 a0 x18367.1 x18367.2 else r01_ReadNumbers_J1 a0 x18367.1 x18367.2
def r01_ReadNumbers (a0 : List UInt8) (a1 : Int) : Option ((Sl Int) × Int × Int) :=
  (r01_open a0 a1).bind fun y18256 => if (y18256 != 0) = true then some (⟨true, true, []⟩, 0, y18256) else loopN (r01_ReadNumbers_B18367 a0) FUEL (iAdd .i64 a1 1, ⟨true, true, []⟩)
theorem r01_ReadNumbers_ev {a0 : List UInt8} {a1 : Int} {r : (Sl Int) × Int × Int} (hF : r01_ReadNumbers a0 a1 = some r) : EvCall Try.prog T G0 57 [.str a0, .int .i64 a1] [] (fun v H' => v = .tup [sl (cI .i64) r.1, .int .i64 r.2.1, .int .i64 r.2.2] ∧ H' = []) := by
 refine xc Try.func57 ?_
 refine xq ?_
 refine wh 3 ?_
 refine we ?_
 refine ng ?_
 refine xq ?_
 refine wh 2 ?_
 refine bind_elim hF (fun y18256 hy18256 hF => uC (r01_open_ev hy18256) (lows_cons rfl (lows_cons rfl rfl)) rfl ?_)
 refine wh 4 ?_
 refine we ?_
 refine ng ?_
 refine xs ?_
 refine xq ?_
 refine wh 2 ?_
 refine we ?_
 refine ng ?_
 refine ite_elim hF (fun hc1 hF => ?_) (fun hc1 hF => ?_)
 ·refine kT 16 hc1 ?_
  refine xT ?_
  refine xq ?_
  refine wh 4 ?_
  refine we ?_
  refine ng ?_
  refine xt ?_
  refine then_r ?_
  have e := Option.some.inj hF
  subst e
  exact fE [] (.inl rfl) (low_tup (lows_cons (low_sl low_cI) (lows_cons rfl (lows_cons rfl rfl)))) ⟨rfl, rfl⟩
 refine kF 16 hc1 ?_
 refine xF ?_
 refine xk ?_
 refine ng ?_
 refine xq ?_
 refine wh 1 ?_
 refine we ?_
 refine ng ?_
 refine xq ?_
 refine wh 3 ?_
 refine we ?_
 refine ng ?_
 refine xj (fun fr H => ∃ (p18311 : Int) (p18313 : Sl Int) (g18312 : Nat) (g18314 : Option Bool) (g18315 : Option Bool) (g18316 : Option Bool) (g18317 : Option Bool) (g18318 : Option Bool) (g18319 : Bool), fr = [.str a0, .int .i64 p18311, .any, .any, .any, .any, .any, .any, ownv (cI .i64) 0 g18312 1 p18313, .any, .any, .any, .any, .any, .any, .any, .bool false, .any, .any, .any, .any, .any, .any, junkB g18314, junkB g18315, .any, .any, .any, junkB g18316, .bool false, .any, .any, junkB g18317, .any, .any, .any, .any, .any, .any, .any, .any, junkB g18318, .any, .any, .any, .any, .any, .any, .any, .any, .any, .any, .any, .any, .any] ∧ H = [.room g18312 g18319] ∧ r01_ReadNumbers_J1 a0 p18311 p18313 = some r) (fun fr H ⟨p18311, p18313, g18312, g18314, g18315, g18316, g18317, g18318, g18319, e1, e2, hF⟩ => ?_) (fun hJ1 => ?_)
 ·subst e1 e2
  refine xs ?_
  refine xq ?_
  refine wh 4 ?_
  refine we ?_
  refine ng ?_
  refine ite_elim hF (fun hc2 hF => ?_) (fun hc2 hF => ?_)
  ·refine kT 51 hc2 ?_
   refine xT ?_
   refine xq ?_
   refine wh 3 ?_
   refine we ?_
   refine ng ?_
   refine xt ?_
   refine then_r ?_
   have e := Option.some.inj hF
   subst e
   exact fE [] (.inl rfl) (low_tup (lows_cons (low_sl low_cI) (lows_cons rfl (lows_cons rfl rfl)))) ⟨rfl, rfl⟩
  refine kF 51 hc2 ?_
  refine xF ?_
  refine xk ?_
  refine ng ?_
  refine xq ?_
  refine wh 6 ?_
  refine we ?_
  refine ng ?_
  refine xt ?_
  have e := Option.some.inj hF
  subst e
  exact fE [] (.inl rfl) (low_tup (lows_cons (low_sl low_cI) (lows_cons rfl (lows_cons rfl rfl)))) ⟨rfl, rfl⟩
 refine xb ?_
 refine x_loop (fun d fr H => ∃ (x18367 : Int × (Sl Int)) (g18342 : Nat) (g18344 : Option Bool) (g18345 : Option Bool) (g18346 : Option Bool) (g18347 : Option Bool) (g18348 : Option Bool) (g18349 : Option Bool) (g18350 : Bool), fr = [.str a0, .int .i64 x18367.1, .any, .any, .any, .any, .any, .any, ownv (cI .i64) 0 g18342 1 x18367.2, .any, .any, .any, .any, .any, .any, .any, .bool false, .any, .any, .any, .any, .any, .any, junkB g18344, junkB g18345, .any, .any, .any, junkB g18346, junkB g18347, .any, .any, junkB g18348, .any, .any, .any, .any, .any, .any, .any, .any, junkB g18349, .any, .any, .any, .any, .any, .any, .any, .any, .any, .any, .any, .any, .any] ∧ H = [.room g18342 g18350] ∧ loopN (r01_ReadNumbers_B18367 a0) d x18367 = some r) (by kernel_rfl) (fun fr H ⟨x18367, g18342, g18344, g18345, g18346, g18347, g18348, g18349, g18350, e1, e2, hF⟩ => loop_no hF) (fun d18367 fr H ⟨x18367, g18342, g18344, g18345, g18346, g18347, g18348, g18349, g18350, e1, e2, hF⟩ => ?_) (VS.trans (VS.thaw (cI .i64) 8 1 ⟨true, true, []⟩ (by kernel_rfl) rfl (fun _ => rfl)) (VS.sm 36028797018898172)) ⟨(iAdd .i64 a1 1, ⟨true, true, []⟩), 1, none, none, none, none, none, none, false, rfl, rfl, hF⟩
 subst e1 e2
 have hF := loop_in hF
 refine xs ?_
 refine xq ?_
 refine wh 5 ?_
 refine ite_elim hF (fun hc3 hF => ?_) (fun hc3 hF => ?_)
 ·refine wT 24 hc3 ?_
  refine wh 7 ?_
  refine bind_elim hF (fun y18371 hy18371 hF => w_idx (by kernel_rfl) hy18371 ?_)
  refine wh 10 ?_
  refine we ?_
  refine ng ?_
  refine ite_elim hF (fun hc4 hF => ?_) (fun hc4 hF => ?_)
  ·refine kT 29 hc4 ?_
   refine xT ?_
   refine xk ?_
   refine ng ?_
   refine xb ?_
   refine xs ?_
   refine xq ?_
   refine wh 3 ?_
   refine we ?_
   refine ng ?_
   refine ite_elim hF (fun hc5 hF => ?_) (fun hc5 hF => ?_)
   ·refine kT 32 hc5 ?_
    refine xT ?_
    refine xq ?_
    refine wh 3 ?_
    refine we ?_
    refine ng ?_
    refine xt ?_
    refine then_r ?_
    refine block_r ?_
    refine then_r ?_
    refine block_r ?_
    refine then_r ?_
    have e := Option.some.inj hF
    subst e
    exact fE [] (.inl rfl) (low_tup (lows_cons (low_sl low_cI) (lows_cons rfl (lows_cons rfl rfl)))) ⟨rfl, rfl⟩
   refine kF 32 hc5 ?_
   refine xF ?_
   refine xk ?_
   refine ng ?_
   refine xq ?_
   refine wh 2 ?_
   refine bind_elim hF (fun y18372 hy18372 hF => uC (r01_ReadNumber_ev hy18372) (lows_cons rfl (lows_cons rfl rfl)) (low_tup (lows_cons rfl (lows_cons rfl (lows_cons rfl rfl)))) ?_)
   refine wh 10 ?_
   refine we ?_
   refine ng ?_
   refine xs ?_
   refine xq ?_
   refine wh 2 ?_
   refine we ?_
   refine ng ?_
   refine ite_elim hF (fun hc6 hF => ?_) (fun hc6 hF => ?_)
   ·refine kT 41 hc6 ?_
    refine xT ?_
    refine xq ?_
    refine wh 4 ?_
    refine we ?_
    refine ng ?_
    refine xt ?_
    refine then_r ?_
    refine block_r ?_
    refine then_r ?_
    refine block_r ?_
    refine then_r ?_
    have e := Option.some.inj hF
    subst e
    exact fE [] (.inl rfl) (low_tup (lows_cons (low_sl low_cI) (lows_cons rfl (lows_cons rfl rfl)))) ⟨rfl, rfl⟩
   refine kF 41 hc6 ?_
   refine xF ?_
   refine xk ?_
   refine ng ?_
   refine xq ?_
   refine wh 2 ?_
   refine w_frz (v := sl (cI .i64) (⟨false, true, [y18372.1]⟩ : Sl Int)) (by kernel_rfl) ?_
   refine bind_elim hF (fun y18373 hy18373 hF => w_app (cI .i64) (e := 3) (sz := 1) (l0 := 0) (real := g18350) (ver := g18342) (x := x18367.2) (ys := (⟨false, true, [y18372.1]⟩ : Sl Int).l) hy18373 (by kernel_rfl) (by decide) (gives_sl (x := (⟨false, true, [y18372.1]⟩ : Sl Int)) (by kernel_rfl) (fun _ => rfl)) (room_at (by kernel_rfl)) ?_)
   refine wr 5 [.room (g18342 + 1) (g18350 || !((⟨false, true, [y18372.1]⟩ : Sl Int).l.length == 0))] ?_
   refine we ?_
   refine ng ?_
   refine xr ?_
   refine wh 2 ?_
   refine we ?_
   refine block_n ?_
   refine then_n ?_
   exact x_back (VS.sm 36028797018898172) ⟨(y18372.2.1, y18373), (g18342 + 1), (some (iLt x18367.1 (a0.length : Int))), (some true), (some (y18371 != 41)), (some true), (some false), (some false), (g18350 || !((⟨false, true, [y18372.1]⟩ : Sl Int).l.length == 0)), rfl, rfl, hF⟩
  refine kF 29 hc4 ?_
  refine xF ?_
  refine xe ?_
  refine then_e ?_
  refine then_e ?_
  refine block_e ?_
  refine then_n ?_
  exact x_to hJ1 (VS.sm 36026593163804412) ⟨x18367.1, x18367.2, g18342, (some (iLt x18367.1 (a0.length : Int))), (some true), (some (y18371 != 41)), g18348, g18349, g18350, rfl, rfl, hF⟩
 refine wF 24 hc3 ?_
 refine wh 10 ?_
 refine we ?_
 refine ng ?_
 refine xF ?_
 refine xe ?_
 refine then_e ?_
 refine then_e ?_
 refine block_e ?_
 refine then_n ?_
 exact x_to hJ1 (VS.sm 36026593163804412) ⟨x18367.1, x18367.2, g18342, (some (iLt x18367.1 (a0.length : Int))), (some false), none, g18348, g18349, g18350, rfl, rfl, hF⟩
def r24_readLists_J1 (y18257 : (Sl Int) × Int × Int) (p18346 : Sl Held) : Option ((Sl Held) × Int × Int) :=
  some (p18346.weak, y18257.2.1, 0)
def r24_readLists_B18416 (y18256 : (Sl Int) × Int × Int) (y18257 : (Sl Int) × Int × Int) (k18416 : ((Sl Held) × Int) → Option ((Sl Held) × Int × Int)) (x18416 : (Sl Held) × Int) : Option ((Sl Held) × Int × Int) :=
  if iLt x18416.2 (y18256.1.l.length : Int) = true then (idxL y18256.1.l x18416.2).bind fun y18432 => (idxL y18257.1.l x18416.2).bind fun y18433 => (appL 16 x18416.1 (⟨false, true, [(⟨y18432, y18433⟩ : Held)]⟩ : Sl Held).l).bind fun y18434 => k18416 (y18434, iAdd .i64 x18416.2 1) else r24_readLists_J1 y18257 x18416.1
def r24_readLists (a0 : List UInt8) (a1 : Int) : Option ((Sl Held) × Int × Int) :=
  (r01_ReadNumbers a0 a1).bind fun y18256 => if (y18256.2.2 != 0) = true then some (⟨true, true, []⟩, 0, y18256.2.2) else (r01_ReadNumbers a0 y18256.2.1).bind fun y18257 => if (y18257.2.2 != 0) = true then some (⟨true, true, []⟩, 0, y18257.2.2) else if ((y18256.1.l.length : Int) != (y18257.1.l.length : Int)) = true then some (⟨true, true, []⟩, 0, 6) else loopN (r24_readLists_B18416 y18256 y18257) FUEL (⟨true, true, []⟩, 0)
theorem r24_readLists_ev {a0 : List UInt8} {a1 : Int} {r : (Sl Held) × Int × Int} (hF : r24_readLists a0 a1 = some r) : EvCall Try.prog T G0 43 [.str a0, .int .i64 a1] [] (fun v H' => v = .tup [sl cHeld r.1, .int .i64 r.2.1, .int .i64 r.2.2] ∧ H' = []) := by
 refine xc Try.func43 ?_
 refine xq ?_
 refine wh 3 ?_
 refine we ?_
 refine ng ?_
 refine xq ?_
 refine wh 2 ?_
 refine bind_elim hF (fun y18256 hy18256 hF => uC (r01_ReadNumbers_ev hy18256) (lows_cons rfl (lows_cons rfl rfl)) (low_tup (lows_cons (low_sl low_cI) (lows_cons rfl (lows_cons rfl rfl)))) ?_)
 refine wh 10 ?_
 refine we ?_
 refine ng ?_
 refine xs ?_
 refine xq ?_
 refine wh 2 ?_
 refine we ?_
 refine ng ?_
 refine ite_elim hF (fun hc1 hF => ?_) (fun hc1 hF => ?_)
 ·refine kT 23 hc1 ?_
  refine xT ?_
  refine xq ?_
  refine wh 4 ?_
  refine we ?_
  refine ng ?_
  refine xt ?_
  refine then_r ?_
  have e := Option.some.inj hF
  subst e
  exact fE [] (.inl rfl) (low_tup (lows_cons (low_sl low_cHeld) (lows_cons rfl (lows_cons rfl rfl)))) ⟨rfl, rfl⟩
 refine kF 23 hc1 ?_
 refine xF ?_
 refine xk ?_
 refine ng ?_
 refine xq ?_
 refine wh 2 ?_
 refine bind_elim hF (fun y18257 hy18257 hF => uC (r01_ReadNumbers_ev hy18257) (lows_cons rfl (lows_cons rfl rfl)) (low_tup (lows_cons (low_sl low_cI) (lows_cons rfl (lows_cons rfl rfl)))) ?_)
 refine wh 10 ?_
 refine we ?_
 refine ng ?_
 refine xs ?_
 refine xq ?_
 refine wh 2 ?_
 refine we ?_
 refine ng ?_
 refine ite_elim hF (fun hc2 hF => ?_) (fun hc2 hF => ?_)
 ·refine kT 33 hc2 ?_
  refine xT ?_
  refine xq ?_
  refine wh 4 ?_
  refine we ?_
  refine ng ?_
  refine xt ?_
  refine then_r ?_
  have e := Option.some.inj hF
  subst e
  exact fE [] (.inl rfl) (low_tup (lows_cons (low_sl low_cHeld) (lows_cons rfl (lows_cons rfl rfl)))) ⟨rfl, rfl⟩
 refine kF 33 hc2 ?_
 refine xF ?_
 refine xk ?_
 refine ng ?_
 refine xs ?_
 refine xq ?_
 refine wh 5 ?_
 refine we ?_
 refine ng ?_
 refine ite_elim hF (fun hc3 hF => ?_) (fun hc3 hF => ?_)
 ·refine kT 39 hc3 ?_
  refine xT ?_
  refine xq ?_
  refine wh 3 ?_
  refine we ?_
  refine ng ?_
  refine xt ?_
  refine then_r ?_
  have e := Option.some.inj hF
  subst e
  exact fE [] (.inl rfl) (low_tup (lows_cons (low_sl low_cHeld) (lows_cons rfl (lows_cons rfl rfl)))) ⟨rfl, rfl⟩
 refine kF 39 hc3 ?_
 refine xF ?_
 refine xk ?_
 refine ng ?_
 refine xq ?_
 refine wh 1 ?_
 refine we ?_
 refine ng ?_
 refine xj (fun fr H => ∃ (p18346 : Sl Held) (g18345 : Nat) (g18347 : Bool), fr = [.any, .any, .any, .any, .any, .any, .any, .any, .any, .any, .any, .int .i64 y18257.2.1, .any, ownv cHeld 0 g18345 2 p18346, .any, .any, .any, .any, .any, .any, .any, .any, .any, .bool false, .any, .any, .any, .any, .any, .any, .any, .any, .any, .bool false, .any, .any, .any, .any, .any, .bool false, .any, .any, .any, .bool false, .any, .any, .any, .any, .any, .any, .any, .any, .any, .any, .any, .any, .any, .any, .any, .any] ∧ H = [.room g18345 g18347] ∧ r24_readLists_J1 y18257 p18346 = some r) (fun fr H ⟨p18346, g18345, g18347, e1, e2, hF⟩ => ?_) (fun hJ1 => ?_)
 ·subst e1 e2
  refine xq ?_
  refine wh 5 ?_
  refine we ?_
  refine ng ?_
  refine xt ?_
  have e := Option.some.inj hF
  subst e
  exact fE [] (.inl rfl) (low_tup (lows_cons (low_sl low_cHeld) (lows_cons rfl (lows_cons rfl rfl)))) ⟨rfl, rfl⟩
 refine xq ?_
 refine wh 1 ?_
 refine we ?_
 refine ng ?_
 refine xb ?_
 refine x_loop (fun d fr H => ∃ (x18416 : (Sl Held) × Int) (g18388 : Nat) (g18391 : Option Bool) (g18392 : Bool), fr = [.any, .any, .any, .any, .any, .any, .any, sl (cI .i64) y18256.1, .any, .any, sl (cI .i64) y18257.1, .int .i64 y18257.2.1, .any, ownv cHeld 0 g18388 2 x18416.1, .int .i64 x18416.2, .any, .any, .any, .any, .any, .any, .any, .any, .bool false, .any, .any, .any, .any, .any, .any, .any, .any, .any, .bool false, .any, .any, .any, .any, .any, .bool false, .any, .any, .any, junkB g18391, .any, .any, .any, .any, .any, .any, .any, .any, .any, .any, .any, .any, .any, .any, .any, .any] ∧ H = [.room g18388 g18392] ∧ loopN (r24_readLists_B18416 y18256 y18257) d x18416 = some r) (by kernel_rfl) (fun fr H ⟨x18416, g18388, g18391, g18392, e1, e2, hF⟩ => loop_no hF) (fun d18416 fr H ⟨x18416, g18388, g18391, g18392, e1, e2, hF⟩ => ?_) (VS.trans (VS.thaw cHeld 13 2 ⟨true, true, []⟩ (by kernel_rfl) rfl len_cHeld) (VS.sm 1152920946252682111)) ⟨(⟨true, true, []⟩, 0), 1, none, false, rfl, rfl, hF⟩
 subst e1 e2
 have hF := loop_in hF
 refine xs ?_
 refine xq ?_
 refine wh 4 ?_
 refine we ?_
 refine ng ?_
 refine ite_elim hF (fun hc4 hF => ?_) (fun hc4 hF => ?_)
 ·refine kT 43 hc4 ?_
  refine xT ?_
  refine xk ?_
  refine ng ?_
  refine xs ?_
  refine xb ?_
  refine x_rows 0 2047 [⟨11, [], [], [], []⟩, ⟨12, [], [], [], []⟩] call_ends callMono (by kernel_rfl) (by kernel_rfl) ?_
  refine wp 3 ?_
  refine bind_elim hF (fun y18432 hy18432 hF => uI (cI .i64) 1 hy18432 (fun _ => rfl) ?_)
  refine uE (cI .i64) 0 (t := 3) (v := .int .i64 y18432) 1 1 hy18432 (fun _ => rfl) ?_
  refine wp 7 ?_
  refine bind_elim hF (fun y18433 hy18433 hF => uI (cI .i64) 1 hy18433 (fun _ => rfl) ?_)
  refine uE (cI .i64) 0 (t := 3) (v := .int .i64 y18433) 1 1 hy18433 (fun _ => rfl) ?_
  refine wp 10 ?_
  refine w_frz (v := sl cHeld (⟨false, true, [(⟨y18432, y18433⟩ : Held)]⟩ : Sl Held)) (by kernel_rfl) ?_
  refine we ?_
  refine rows_next ?_
  refine bind_elim hF (fun y18434 hy18434 hF => w_app cHeld (e := 41) (sz := 2) (l0 := 0) (real := g18392) (ver := g18388) (x := x18416.1) (ys := (⟨false, true, [(⟨y18432, y18433⟩ : Held)]⟩ : Sl Held).l) hy18434 (by kernel_rfl) (by decide) (gives_sl (x := (⟨false, true, [(⟨y18432, y18433⟩ : Held)]⟩ : Sl Held)) (by kernel_rfl) len_cHeld) (room_at (by kernel_rfl)) ?_)
  refine we ?_
  refine ⟨⟨(by kernel_rfl), trivial⟩, ?_⟩
  refine we ?_
  refine rows_next ?_
  refine wr 1 [.room (g18388 + 1) (g18392 || !((⟨false, true, [(⟨y18432, y18433⟩ : Held)]⟩ : Sl Held).l.length == 0))] ?_
  refine we ?_
  refine ⟨⟨(by kernel_rfl), trivial⟩, ?_⟩
  refine we ?_
  refine rows_done ?_
  refine de ?_
  refine block_n ?_
  refine ng ?_
  refine xr ?_
  refine wh 3 ?_
  refine we ?_
  refine then_n ?_
  exact x_back (VS.sm 1152920946252682111) ⟨(y18434, iAdd .i64 x18416.2 1), (g18388 + 1), (some true), (g18392 || !((⟨false, true, [(⟨y18432, y18433⟩ : Held)]⟩ : Sl Held).l.length == 0)), rfl, rfl, hF⟩
 refine kF 43 hc4 ?_
 refine xF ?_
 refine xe ?_
 refine then_e ?_
 refine then_e ?_
 refine block_e ?_
 refine then_n ?_
 exact x_to hJ1 (VS.sm 1152912150159677439) ⟨x18416.1, g18388, g18392, rfl, rfl, hF⟩
def r24_Read_J2 (y18258 : (Sl Held) × Int × Int) (p18327 : Sl Affidavitref24_State) : Option (Int ⊕ (Int × (Sl Affidavitref24_State) × (Sl Held))) :=
  some (.inr (0, p18327, y18258.1))
def r24_Read_B18372 (p18254 : Sl Affidavitref24_State) (y18258 : (Sl Held) × Int × Int) (k18372 : (Int × (Sl Affidavitref24_State)) → Option (Int ⊕ (Int × (Sl Affidavitref24_State) × (Sl Held)))) (x18372 : Int × (Sl Affidavitref24_State)) : Option (Int ⊕ (Int × (Sl Affidavitref24_State) × (Sl Held))) :=
  if iLt x18372.1 (p18254.l.length : Int) = true then (idxL p18254.l x18372.1).bind fun y18388 => (idxL p18254.l x18372.1).bind fun y18389 => (r24_Book_Add y18388.N y18389.L x18372.2 y18258.1).bind fun y18390 => if (y18390.1 != 0) = true then some (.inl 6) else k18372 (iAdd .i64 x18372.1 1, y18390.2) else r24_Read_J2 y18258 x18372.2
def r24_Read_J1 (a0 : List UInt8) (p18252 : Int) (p18254 : Sl Affidavitref24_State) : Option (Int ⊕ (Int × (Sl Affidavitref24_State) × (Sl Held))) :=
  (r24_readLists a0 p18252).bind fun y18258 => if (y18258.2.2 != 0) = true then some (.inl y18258.2.2) else if (y18258.2.1 != (a0.length : Int)) = true then some (.inl 6) else (r24_Rise y18258.1).bind fun y18262 => if y18262 = true then if iGt (y18258.1.l.length : Int) 256 = true then some (.inl 6) else loopN (r24_Read_B18372 p18254 y18258) FUEL (0, (⟨true, true, []⟩ : Sl Affidavitref24_State)) else some (.inl 6)
def r24_Read_B18432 (a0 : List UInt8) (y18203 : Int × Int × Int) (k18432 : (Int × (Sl Affidavitref24_State) × Int) → Option (Int ⊕ (Int × (Sl Affidavitref24_State) × (Sl Held)))) (x18432 : Int × (Sl Affidavitref24_State) × Int) : Option (Int ⊕ (Int × (Sl Affidavitref24_State) × (Sl Held))) :=
  if iLt x18432.2.2 y18203.1 = true then (r01_ReadNumber a0 x18432.1).bind fun y18436 => if (y18436.2.2 != 0) = true then some (.inl y18436.2.2) else (r24_readLists a0 y18436.2.1).bind fun y18437 => if (y18437.2.2 != 0) = true then some (.inl y18437.2.2) else (appL 32 x18432.2.1 (⟨false, true, [(⟨y18436.1, y18437.1⟩ : Affidavitref24_State)]⟩ : Sl Affidavitref24_State).l).bind fun y18438 => k18432 (y18437.2.1, y18438, iAdd .i64 x18432.2.2 1) else r24_Read_J1 a0 x18432.1 x18432.2.1
def r24_Read (a0 : List UInt8) : Option (Int ⊕ (Int × (Sl Affidavitref24_State) × (Sl Held))) :=
  (r01_ReadNumber a0 0).bind fun y18203 => if (y18203.2.2 != 0) = true then some (.inl y18203.2.2) else if iLt y18203.1 0 = true then some (.inl 6) else if iGt y18203.1 512 = true then some (.inl 6) else loopN (r24_Read_B18432 a0 y18203) FUEL (y18203.2.1, ⟨true, true, []⟩, 0)
theorem r24_Read_ev {a0 : List UInt8} {r : Int ⊕ (Int × (Sl Affidavitref24_State) × (Sl Held))} (hF : r24_Read a0 = some r) : EvCall Try.prog T G0 23 [.str a0] [] (fun v H' => (Sum.elim (fun x => v = .tup [.nilptr, .int .i64 x] ∧ H' = []) (fun x => v = .tup [.ptr 0 0, .int .i64 x.1] ∧ H' = [.cells ((cL cAffidavitref24_State) x.2.1 ++ (cL cHeld) x.2.2)])) r) := by
 refine xc Try.func23 ?_
 refine xq ?_
 refine wh 2 ?_
 refine we ?_
 refine ng ?_
 refine xq ?_
 refine wh 1 ?_
 refine bind_elim hF (fun y18203 hy18203 hF => uC (r01_ReadNumber_ev hy18203) (lows_cons rfl (lows_cons rfl rfl)) (low_tup (lows_cons rfl (lows_cons rfl (lows_cons rfl rfl)))) ?_)
 refine wh 9 ?_
 refine we ?_
 refine ng ?_
 refine xs ?_
 refine xq ?_
 refine wh 2 ?_
 refine we ?_
 refine ng ?_
 refine ite_elim hF (fun hc1 hF => ?_) (fun hc1 hF => ?_)
 ·refine kT 27 hc1 ?_
  refine xT ?_
  refine xq ?_
  refine wh 3 ?_
  refine we ?_
  refine ng ?_
  refine xt ?_
  refine then_r ?_
  have e := Option.some.inj hF
  subst e
  exact fS [] (.inl rfl) rfl shh_nil ⟨rfl, rfl⟩
 refine kF 27 hc1 ?_
 refine xF ?_
 refine xk ?_
 refine ng ?_
 refine xs ?_
 refine xq ?_
 refine wh 3 ?_
 refine ite_elim hF (fun hc2 hF => ?_) (fun hc2 hF => ?_)
 ·refine wT 31 hc2 ?_
  refine wh 6 ?_
  refine we ?_
  refine ng ?_
  refine xT ?_
  refine xq ?_
  refine wh 2 ?_
  refine we ?_
  refine ng ?_
  refine xt ?_
  refine then_r ?_
  have e := Option.some.inj hF
  subst e
  exact fS [] (.inl rfl) rfl shh_nil ⟨rfl, rfl⟩
 refine wF 31 hc2 ?_
 refine wh 6 ?_
 refine we ?_
 refine ng ?_
 refine ite_elim hF (fun hc3 hF => ?_) (fun hc3 hF => ?_)
 ·refine kT 34 hc3 ?_
  refine xT ?_
  refine xq ?_
  refine wh 2 ?_
  refine we ?_
  refine ng ?_
  refine xt ?_
  refine then_r ?_
  have e := Option.some.inj hF
  subst e
  exact fS [] (.inl rfl) rfl shh_nil ⟨rfl, rfl⟩
 refine kF 34 hc3 ?_
 refine xF ?_
 refine xk ?_
 refine ng ?_
 refine xq ?_
 refine wh 1 ?_
 refine we ?_
 refine ng ?_
 refine xj (fun fr H => ∃ (p18252 : Int) (p18254 : Sl Affidavitref24_State) (g18253 : Nat) (g18255 : Option Bool) (g18256 : Option Bool) (g18257 : Bool), fr = [.str a0, .any, .any, .any, .any, .int .i64 p18252, .any, ownv cAffidavitref24_State 0 g18253 2 p18254, .any, .any, .any, .any, .any, .any, .any, .any, .any, .any, .any, .any, .any, .any, .any, .any, .any, .any, .any, .bool false, .any, .any, .bool (iLt y18203.1 0), .bool false, .any, .bool (iGt y18203.1 512), .bool false, .any, .any, .bool false, .any, .any, .any, .any, .any, .any, .any, .any, .any, .any, junkB g18255, .any, .any, .any, .any, .any, .any, .any, .any, .any, junkB g18256, .any, .any, .any, .any, .any, .any, .any, .any, .any, .any, .any, .any, .any, .any, .any, .any, .any, .any, .any, .any, .any, .any, .any, .any, .any, .any, .any, .any, .any, .any, .any, .any, .any, .any, .any, .any, .any, .any, .any, .any, .any, .any, .any, .any, .any, .any, .any, .any, .any, .any, .any, .any, .any, .any, .any] ∧ H = [.room g18253 g18257] ∧ r24_Read_J1 a0 p18252 p18254 = some r) (fun fr H ⟨p18252, p18254, g18253, g18255, g18256, g18257, e1, e2, hF⟩ => ?_) (fun hJ1 => ?_)
 ·subst e1 e2
  refine xq ?_
  refine wh 2 ?_
  refine bind_elim hF (fun y18258 hy18258 hF => uC (r24_readLists_ev hy18258) (lows_cons rfl (lows_cons rfl rfl)) (low_tup (lows_cons (low_sl low_cHeld) (lows_cons rfl (lows_cons rfl rfl)))) ?_)
  refine wh 10 ?_
  refine we ?_
  refine ng ?_
  refine xs ?_
  refine xq ?_
  refine wh 2 ?_
  refine we ?_
  refine ng ?_
  refine ite_elim hF (fun hc4 hF => ?_) (fun hc4 hF => ?_)
  ·refine kT 75 hc4 ?_
   refine xT ?_
   refine xq ?_
   refine wh 3 ?_
   refine we ?_
   refine ng ?_
   refine xt ?_
   refine then_r ?_
   have e := Option.some.inj hF
   subst e
   exact fS [] (.inl rfl) rfl shh_nil ⟨rfl, rfl⟩
  refine kF 75 hc4 ?_
  refine xF ?_
  refine xk ?_
  refine ng ?_
  refine xs ?_
  refine xq ?_
  refine wh 5 ?_
  refine ite_elim hF (fun hc5 hF => ?_) (fun hc5 hF => ?_)
  ·refine wT 81 hc5 ?_
   refine wh 14 ?_
   refine we ?_
   refine ng ?_
   refine xT ?_
   refine xq ?_
   refine wh 2 ?_
   refine we ?_
   refine ng ?_
   refine xt ?_
   refine then_r ?_
   have e := Option.some.inj hF
   subst e
   exact fS [] (.inl rfl) rfl shh_nil ⟨rfl, rfl⟩
  refine wF 81 hc5 ?_
  refine wh 6 ?_
  refine bind_elim hF (fun y18262 hy18262 hF => uC (r24_Rise_ev hy18262) (lows_cons (low_sl low_cHeld) rfl) rfl ?_)
  refine wh 10 ?_
  refine ite_elim hF (fun hc6 hF => ?_) (fun hc6 hF => ?_)
  ·refine wF 86 (show (!y18262) = false by rw [hc6]; rfl) ?_
   refine wh 14 ?_
   refine we ?_
   refine ng ?_
   refine ite_elim hF (fun hc7 hF => ?_) (fun hc7 hF => ?_)
   ·refine kT 90 hc7 ?_
    refine xT ?_
    refine xq ?_
    refine wh 2 ?_
    refine we ?_
    refine ng ?_
    refine xt ?_
    refine then_r ?_
    have e := Option.some.inj hF
    subst e
    exact fS [] (.inl rfl) rfl shh_nil ⟨rfl, rfl⟩
   refine kF 90 hc7 ?_
   refine xF ?_
   refine xk ?_
   refine ng ?_
   refine xq ?_
   refine wr 4 [.room g18253 g18257, .cells (cAffidavitref24_Book (⟨(⟨true, true, []⟩ : Sl Affidavitref24_State), y18258.1⟩ : Affidavitref24_Book))] ?_
   refine we ?_
   refine ng ?_
   refine xj (fun fr H => ∃ (p18327 : Sl Affidavitref24_State) (g18326 : Option Bool), fr = [.any, .any, .any, .any, .any, .any, .any, .any, .any, .any, .any, .any, .any, .any, .any, .any, .any, .any, .ptr 0 0, .any, .any, .any, .any, .any, .any, .any, .any, .bool false, .any, .any, .bool (iLt y18203.1 0), .bool false, .any, .bool (iGt y18203.1 512), .bool false, .any, .any, .bool false, .any, .any, .any, .any, .any, .any, .any, .any, .any, .any, junkB g18255, .any, .any, .any, .any, .any, .any, .any, .any, .any, junkB g18256, .any, .any, .any, .any, .any, .any, .any, .any, .any, .any, .any, .any, .any, .any, .any, .any, .bool false, .any, .any, .any, .any, .bool (y18258.2.1 != (a0.length : Int)), .bool false, .any, .bool y18262, .bool (!y18262), .bool (!y18262), .bool false, .any, .any, .bool (iGt (y18258.1.l.length : Int) 256), .bool false, .any, .any, .any, .any, .any, .any, .bool false, .any, .any, .any, .any, .any, .any, .any, .any, .any, .any, .any, .any, .any, .any, junkB g18326, .any] ∧ H = [.cells ((cL cAffidavitref24_State) p18327 ++ (cL cHeld) y18258.1)] ∧ r24_Read_J2 y18258 p18327 = some r) (fun fr H ⟨p18327, g18326, e1, e2, hF⟩ => ?_) (fun hJ2 => ?_)
   ·subst e1 e2
    refine xq ?_
    refine wh 3 ?_
    refine we ?_
    refine ng ?_
    refine xt ?_
    have e := Option.some.inj hF
    subst e
    exact fS [0] (.inl rfl) rfl (shh (b0 := .cells ((cL cAffidavitref24_State) p18327 ++ (cL cHeld) y18258.1)) (by kernel_rfl) (shb_cells (by kernel_rfl) (by kernel_rfl) (tights_app (tights_lows ((low_cL low_cAffidavitref24_State) _)) (tights_lows ((low_cL low_cHeld) _)))) shh_nil) ⟨rfl, rfl⟩
   refine xq ?_
   refine wh 1 ?_
   refine we ?_
   refine ng ?_
   refine xb ?_
   refine x_loop (fun d fr H => ∃ (x18372 : Int × (Sl Affidavitref24_State)) (g18347 : Option Bool) (g18348 : Option Bool), fr = [.any, .any, .any, .any, .any, .any, .any, ownv cAffidavitref24_State 0 g18253 2 p18254, .any, .any, .any, .any, .any, .any, .any, .any, .any, .any, .ptr 1 0, .int .i64 x18372.1, .any, .any, .any, .any, .any, .any, .any, .bool false, .any, .any, .bool (iLt y18203.1 0), .bool false, .any, .bool (iGt y18203.1 512), .bool false, .any, .any, .bool false, .any, .any, .any, .any, .any, .any, .any, .any, .any, .any, junkB g18255, .any, .any, .any, .any, .any, .any, .any, .any, .any, junkB g18256, .any, .any, .any, .any, .any, .any, .any, .any, .any, .any, .any, .any, .any, .any, .any, .any, .bool false, .any, .any, .any, .any, .bool (y18258.2.1 != (a0.length : Int)), .bool false, .any, .bool y18262, .bool (!y18262), .bool (!y18262), .bool false, .any, .any, .bool (iGt (y18258.1.l.length : Int) 256), .bool false, .any, .any, .any, .any, .any, .any, junkB g18347, .any, .any, .any, .any, .any, .any, .any, .any, .any, .any, .any, .any, .any, .any, junkB g18348, .any] ∧ H = [.room g18253 g18257, .cells ((cL cAffidavitref24_State) x18372.2 ++ (cL cHeld) y18258.1)] ∧ loopN (r24_Read_B18372 p18254 y18258) d x18372 = some r) (by kernel_rfl) (fun fr H ⟨x18372, g18347, g18348, e1, e2, hF⟩ => loop_no hF) (fun d18372 fr H ⟨x18372, g18347, g18348, e1, e2, hF⟩ => ?_) (VS.sm 20769185428493596553077209624215423) ⟨(0, (⟨true, true, []⟩ : Sl Affidavitref24_State)), none, none, rfl, rfl, hF⟩
   subst e1 e2
   have hF := loop_in hF
   refine xs ?_
   refine xq ?_
   refine wh 4 ?_
   refine we ?_
   refine ng ?_
   refine ite_elim hF (fun hc8 hF => ?_) (fun hc8 hF => ?_)
   ·refine kT 97 hc8 ?_
    refine xT ?_
    refine xk ?_
    refine ng ?_
    refine xs ?_
    refine xb ?_
    refine xs ?_
    refine x_rows 0 6143 [⟨11, [12], [12], [], []⟩] call_ends callMono (by kernel_rfl) (by kernel_rfl) ?_
    refine wp 3 ?_
    refine bind_elim hF (fun y18388 hy18388 hF => uI cAffidavitref24_State 2 hy18388 len_cAffidavitref24_State ?_)
    refine wp 5 ?_
    refine uE cAffidavitref24_State 0 (t := 3) (v := .int .i64 y18388.N) 2 1 hy18388 len_cAffidavitref24_State ?_
    refine wp 8 ?_
    refine bind_elim hF (fun y18389 hy18389 hF => uI cAffidavitref24_State 2 hy18389 len_cAffidavitref24_State ?_)
    refine wp 10 ?_
    refine uE cAffidavitref24_State 1 (t := 27) (v := sl cHeld y18389.L) 2 1 hy18389 len_cAffidavitref24_State ?_
    refine we ?_
    refine rows_next ?_
    refine bind_elim hF (fun y18390 hy18390 hF => uO [1] [1] (v := .int .i64 y18390.1) [.cells ((cL cAffidavitref24_State) y18390.2 ++ (cL cHeld) y18258.1)] [.room g18253 g18257, .cells ((cL cAffidavitref24_State) y18390.2 ++ (cL cHeld) y18258.1)] (r24_Book_Add_ev hy18390) (tights_cons rfl (tights_cons rfl (tights_cons (tight_sl low_cHeld) rfl))) (pl (b' := .cells ((cL cAffidavitref24_State) x18372.2 ++ (cL cHeld) y18258.1)) (by kernel_rfl) (sb_cells (by kernel_rfl) (by kernel_rfl) (tights_app (tights_lows ((low_cL low_cAffidavitref24_State) _)) (tights_lows ((low_cL low_cHeld) _)))) pl_nil) rfl (sbs (sb_cells (by kernel_rfl) (by kernel_rfl) (tights_app (tights_lows ((low_cL low_cAffidavitref24_State) _)) (tights_lows ((low_cL low_cHeld) _)))) sbs_nil) ?_)
    refine we ?_
    refine ⟨⟨(by kernel_rfl), trivial⟩, ?_⟩
    refine wp 1 ?_
    refine we ?_
    refine rows_done ?_
    refine de ?_
    refine ng ?_
    refine ite_elim hF (fun hc9 hF => ?_) (fun hc9 hF => ?_)
    ·refine kT 112 hc9 ?_
     refine xT ?_
     refine xq ?_
     refine wh 2 ?_
     refine we ?_
     refine ng ?_
     refine xt ?_
     refine block_r ?_
     refine then_r ?_
     refine then_r ?_
     refine block_r ?_
     refine then_r ?_
     have e := Option.some.inj hF
     subst e
     exact fS [] (.inl rfl) rfl shh_nil ⟨rfl, rfl⟩
    refine kF 112 hc9 ?_
    refine xF ?_
    refine xk ?_
    refine block_n ?_
    refine ng ?_
    refine xr ?_
    refine wh 3 ?_
    refine we ?_
    refine then_n ?_
    exact x_back (VS.sm 20769185428493596553077209624215423) ⟨(iAdd .i64 x18372.1 1, y18390.2), (some true), (some false), rfl, rfl, hF⟩
   refine kF 97 hc8 ?_
   refine xF ?_
   refine xe ?_
   refine then_e ?_
   refine then_e ?_
   refine block_e ?_
   refine then_n ?_
   exact x_to hJ2 (VS.shX [1] 15576730113633740395871526207619071 [48, 58, 112] (by kernel_rfl) (by kernel_rfl) (by kernel_rfl) (by exact ⟨low_junk g18255, low_junk g18256, low_junk g18348, trivial⟩) (tights_at [48, 58, 112] (by kernel_rfl) (by exact ⟨(tight_junk g18255), (tight_junk g18256), (tight_junk g18348), trivial⟩)) (shh (b0 := .cells ((cL cAffidavitref24_State) x18372.2 ++ (cL cHeld) y18258.1)) (by kernel_rfl) (shb_cells (by kernel_rfl) (by kernel_rfl) (tights_app (tights_lows ((low_cL low_cAffidavitref24_State) _)) (tights_lows ((low_cL low_cHeld) _)))) shh_nil)) ⟨x18372.2, g18348, rfl, rfl, hF⟩
  refine wT 86 (show (!y18262) = true by rw [hc6]; rfl) ?_
  refine wh 14 ?_
  refine we ?_
  refine ng ?_
  refine xT ?_
  refine xq ?_
  refine wh 2 ?_
  refine we ?_
  refine ng ?_
  refine xt ?_
  refine then_r ?_
  have e := Option.some.inj hF
  subst e
  exact fS [] (.inl rfl) rfl shh_nil ⟨rfl, rfl⟩
 refine xq ?_
 refine wh 1 ?_
 refine we ?_
 refine ng ?_
 refine xb ?_
 refine x_loop (fun d fr H => ∃ (x18432 : Int × (Sl Affidavitref24_State) × Int) (g18411 : Nat) (g18414 : Option Bool) (g18415 : Option Bool) (g18416 : Option Bool) (g18417 : Bool), fr = [.str a0, .any, .any, .any, .int .i64 y18203.1, .int .i64 x18432.1, .any, ownv cAffidavitref24_State 0 g18411 2 x18432.2.1, .int .i64 x18432.2.2, .any, .any, .any, .any, .any, .any, .any, .any, .any, .any, .any, .any, .any, .any, .any, .any, .any, .any, .bool false, .any, .any, .bool (iLt y18203.1 0), .bool false, .any, .bool (iGt y18203.1 512), .bool false, .any, .any, junkB g18414, .any, .any, .any, .any, .any, .any, .any, .any, .any, .any, junkB g18415, .any, .any, .any, .any, .any, .any, .any, .any, .any, junkB g18416, .any, .any, .any, .any, .any, .any, .any, .any, .any, .any, .any, .any, .any, .any, .any, .any, .any, .any, .any, .any, .any, .any, .any, .any, .any, .any, .any, .any, .any, .any, .any, .any, .any, .any, .any, .any, .any, .any, .any, .any, .any, .any, .any, .any, .any, .any, .any, .any, .any, .any, .any, .any, .any, .any, .any] ∧ H = [.room g18411 g18417] ∧ loopN (r24_Read_B18432 a0 y18203) d x18432 = some r) (by kernel_rfl) (fun fr H ⟨x18432, g18411, g18414, g18415, g18416, g18417, e1, e2, hF⟩ => loop_no hF) (fun d18432 fr H ⟨x18432, g18411, g18414, g18415, g18416, g18417, e1, e2, hF⟩ => ?_) (VS.trans (VS.thaw cAffidavitref24_State 7 2 ⟨true, true, []⟩ (by kernel_rfl) rfl len_cAffidavitref24_State) (VS.sm 20769187434139310514121956191632974)) ⟨(y18203.2.1, ⟨true, true, []⟩, 0), 1, none, none, none, false, rfl, rfl, hF⟩
 subst e1 e2
 have hF := loop_in hF
 refine xs ?_
 refine xq ?_
 refine wh 3 ?_
 refine we ?_
 refine ng ?_
 refine ite_elim hF (fun hc10 hF => ?_) (fun hc10 hF => ?_)
 ·refine kT 37 hc10 ?_
  refine xT ?_
  refine xk ?_
  refine ng ?_
  refine xs ?_
  refine xb ?_
  refine xq ?_
  refine wh 2 ?_
  refine bind_elim hF (fun y18436 hy18436 hF => uC (r01_ReadNumber_ev hy18436) (lows_cons rfl (lows_cons rfl rfl)) (low_tup (lows_cons rfl (lows_cons rfl (lows_cons rfl rfl)))) ?_)
  refine wh 10 ?_
  refine we ?_
  refine ng ?_
  refine xs ?_
  refine xq ?_
  refine wh 2 ?_
  refine we ?_
  refine ng ?_
  refine ite_elim hF (fun hc11 hF => ?_) (fun hc11 hF => ?_)
  ·refine kT 48 hc11 ?_
   refine xT ?_
   refine xq ?_
   refine wh 3 ?_
   refine we ?_
   refine ng ?_
   refine xt ?_
   refine then_r ?_
   refine block_r ?_
   refine then_r ?_
   refine then_r ?_
   refine block_r ?_
   refine then_r ?_
   have e := Option.some.inj hF
   subst e
   exact fS [] (.inl rfl) rfl shh_nil ⟨rfl, rfl⟩
  refine kF 48 hc11 ?_
  refine xF ?_
  refine xk ?_
  refine ng ?_
  refine xq ?_
  refine wh 2 ?_
  refine bind_elim hF (fun y18437 hy18437 hF => uC (r24_readLists_ev hy18437) (lows_cons rfl (lows_cons rfl rfl)) (low_tup (lows_cons (low_sl low_cHeld) (lows_cons rfl (lows_cons rfl rfl)))) ?_)
  refine wh 10 ?_
  refine we ?_
  refine ng ?_
  refine xs ?_
  refine xq ?_
  refine wh 2 ?_
  refine we ?_
  refine ng ?_
  refine ite_elim hF (fun hc12 hF => ?_) (fun hc12 hF => ?_)
  ·refine kT 58 hc12 ?_
   refine xT ?_
   refine xq ?_
   refine wh 3 ?_
   refine we ?_
   refine ng ?_
   refine xt ?_
   refine then_r ?_
   refine block_r ?_
   refine then_r ?_
   refine then_r ?_
   refine block_r ?_
   refine then_r ?_
   have e := Option.some.inj hF
   subst e
   exact fS [] (.inl rfl) rfl shh_nil ⟨rfl, rfl⟩
  refine kF 58 hc12 ?_
  refine xF ?_
  refine xk ?_
  refine ng ?_
  refine xq ?_
  refine wh 4 ?_
  refine w_frz (v := sl cAffidavitref24_State (⟨false, true, [(⟨y18436.1, y18437.1⟩ : Affidavitref24_State)]⟩ : Sl Affidavitref24_State)) (by kernel_rfl) ?_
  refine bind_elim hF (fun y18438 hy18438 hF => w_app cAffidavitref24_State (e := 39) (sz := 2) (l0 := 0) (real := g18417) (ver := g18411) (x := x18432.2.1) (ys := (⟨false, true, [(⟨y18436.1, y18437.1⟩ : Affidavitref24_State)]⟩ : Sl Affidavitref24_State).l) hy18438 (by kernel_rfl) (by decide) (gives_sl (x := (⟨false, true, [(⟨y18436.1, y18437.1⟩ : Affidavitref24_State)]⟩ : Sl Affidavitref24_State)) (by kernel_rfl) len_cAffidavitref24_State) (room_at (by kernel_rfl)) ?_)
  refine wr 7 [.room (g18411 + 1) (g18417 || !((⟨false, true, [(⟨y18436.1, y18437.1⟩ : Affidavitref24_State)]⟩ : Sl Affidavitref24_State).l.length == 0))] ?_
  refine we ?_
  refine ng ?_
  refine xr ?_
  refine wh 2 ?_
  refine we ?_
  refine block_n ?_
  refine ng ?_
  refine xr ?_
  refine wh 3 ?_
  refine we ?_
  refine then_n ?_
  exact x_back (VS.sm 20769187434139310514121956191632974) ⟨(y18437.2.1, y18438, iAdd .i64 x18432.2.2 1), (g18411 + 1), (some true), (some false), (some false), (g18417 || !((⟨false, true, [(⟨y18436.1, y18437.1⟩ : Affidavitref24_State)]⟩ : Sl Affidavitref24_State).l.length == 0)), rfl, rfl, hF⟩
 refine kF 37 hc10 ?_
 refine xF ?_
 refine xe ?_
 refine then_e ?_
 refine then_e ?_
 refine block_e ?_
 refine then_n ?_
 exact x_to hJ1 (VS.sm 20769187434139310225609967624257374) ⟨x18432.1, x18432.2.1, g18411, g18415, g18416, g18417, rfl, rfl, hF⟩
theorem r24_Read_ev1 {a0 : List UInt8} {x : Int} (hF : r24_Read a0 = some (.inl x)) : EvCall Try.prog T G0 23 [.str a0] [] (fun v H' => v = .tup [.nilptr, .int .i64 x] ∧ H' = []) := r24_Read_ev hF
theorem r24_Read_ev2 {a0 : List UInt8} {x : Int × (Sl Affidavitref24_State) × (Sl Held)} (hF : r24_Read a0 = some (.inr x)) : EvCall Try.prog T G0 23 [.str a0] [] (fun v H' => v = .tup [.ptr 0 0, .int .i64 x.1] ∧ H' = [.cells ((cL cAffidavitref24_State) x.2.1 ++ (cL cHeld) x.2.2)]) := r24_Read_ev hF
def prune_Book_Bytes_2  : Option (List UInt8) :=
  some []
theorem prune_Book_Bytes_2_ev {r : (List UInt8)} (hF : prune_Book_Bytes_2 = some r) : EvCall Try.prog T G0 20 [.nilptr] [] (fun v H' => v = .str r ∧ H' = []) := by
 refine xc Try.func20 ?_
 refine xq ?_
 refine wh 1 ?_
 refine we ?_
 refine ng ?_
 refine xs ?_
 refine xq ?_
 refine wh 2 ?_
 refine we ?_
 refine ng ?_
 refine xT ?_
 refine xq ?_
 refine wh 1 ?_
 refine we ?_
 refine ng ?_
 refine xt ?_
 refine then_r ?_
 have e := Option.some.inj hF
 subst e
 exact fE [] (.inl rfl) rfl ⟨rfl, rfl⟩
def prune_Book_Held_2  : Option (Sl Held) :=
  some (⟨true, true, []⟩ : Sl Held)
theorem prune_Book_Held_2_ev {r : (Sl Held)} (hF : prune_Book_Held_2 = some r) : EvCall Try.prog T G0 16 [.nilptr] [] (fun v H' => v = rfv false r 0 2 ∧ H' = [rfb cHeld r]) := by
 refine xc Try.func16 ?_
 refine xq ?_
 refine wh 1 ?_
 refine we ?_
 refine ng ?_
 refine xs ?_
 refine xq ?_
 refine wh 2 ?_
 refine we ?_
 refine ng ?_
 refine xT ?_
 refine xq ?_
 refine wh 1 ?_
 refine we ?_
 refine ng ?_
 refine xt ?_
 refine then_r ?_
 have e := Option.some.inj hF
 subst e
 exact fin_vs2 (.inl rfl) (by kernel_rfl) (VS.trans (VS.thawR cHeld 0 2 (by kernel_rfl)) (VS.sh [0] 0 (by kernel_rfl) (by kernel_rfl) (by kernel_rfl) (by kernel_rfl) (shh (b0 := rfb cHeld (⟨true, true, []⟩ : Sl Held)) (by kernel_rfl) (NoRef.shb (noref_rfb low_cHeld _)) shh_nil))) (And.intro rfl rfl)
def prune_Book_Used_2_J1 (y18500 : (Sl Held)) (p18514 : Int) : Option (Int × Int) :=
  some ((y18500.l.length : Int), p18514)
def prune_Book_Used_2_B18525 (y18500 : (Sl Held)) (k18525 : (Int × Int) → Option (Int × Int)) (x18525 : Int × Int) : Option (Int × Int) :=
  if iLt x18525.2 (y18500.l.length : Int) = true then (idxL y18500.l x18525.2).bind fun y18527 => k18525 (iAdd .i64 x18525.1 y18527.Size, iAdd .i64 x18525.2 1) else prune_Book_Used_2_J1 y18500 x18525.1
def prune_Book_Used_2  : Option (Int × Int) :=
  (prune_Book_Held_2).bind fun y18500 => loopN (prune_Book_Used_2_B18525 y18500) FUEL (0, 0)
theorem prune_Book_Used_2_ev {r : Int × Int} (hF : prune_Book_Used_2 = some r) : EvCall Try.prog T G0 18 [.nilptr] [] (fun v H' => v = .tup [.int .i64 r.1, .int .i64 r.2] ∧ H' = []) := by
 refine xc Try.func18 ?_
 refine xq ?_
 refine wh 2 ?_
 refine we ?_
 refine ng ?_
 refine xq ?_
 refine wh 1 ?_
 refine bind_elim hF (fun y18500 hy18500 hF => uO [] [0] (v := rfv false y18500 0 2) [rfb cHeld y18500] [rfb cHeld y18500] (prune_Book_Held_2_ev hy18500) (by kernel_rfl) pl_nil rfl (sbs (sb_low (noref_rfb low_cHeld _)) sbs_nil) ?_)
 refine wh 3 ?_
 refine we ?_
 refine ng ?_
 refine xq ?_
 refine wh 1 ?_
 refine we ?_
 refine ng ?_
 refine xj (fun fr H => ∃ (p18514 : Int), fr = [.any, .any, .any, .any, rfv false y18500 0 2, .int .i64 p18514, .any, .any, .any, .any, .any, .any, .any, .bool false, .any, .any, .any, .any, .any, .any, .any, .any, .any, .any] ∧ H = [rfb cHeld y18500] ∧ prune_Book_Used_2_J1 y18500 p18514 = some r) (fun fr H ⟨p18514, e1, e2, hF⟩ => ?_) (fun hJ1 => ?_)
 ·subst e1 e2
  refine xq ?_
  refine wh 5 ?_
  refine we ?_
  refine ng ?_
  refine xt ?_
  have e := Option.some.inj hF
  subst e
  exact fE [] (.inl rfl) (low_tup (lows_cons rfl (lows_cons rfl rfl))) ⟨rfl, rfl⟩
 refine xq ?_
 refine wh 3 ?_
 refine we ?_
 refine ng ?_
 refine xb ?_
 refine x_loop (fun d fr H => ∃ (x18525 : Int × Int) (g18519 : Option Bool), fr = [.any, .any, .any, .any, rfv false y18500 0 2, .int .i64 x18525.1, .any, .any, .any, .any, rfv false y18500 0 2, .int .i64 (y18500.l.length : Int), .int .i64 x18525.2, junkB g18519, .any, .any, .any, .any, .any, .any, .any, .any, .any, .any] ∧ H = [rfb cHeld y18500] ∧ loopN (prune_Book_Used_2_B18525 y18500) d x18525 = some r) (by kernel_rfl) (fun fr H ⟨x18525, g18519, e1, e2, hF⟩ => loop_no hF) (fun d18525 fr H ⟨x18525, g18519, e1, e2, hF⟩ => ?_) (VS.sm 16769999) ⟨(0, 0), none, rfl, rfl, hF⟩
 subst e1 e2
 have hF := loop_in hF
 refine xq ?_
 refine wh 1 ?_
 refine we ?_
 refine ng ?_
 refine xs ?_
 refine ite_elim hF (fun hc1 hF => ?_) (fun hc1 hF => ?_)
 ·refine kT 13 hc1 ?_
  refine xT ?_
  refine xk ?_
  refine ng ?_
  refine xs ?_
  refine xb ?_
  refine xq ?_
  refine bind_elim hF (fun y18527 hy18527 hF => w_riaddr (t := 27) (e := 41) (l := 0) (ex := false) (nl := y18500.nl && y18500.l.isEmpty) (kd := .i64) (k := 0) (sz := 2) (len := y18500.l.length) (b := y18500.l) hy18527 (Nat.le_refl _) (by kernel_rfl) (by kernel_rfl) (by kernel_rfl) ?_)
  refine w_rload cHeld (l := 0) (t := 41) (sz := 2) (fo := 0) (j := (0 + x18525.2.toNat)) y18500 (v := .agg (cHeld y18527)) (z := 2) (idxL_nat hy18527) (by kernel_rfl) (by kernel_rfl) len_cHeld (by kernel_rfl) (by kernel_rfl) (by decide) (by decide) ?_
  refine wr 4 [rfb cHeld y18500, .cells (cHeld y18527)] ?_
  refine we ?_
  refine ng ?_
  refine xr ?_
  refine wh 5 ?_
  refine we ?_
  refine block_n ?_
  refine ng ?_
  refine xr ?_
  refine wh 2 ?_
  refine we ?_
  refine then_n ?_
  exact x_back (VS.si [0] 16769999 (by kernel_rfl) (shh (b0 := rfb cHeld y18500) (by kernel_rfl) (NoRef.shb (noref_rfb low_cHeld _)) shh_nil)) ⟨(iAdd .i64 x18525.1 y18527.Size, iAdd .i64 x18525.2 1), (some true), rfl, rfl, hF⟩
 refine kF 13 hc1 ?_
 refine xF ?_
 refine xe ?_
 refine then_e ?_
 refine then_e ?_
 refine block_e ?_
 refine then_n ?_
 exact x_to hJ1 (VS.sm 16768975) ⟨x18525.1, rfl, rfl, hF⟩
def r24_Same_2_J1  : Option Bool :=
  some true
def r24_Same_2_B18584 (a0 : Sl Held) (a1 : Sl Held) (k18584 : Int → Option Bool) (x18584 : Int) : Option Bool :=
  if iLt x18584 (a1.l.length : Int) = true then (idxL a1.l x18584).bind fun y18591 => (idxL a0.l x18584).bind fun y18592 => if eqHeld y18591 y18592 = true then k18584 (iAdd .i64 x18584 1) else some false else r24_Same_2_J1
def r24_Same_2 (a0 : Sl Held) (a1 : Sl Held) : Option Bool :=
  if ((a1.l.length : Int) != (a0.l.length : Int)) = true then some false else loopN (r24_Same_2_B18584 a0 a1) FUEL 0
theorem r24_Same_2_ev {a0 : Sl Held} {a1 : Sl Held} {r : Bool} (hF : r24_Same_2 a0 a1 = some r) : EvCall Try.prog T G0 17 [rfv false a1 0 2, sl cHeld a0] [rfb cHeld a1] (fun v H' => v = .bool r ∧ H' = [rfb cHeld a1]) := by
 refine xc Try.func17 ?_
 refine xq ?_
 refine wh 1 ?_
 refine we ?_
 refine ng ?_
 refine xs ?_
 refine xq ?_
 refine wh 5 ?_
 refine we ?_
 refine ng ?_
 refine ite_elim hF (fun hc1 hF => ?_) (fun hc1 hF => ?_)
 ·refine kT 10 hc1 ?_
  refine xT ?_
  refine xq ?_
  refine wh 1 ?_
  refine we ?_
  refine ng ?_
  refine xt ?_
  refine then_r ?_
  have e := Option.some.inj hF
  subst e
  exact fS [0] (.inl rfl) rfl (shh (b0 := rfb cHeld a1) (by kernel_rfl) (NoRef.shb (noref_rfb low_cHeld _)) shh_nil) ⟨rfl, rfl⟩
 refine kF 10 hc1 ?_
 refine xF ?_
 refine xk ?_
 refine ng ?_
 refine xj (fun fr H => ∃ (g18561 : Option Bool), fr = [.any, .any, .any, .any, .bool false, .any, .any, .any, .any, .any, .bool false, .any, .any, .any, .bool false, .any, .any, .any, .any, .any, .any, .any, .any, .any, .any, junkB g18561] ∧ H = [rfb cHeld a1] ∧ r24_Same_2_J1 = some r) (fun fr H ⟨g18561, e1, e2, hF⟩ => ?_) (fun hJ1 => ?_)
 ·subst e1 e2
  refine xq ?_
  refine wh 1 ?_
  refine we ?_
  refine ng ?_
  refine xt ?_
  have e := Option.some.inj hF
  subst e
  exact fS [0] (.inl rfl) rfl (shh (b0 := rfb cHeld a1) (by kernel_rfl) (NoRef.shb (noref_rfb low_cHeld _)) shh_nil) ⟨rfl, rfl⟩
 refine xq ?_
 refine wh 1 ?_
 refine we ?_
 refine ng ?_
 refine xb ?_
 refine x_loop (fun d fr H => ∃ (x18584 : Int) (g18571 : Option Bool) (g18572 : Option Bool), fr = [rfv false a1 0 2, sl cHeld a0, .any, .any, .bool false, .int .i64 x18584, .any, .any, .any, .any, .bool false, .any, .any, .any, junkB g18571, .any, .any, .any, .any, .any, .any, .any, .any, .any, .any, junkB g18572] ∧ H = [rfb cHeld a1] ∧ loopN (r24_Same_2_B18584 a0 a1) d x18584 = some r) (by kernel_rfl) (fun fr H ⟨x18584, g18571, g18572, e1, e2, hF⟩ => loop_no hF) (fun d18584 fr H ⟨x18584, g18571, g18572, e1, e2, hF⟩ => ?_) (VS.sm 67107788) ⟨0, none, none, rfl, rfl, hF⟩
 subst e1 e2
 have hF := loop_in hF
 refine xs ?_
 refine xq ?_
 refine wh 4 ?_
 refine we ?_
 refine ng ?_
 refine ite_elim hF (fun hc2 hF => ?_) (fun hc2 hF => ?_)
 ·refine kT 14 hc2 ?_
  refine xT ?_
  refine xk ?_
  refine ng ?_
  refine xs ?_
  refine xb ?_
  refine xs ?_
  refine xd 0 call_ends callMono ?_
  refine wp 2 ?_
  refine bind_elim hF (fun y18591 hy18591 hF => w_riaddr (t := 27) (e := 41) (l := 0) (ex := false) (nl := a1.nl && a1.l.isEmpty) (kd := .i64) (k := 0) (sz := 2) (len := a1.l.length) (b := a1.l) hy18591 (Nat.le_refl _) (by kernel_rfl) (by kernel_rfl) (by kernel_rfl) ?_)
  refine w_rload cHeld (l := 0) (t := 41) (sz := 2) (fo := 0) (j := (0 + x18584.toNat)) a1 (v := .agg (cHeld y18591)) (z := 2) (idxL_nat hy18591) (by kernel_rfl) (by kernel_rfl) len_cHeld (by kernel_rfl) (by kernel_rfl) (by decide) (by decide) ?_
  refine wp 6 ?_
  refine bind_elim hF (fun y18592 hy18592 hF => uI cHeld 2 hy18592 len_cHeld ?_)
  refine uE cHeld 0 (t := 41) (v := .agg (cHeld y18592)) 2 2 hy18592 len_cHeld ?_
  refine w_neq (b := eqHeld y18591 y18592) (by kernel_rfl) ?_
  refine we ?_
  refine de ?_
  refine ng ?_
  refine ite_elim hF (fun hc3 hF => ?_) (fun hc3 hF => ?_)
  ·refine kF 25 (show (!(eqHeld y18591 y18592)) = false by rw [hc3]; rfl) ?_
   refine xF ?_
   refine xk ?_
   refine block_n ?_
   refine ng ?_
   refine xr ?_
   refine wh 3 ?_
   refine we ?_
   refine then_n ?_
   exact x_back (VS.sm 67107788) ⟨iAdd .i64 x18584 1, (some true), (some false), rfl, rfl, hF⟩
  refine kT 25 (show (!(eqHeld y18591 y18592)) = true by rw [hc3]; rfl) ?_
  refine xT ?_
  refine xq ?_
  refine wh 1 ?_
  refine we ?_
  refine ng ?_
  refine xt ?_
  refine block_r ?_
  refine then_r ?_
  refine then_r ?_
  refine block_r ?_
  refine then_r ?_
  have e := Option.some.inj hF
  subst e
  exact fS [0] (.inl rfl) rfl (shh (b0 := rfb cHeld a1) (by kernel_rfl) (NoRef.shb (noref_rfb low_cHeld _)) shh_nil) ⟨rfl, rfl⟩
 refine kF 14 hc2 ?_
 refine xF ?_
 refine xe ?_
 refine then_e ?_
 refine then_e ?_
 refine block_e ?_
 refine then_n ?_
 exact x_to hJ1 (VS.sm 33537007) ⟨g18572, rfl, rfl, hF⟩
def prune_Book_States_2  : Option (Sl Int) :=
  some ⟨true, true, []⟩
theorem prune_Book_States_2_ev {r : (Sl Int)} (hF : prune_Book_States_2 = some r) : EvCall Try.prog T G0 13 [.nilptr] [] (fun v H' => v = sl (cI .i64) r ∧ H' = []) := by
 refine xc Try.func13 ?_
 refine xq ?_
 refine wh 1 ?_
 refine we ?_
 refine ng ?_
 refine xq ?_
 refine wh 1 ?_
 refine we ?_
 refine ng ?_
 refine xs ?_
 refine xq ?_
 refine wh 2 ?_
 refine we ?_
 refine ng ?_
 refine xT ?_
 refine xq ?_
 refine wh 2 ?_
 refine we ?_
 refine ng ?_
 refine xt ?_
 refine then_r ?_
 have e := Option.some.inj hF
 subst e
 exact fE [] (.inl rfl) (low_sl low_cI) ⟨rfl, rfl⟩
def l24_same_2_J3 (p18507 : Bool) : Option Bool :=
  some p18507
def l24_same_2_J2 (a0 : Sl Affidavitref24_State) (a1 : Sl Held) (y18451 : (Sl Held)) (p18484 : Sl Int) (p18499 : Int) : Option Bool :=
  (prune_Book_Used_2).bind fun y18500 => (prune_Book_Held_2).bind fun y18521 => (r24_Same_2 y18451 y18521).bind fun y18522 => if y18522 = true then if (y18500.1 == (y18451.l.length : Int)) = true then if (y18500.2 == p18499) = true then (prune_Book_States_2).bind fun y18523 => (r01_Ints y18523 p18484.weak).bind fun y18524 => if y18524 = true then (prune_Book_Bytes_2).bind fun y18525 => (r24_Book_Bytes a0 a1).bind fun y18526 => l24_same_2_J3 (y18525 == y18526) else l24_same_2_J3 false else l24_same_2_J3 false else l24_same_2_J3 false else l24_same_2_J3 false
def l24_same_2_B18537 (a0 : Sl Affidavitref24_State) (a1 : Sl Held) (y18451 : (Sl Held)) (p18484 : Sl Int) (k18537 : (Int × Int) → Option Bool) (x18537 : Int × Int) : Option Bool :=
  if iLt x18537.2 (y18451.l.length : Int) = true then (idxL y18451.l x18537.2).bind fun y18539 => k18537 (iAdd .i64 x18537.1 y18539.Size, iAdd .i64 x18537.2 1) else l24_same_2_J2 a0 a1 y18451 p18484 x18537.1
def l24_same_2_J1 (a0 : Sl Affidavitref24_State) (a1 : Sl Held) (y18451 : (Sl Held)) (p18484 : Sl Int) : Option Bool :=
  loopN (l24_same_2_B18537 a0 a1 y18451 p18484) FUEL (0, 0)
def l24_same_2_B18566 (a0 : Sl Affidavitref24_State) (a1 : Sl Held) (y18451 : (Sl Held)) (k18566 : ((Sl Int) × Int) → Option Bool) (x18566 : (Sl Int) × Int) : Option Bool :=
  if iLt x18566.2 (a0.l.length : Int) = true then (idxL a0.l x18566.2).bind fun y18569 => (appL 8 x18566.1 (⟨false, true, [y18569.N]⟩ : Sl Int).l).bind fun y18570 => k18566 (y18570, iAdd .i64 x18566.2 1) else l24_same_2_J1 a0 a1 y18451 x18566.1
def l24_same_2 (a0 : Sl Affidavitref24_State) (a1 : Sl Held) : Option Bool :=
  (r24_Book_Held a0 a1).bind fun y18451 => loopN (l24_same_2_B18566 a0 a1 y18451) FUEL (⟨true, true, []⟩, 0)
theorem l24_same_2_ev {a0 : Sl Affidavitref24_State} {a1 : Sl Held} {r : Bool} (hF : l24_same_2 a0 a1 = some r) : EvCall Try.prog T G0 22 [.nilptr, .ptr 0 0] [.cells ((cL cAffidavitref24_State) a0 ++ (cL cHeld) a1)] (fun v H' => v = .bool r ∧ H' = [.cells ((cL cAffidavitref24_State) a0 ++ (cL cHeld) a1)]) := by
 refine xc Try.func22 ?_
 refine xq ?_
 refine wh 1 ?_
 refine we ?_
 refine ng ?_
 refine xq ?_
 refine wh 1 ?_
 refine bind_elim hF (fun y18451 hy18451 hF => uOs [0] [0] (v := sl cHeld y18451) [.cells ((cL cAffidavitref24_State) a0 ++ (cL cHeld) a1)] (r24_Book_Held_ev hy18451) (by kernel_rfl) (pl (b' := .cells ((cL cAffidavitref24_State) a0 ++ (cL cHeld) a1)) (by kernel_rfl) (sb_cells (by kernel_rfl) (by kernel_rfl) (tights_app (tights_lows ((low_cL low_cAffidavitref24_State) _)) (tights_lows ((low_cL low_cHeld) _)))) pl_nil) (tight_sl low_cHeld) (sbs (sb_cells (by kernel_rfl) (by kernel_rfl) (tights_app (tights_lows ((low_cL low_cAffidavitref24_State) _)) (tights_lows ((low_cL low_cHeld) _)))) sbs_nil) ?_)
 refine wh 3 ?_
 refine we ?_
 refine ng ?_
 refine xq ?_
 refine wh 1 ?_
 refine we ?_
 refine ng ?_
 refine xq ?_
 refine wh 1 ?_
 refine we ?_
 refine ng ?_
 refine xj (fun fr H => ∃ (p18484 : Sl Int) (g18483 : Nat) (g18485 : Bool), fr = [.nilptr, .ptr 0 0, .any, .any, .bool false, sl cHeld y18451, ownv (cI .i64) 1 g18483 1 p18484, .int .i64 0, .any, .any, .any, .any, .any, .any, .any, .any, .any, .any, .any, .any, .bool false, .any, .any, .any, .any, .any, .any, .any, .any, .any, .any, .any, .any, .any, .any, .any, .any, .any, .any, .any, .any, .any, .any, .any, .any, .any, .any, .any, .any, .any, .any, .any, .any, .any, .any, .any, .any, .any, .any, .any, .any, .any, .any, .any, .any, .any, .any, .any, .any, .any, .any, .any, .any, .any, .any, .any, .any, .any, .any, .any] ∧ H = [.cells ((cL cAffidavitref24_State) a0 ++ (cL cHeld) a1), .room g18483 g18485] ∧ l24_same_2_J1 a0 a1 y18451 p18484 = some r) (fun fr H ⟨p18484, g18483, g18485, e1, e2, hF⟩ => ?_) (fun hJ1 => ?_)
 ·subst e1 e2
  refine xj (fun fr H => ∃ (p18499 : Int), fr = [.nilptr, .ptr 0 0, .any, .any, .bool false, sl cHeld y18451, ownv (cI .i64) 1 g18483 1 p18484, .int .i64 p18499, .any, .any, .any, .any, .any, .any, .any, .any, .any, .any, .any, .any, .bool false, .any, .any, .any, .any, .any, .any, .any, .any, .any, .any, .any, .any, .any, .any, .any, .any, .bool false, .any, .any, .any, .any, .any, .any, .any, .any, .any, .any, .any, .any, .any, .any, .any, .any, .any, .any, .any, .any, .any, .any, .any, .any, .any, .any, .any, .any, .any, .any, .any, .any, .any, .any, .any, .any, .any, .any, .any, .any, .any, .any] ∧ H = [.cells ((cL cAffidavitref24_State) a0 ++ (cL cHeld) a1), .room g18483 g18485] ∧ l24_same_2_J2 a0 a1 y18451 p18484 p18499 = some r) (fun fr H ⟨p18499, e1, e2, hF⟩ => ?_) (fun hJ2 => ?_)
  ·subst e1 e2
   refine xq ?_
   refine wh 1 ?_
   refine bind_elim hF (fun y18500 hy18500 hF => uC (prune_Book_Used_2_ev hy18500) (lows_cons rfl rfl) (low_tup (lows_cons rfl (lows_cons rfl rfl))) ?_)
   refine wh 7 ?_
   refine we ?_
   refine ng ?_
   refine xj (fun fr H => ∃ (p18507 : Bool) (g18508 : Option Bool) (g18509 : Option Bool) (g18510 : Option Bool) (g18511 : Option Bool) (g18512 : Option Bool) (g18513 : Option Bool) (g18514 : Option Bool) (g18515 : Option Bool) (g18516 : Option Bool) (g18517 : Option Bool) (g18518 : Option Bool) (g18519 : Option Bool) (g18520 : Option Bool), fr = [.any, .any, .any, .any, .bool p18507, .any, .any, .any, .any, .any, .any, .any, .any, .any, .any, .any, .any, .any, .any, .any, .bool false, .any, .any, .any, .any, .any, .any, .any, .any, .any, .any, .any, .any, .any, .any, .any, .any, .bool false, .any, .any, .any, .any, .any, .any, .any, .any, .any, .any, .any, .any, .any, .any, .any, .any, .any, junkB g18508, junkB g18509, .any, .any, .any, junkB g18510, junkB g18511, junkB g18512, .any, .any, junkB g18513, junkB g18514, junkB g18515, .any, .any, .any, junkB g18516, junkB g18517, junkB g18518, .any, .any, .any, .any, junkB g18519, junkB g18520] ∧ H = [.cells ((cL cAffidavitref24_State) a0 ++ (cL cHeld) a1)] ∧ l24_same_2_J3 p18507 = some r) (fun fr H ⟨p18507, g18508, g18509, g18510, g18511, g18512, g18513, g18514, g18515, g18516, g18517, g18518, g18519, g18520, e1, e2, hF⟩ => ?_) (fun hJ3 => ?_)
   ·subst e1 e2
    refine xt ?_
    have e := Option.some.inj hF
    subst e
    exact fS [0] (.inl rfl) rfl (shh (b0 := .cells ((cL cAffidavitref24_State) a0 ++ (cL cHeld) a1)) (by kernel_rfl) (shb_cells (by kernel_rfl) (by kernel_rfl) (tights_app (tights_lows ((low_cL low_cAffidavitref24_State) _)) (tights_lows ((low_cL low_cHeld) _)))) shh_nil) ⟨rfl, rfl⟩
   refine xr ?_
   refine wh 1 ?_
   refine bind_elim hF (fun y18521 hy18521 hF => uO [] [2] (v := rfv false y18521 2 2) [rfb cHeld y18521] [.cells ((cL cAffidavitref24_State) a0 ++ (cL cHeld) a1), .room g18483 g18485, rfb cHeld y18521] (prune_Book_Held_2_ev hy18521) (by kernel_rfl) pl_nil rfl (sbs (sb_low (noref_rfb low_cHeld _)) sbs_nil) ?_)
   refine wh 3 ?_
   refine bind_elim hF (fun y18522 hy18522 hF => uOs [2] [2] (v := .bool y18522) [rfb cHeld y18521] (r24_Same_2_ev hy18522) (tights_cons rfl (tights_cons (tight_sl low_cHeld) rfl)) (pl (b' := rfb cHeld y18521) (by kernel_rfl) (sb_low (noref_rfb low_cHeld _)) pl_nil) rfl (sbs (sb_low (noref_rfb low_cHeld _)) sbs_nil) ?_)
   refine wh 5 ?_
   refine ite_elim hF (fun hc1 hF => ?_) (fun hc1 hF => ?_)
   ·refine wT 56 hc1 ?_
    refine wh 11 ?_
    refine ite_elim hF (fun hc2 hF => ?_) (fun hc2 hF => ?_)
    ·refine wT 62 hc2 ?_
     refine wh 16 ?_
     refine ite_elim hF (fun hc3 hF => ?_) (fun hc3 hF => ?_)
     ·refine wT 67 hc3 ?_
      refine wh 17 ?_
      refine bind_elim hF (fun y18523 hy18523 hF => uC (prune_Book_States_2_ev hy18523) (lows_cons rfl rfl) (low_sl low_cI) ?_)
      refine wh 19 ?_
      refine bind_elim hF (fun y18524 hy18524 hF => uC (r01_Ints_ev hy18524) (lows_cons (low_sl low_cI) (lows_cons (low_sl low_cI) rfl)) rfl ?_)
      refine wh 22 ?_
      refine ite_elim hF (fun hc4 hF => ?_) (fun hc4 hF => ?_)
      ·refine wT 73 hc4 ?_
       refine wh 23 ?_
       refine bind_elim hF (fun y18525 hy18525 hF => uC (prune_Book_Bytes_2_ev hy18525) (lows_cons rfl rfl) rfl ?_)
       refine wh 25 ?_
       refine bind_elim hF (fun y18526 hy18526 hF => uOs [0] [0] (v := .str y18526) [.cells ((cL cAffidavitref24_State) a0 ++ (cL cHeld) a1)] (r24_Book_Bytes_ev hy18526) (by kernel_rfl) (pl (b' := .cells ((cL cAffidavitref24_State) a0 ++ (cL cHeld) a1)) (by kernel_rfl) (sb_cells (by kernel_rfl) (by kernel_rfl) (tights_app (tights_lows ((low_cL low_cAffidavitref24_State) _)) (tights_lows ((low_cL low_cHeld) _)))) pl_nil) rfl (sbs (sb_cells (by kernel_rfl) (by kernel_rfl) (tights_app (tights_lows ((low_cL low_cAffidavitref24_State) _)) (tights_lows ((low_cL low_cHeld) _)))) sbs_nil) ?_)
       refine wh 29 ?_
       refine we ?_
       refine then_n ?_
       exact x_to hJ3 (VS.si [0] 1208925819614491734704111 (by kernel_rfl) (shh (b0 := .cells ((cL cAffidavitref24_State) a0 ++ (cL cHeld) a1)) (by kernel_rfl) (shb_cells (by kernel_rfl) (by kernel_rfl) (tights_app (tights_lows ((low_cL low_cAffidavitref24_State) _)) (tights_lows ((low_cL low_cHeld) _)))) shh_nil)) ⟨(y18525 == y18526), (some y18522), (some true), (some (y18500.1 == (y18451.l.length : Int))), (some (y18500.1 == (y18451.l.length : Int))), (some true), (some (y18500.2 == p18499)), (some (y18500.2 == p18499)), (some true), (some y18524), (some y18524), (some true), (some (y18525 == y18526)), (some (y18525 == y18526)), rfl, rfl, hF⟩
      refine wF 73 hc4 ?_
      refine wh 29 ?_
      refine we ?_
      refine then_n ?_
      exact x_to hJ3 (VS.si [0] 1208925819614491734704111 (by kernel_rfl) (shh (b0 := .cells ((cL cAffidavitref24_State) a0 ++ (cL cHeld) a1)) (by kernel_rfl) (shb_cells (by kernel_rfl) (by kernel_rfl) (tights_app (tights_lows ((low_cL low_cAffidavitref24_State) _)) (tights_lows ((low_cL low_cHeld) _)))) shh_nil)) ⟨false, (some y18522), (some true), (some (y18500.1 == (y18451.l.length : Int))), (some (y18500.1 == (y18451.l.length : Int))), (some true), (some (y18500.2 == p18499)), (some (y18500.2 == p18499)), (some true), (some y18524), (some y18524), (some false), none, (some false), rfl, rfl, hF⟩
     refine wF 67 hc3 ?_
     refine wh 29 ?_
     refine we ?_
     refine then_n ?_
     exact x_to hJ3 (VS.si [0] 1208925819614491734704111 (by kernel_rfl) (shh (b0 := .cells ((cL cAffidavitref24_State) a0 ++ (cL cHeld) a1)) (by kernel_rfl) (shb_cells (by kernel_rfl) (by kernel_rfl) (tights_app (tights_lows ((low_cL low_cAffidavitref24_State) _)) (tights_lows ((low_cL low_cHeld) _)))) shh_nil)) ⟨false, (some y18522), (some true), (some (y18500.1 == (y18451.l.length : Int))), (some (y18500.1 == (y18451.l.length : Int))), (some true), (some (y18500.2 == p18499)), (some (y18500.2 == p18499)), (some false), none, (some false), (some false), none, (some false), rfl, rfl, hF⟩
    refine wF 62 hc2 ?_
    refine wh 29 ?_
    refine we ?_
    refine then_n ?_
    exact x_to hJ3 (VS.si [0] 1208925819614491734704111 (by kernel_rfl) (shh (b0 := .cells ((cL cAffidavitref24_State) a0 ++ (cL cHeld) a1)) (by kernel_rfl) (shb_cells (by kernel_rfl) (by kernel_rfl) (tights_app (tights_lows ((low_cL low_cAffidavitref24_State) _)) (tights_lows ((low_cL low_cHeld) _)))) shh_nil)) ⟨false, (some y18522), (some true), (some (y18500.1 == (y18451.l.length : Int))), (some (y18500.1 == (y18451.l.length : Int))), (some false), none, (some false), (some false), none, (some false), (some false), none, (some false), rfl, rfl, hF⟩
   refine wF 56 hc1 ?_
   refine wh 29 ?_
   refine we ?_
   refine then_n ?_
   exact x_to hJ3 (VS.si [0] 1208925819614491734704111 (by kernel_rfl) (shh (b0 := .cells ((cL cAffidavitref24_State) a0 ++ (cL cHeld) a1)) (by kernel_rfl) (shb_cells (by kernel_rfl) (by kernel_rfl) (tights_app (tights_lows ((low_cL low_cAffidavitref24_State) _)) (tights_lows ((low_cL low_cHeld) _)))) shh_nil)) ⟨false, (some y18522), (some false), none, (some false), (some false), none, (some false), (some false), none, (some false), (some false), none, (some false), rfl, rfl, hF⟩
  refine xq ?_
  refine wh 1 ?_
  refine we ?_
  refine ng ?_
  refine xb ?_
  refine x_loop (fun d fr H => ∃ (x18537 : Int × Int) (g18531 : Option Bool), fr = [.nilptr, .ptr 0 0, .any, .any, .bool false, sl cHeld y18451, ownv (cI .i64) 1 g18483 1 p18484, .int .i64 x18537.1, .any, .int .i64 x18537.2, .any, .any, .any, .any, .any, .any, .any, .any, .any, .any, .bool false, .any, .any, .any, .any, .any, .any, .any, .any, .any, .any, .any, .any, .any, .any, .any, .any, junkB g18531, .any, .any, .any, .any, .any, .any, .any, .any, .any, .any, .any, .any, .any, .any, .any, .any, .any, .any, .any, .any, .any, .any, .any, .any, .any, .any, .any, .any, .any, .any, .any, .any, .any, .any, .any, .any, .any, .any, .any, .any, .any, .any] ∧ H = [.cells ((cL cAffidavitref24_State) a0 ++ (cL cHeld) a1), .room g18483 g18485] ∧ loopN (l24_same_2_B18537 a0 a1 y18451 p18484) d x18537 = some r) (by kernel_rfl) (fun fr H ⟨x18537, g18531, e1, e2, hF⟩ => loop_no hF) (fun d18537 fr H ⟨x18537, g18531, e1, e2, hF⟩ => ?_) (VS.sm 1208925819614629173656844) ⟨(0, 0), none, rfl, rfl, hF⟩
  subst e1 e2
  have hF := loop_in hF
  refine xs ?_
  refine xq ?_
  refine wh 4 ?_
  refine we ?_
  refine ng ?_
  refine ite_elim hF (fun hc5 hF => ?_) (fun hc5 hF => ?_)
  ·refine kT 37 hc5 ?_
   refine xT ?_
   refine xk ?_
   refine ng ?_
   refine xs ?_
   refine xb ?_
   refine xr ?_
   refine wh 3 ?_
   refine bind_elim hF (fun y18539 hy18539 hF => uI cHeld 2 hy18539 len_cHeld ?_)
   refine wh 5 ?_
   refine uE cHeld 1 (t := 3) (v := .int .i64 y18539.Size) 2 1 hy18539 len_cHeld ?_
   refine wh 8 ?_
   refine we ?_
   refine block_n ?_
   refine ng ?_
   refine xr ?_
   refine wh 3 ?_
   refine we ?_
   refine then_n ?_
   exact x_back (VS.sm 1208925819614629173656844) ⟨(iAdd .i64 x18537.1 y18539.Size, iAdd .i64 x18537.2 1), (some true), rfl, rfl, hF⟩
  refine kF 37 hc5 ?_
  refine xF ?_
  refine xe ?_
  refine then_e ?_
  refine then_e ?_
  refine block_e ?_
  refine then_n ?_
  exact x_to hJ2 (VS.sm 1208925819614491734703884) ⟨x18537.1, rfl, rfl, hF⟩
 refine xq ?_
 refine wh 1 ?_
 refine we ?_
 refine ng ?_
 refine xb ?_
 refine x_loop (fun d fr H => ∃ (x18566 : (Sl Int) × Int) (g18552 : Nat) (g18555 : Option Bool) (g18556 : Bool), fr = [.nilptr, .ptr 0 0, .any, .any, .bool false, sl cHeld y18451, ownv (cI .i64) 1 g18552 1 x18566.1, .int .i64 0, .int .i64 x18566.2, .any, .any, .any, .any, .any, .any, .any, .any, .any, .any, .any, junkB g18555, .any, .any, .any, .any, .any, .any, .any, .any, .any, .any, .any, .any, .any, .any, .any, .any, .any, .any, .any, .any, .any, .any, .any, .any, .any, .any, .any, .any, .any, .any, .any, .any, .any, .any, .any, .any, .any, .any, .any, .any, .any, .any, .any, .any, .any, .any, .any, .any, .any, .any, .any, .any, .any, .any, .any, .any, .any, .any, .any] ∧ H = [.cells ((cL cAffidavitref24_State) a0 ++ (cL cHeld) a1), .room g18552 g18556] ∧ loopN (l24_same_2_B18566 a0 a1 y18451) d x18566 = some r) (by kernel_rfl) (fun fr H ⟨x18566, g18552, g18555, g18556, e1, e2, hF⟩ => loop_no hF) (fun d18566 fr H ⟨x18566, g18552, g18555, g18556, e1, e2, hF⟩ => ?_) (VS.trans (VS.thaw (cI .i64) 6 1 ⟨true, true, []⟩ (by kernel_rfl) rfl (fun _ => rfl)) (VS.sm 1208925819614629174705676)) ⟨(⟨true, true, []⟩, 0), 1, none, false, rfl, rfl, hF⟩
 subst e1 e2
 have hF := loop_in hF
 refine xs ?_
 refine xq ?_
 refine wh 7 ?_
 refine we ?_
 refine ng ?_
 refine ite_elim hF (fun hc6 hF => ?_) (fun hc6 hF => ?_)
 ·refine kT 20 hc6 ?_
  refine xT ?_
  refine xk ?_
  refine ng ?_
  refine xs ?_
  refine xb ?_
  refine xr ?_
  refine wh 6 ?_
  refine bind_elim hF (fun y18569 hy18569 hF => uI cAffidavitref24_State 2 hy18569 len_cAffidavitref24_State ?_)
  refine wh 8 ?_
  refine uE cAffidavitref24_State 0 (t := 3) (v := .int .i64 y18569.N) 2 1 hy18569 len_cAffidavitref24_State ?_
  refine w_frz (v := sl (cI .i64) (⟨false, true, [y18569.N]⟩ : Sl Int)) (by kernel_rfl) ?_
  refine bind_elim hF (fun y18570 hy18570 hF => w_app (cI .i64) (e := 3) (sz := 1) (l0 := 1) (real := g18556) (ver := g18552) (x := x18566.1) (ys := (⟨false, true, [y18569.N]⟩ : Sl Int).l) hy18570 (by kernel_rfl) (by decide) (gives_sl (x := (⟨false, true, [y18569.N]⟩ : Sl Int)) (by kernel_rfl) (fun _ => rfl)) (room_at (by kernel_rfl)) ?_)
  refine wr 12 [.cells ((cL cAffidavitref24_State) a0 ++ (cL cHeld) a1), .room (g18552 + 1) (g18556 || !((⟨false, true, [y18569.N]⟩ : Sl Int).l.length == 0))] ?_
  refine we ?_
  refine block_n ?_
  refine ng ?_
  refine xr ?_
  refine wh 3 ?_
  refine we ?_
  refine then_n ?_
  exact x_back (VS.sm 1208925819614629174705676) ⟨(y18570, iAdd .i64 x18566.2 1), (g18552 + 1), (some true), (g18556 || !((⟨false, true, [y18569.N]⟩ : Sl Int).l.length == 0)), rfl, rfl, hF⟩
 refine kF 20 hc6 ?_
 refine xF ?_
 refine xe ?_
 refine then_e ?_
 refine then_e ?_
 refine block_e ?_
 refine then_n ?_
 exact x_to hJ1 (VS.sm 1208925819614629173657356) ⟨x18566.1, g18552, g18556, rfl, rfl, hF⟩
def l24_PruneReads_J1 (p18216 : Bool) : Option Bool :=
  some p18216
def l24_PruneReads_J2 (p18237 : Bool) : Option Bool :=
  some p18237
def l24_PruneReads (a0 : List UInt8) : Option Bool :=
  if iGt (a0.length : Int) 6000 = true then (awakeF).bind fun y18199 => some y18199 else (prune_Read a0).bind fun y18200 => Sum.elim (fun y18201 => (r24_Read a0).bind fun y18203 => Sum.elim (fun y18204 => if (y18201 != y18204) = true then some false else if (true == true) = true then (awakeF).bind fun y18209 => if y18209 = true then some true else some false else some false) (fun y18205 => if (y18201 != y18205.1) = true then some false else if (true == false) = true then (awakeF).bind fun y18213 => if y18213 = true then (prune_Book_Bytes_2).bind fun y18222 => if (y18222 == a0) = true then (l24_same_2 y18205.2.1 y18205.2.2).bind fun y18223 => l24_PruneReads_J1 y18223 else l24_PruneReads_J1 false else some false else some false) y18203) (fun y18202 => (r24_Read a0).bind fun y18224 => Sum.elim (fun y18225 => if (y18202.1 != y18225) = true then some false else if (false == true) = true then (awakeF).bind fun y18230 => if y18230 = true then some true else some false else some false) (fun y18226 => if (y18202.1 != y18226.1) = true then some false else if (false == false) = true then (awakeF).bind fun y18234 => if y18234 = true then (prune_Book_Bytes y18202.2.1 y18202.2.2).bind fun y18243 => if (y18243 == a0) = true then (l24_same y18202.2.1 y18202.2.2 y18226.2.1 y18226.2.2).bind fun y18244 => l24_PruneReads_J2 y18244 else l24_PruneReads_J2 false else some false else some false) y18224) y18200
theorem l24_PruneReads_ev {a0 : List UInt8} {r : Bool} (hF : l24_PruneReads a0 = some r) : EvCall Try.prog T G0 7 [.str a0] [] (fun v H' => v = .bool r ∧ H' = []) := by
 refine xc Try.func7 ?_
 refine xq ?_
 refine wh 1 ?_
 refine we ?_
 refine ng ?_
 refine xs ?_
 refine xq ?_
 refine wh 3 ?_
 refine we ?_
 refine ng ?_
 refine ite_elim hF (fun hc1 hF => ?_) (fun hc1 hF => ?_)
 ·refine kT 9 hc1 ?_
  refine xT ?_
  refine xq ?_
  refine bind_elim hF (fun y18199 hy18199 hF => uC (awakeF_ev hy18199) rfl rfl ?_)
  refine wh 2 ?_
  refine we ?_
  refine ng ?_
  refine xt ?_
  refine then_r ?_
  have e := Option.some.inj hF
  subst e
  exact fE [] (.inl rfl) rfl ⟨rfl, rfl⟩
 refine kF 9 hc1 ?_
 refine xF ?_
 refine xk ?_
 refine ng ?_
 refine xq ?_
 refine wh 1 ?_
 refine bind_elim hF (fun y18200 hy18200 hF => ?_)
 rcases y18200 with y18201 | y18202
 ·have hF := sum_l hF
  refine uOs [] [] (v := .tup [.nilptr, .int .i64 y18201]) [] (prune_Read_ev1 hy18200) (by kernel_rfl) pl_nil rfl sbs_nil ?_
  refine wh 7 ?_
  refine we ?_
  refine ng ?_
  refine xq ?_
  refine wh 1 ?_
  refine bind_elim hF (fun y18203 hy18203 hF => ?_)
  rcases y18203 with y18204 | y18205
  ·have hF := sum_l hF
   refine uOs [] [] (v := .tup [.nilptr, .int .i64 y18204]) [] (r24_Read_ev1 hy18203) (by kernel_rfl) pl_nil rfl sbs_nil ?_
   refine wh 7 ?_
   refine we ?_
   refine ng ?_
   refine xs ?_
   refine xq ?_
   refine wh 4 ?_
   refine ite_elim hF (fun hc2 hF => ?_) (fun hc2 hF => ?_)
   ·refine wT 24 hc2 ?_
    refine wh 14 ?_
    refine we ?_
    refine ng ?_
    refine xT ?_
    refine xq ?_
    refine wh 1 ?_
    refine we ?_
    refine ng ?_
    refine xt ?_
    refine then_r ?_
    have e := Option.some.inj hF
    subst e
    exact fE [] (.inl rfl) rfl ⟨rfl, rfl⟩
   refine wF 24 hc2 ?_
   refine wh 11 ?_
   refine ite_elim hF (fun hc3 hF => ?_) (fun hc3 hF => ?_)
   ·refine wF 31 (show (!(true == true)) = false by rw [hc3]; rfl) ?_
    refine bind_elim hF (fun y18209 hy18209 hF => uC (awakeF_ev hy18209) rfl rfl ?_)
    refine wh 14 ?_
    refine we ?_
    refine ng ?_
    refine ite_elim hF (fun hc4 hF => ?_) (fun hc4 hF => ?_)
    ·refine kF 34 (show (!y18209) = false by rw [hc4]; rfl) ?_
     refine xF ?_
     refine xk ?_
     refine ng ?_
     refine xq ?_
     refine wh 14 ?_
     refine we ?_
     refine ng ?_
     refine xt ?_
     have e := Option.some.inj hF
     subst e
     exact fE [] (.inl rfl) rfl ⟨rfl, rfl⟩
    refine kT 34 (show (!y18209) = true by rw [hc4]; rfl) ?_
    refine xT ?_
    refine xq ?_
    refine wh 1 ?_
    refine we ?_
    refine ng ?_
    refine xt ?_
    refine then_r ?_
    have e := Option.some.inj hF
    subst e
    exact fE [] (.inl rfl) rfl ⟨rfl, rfl⟩
   refine wT 31 (show (!(true == true)) = true by rw [hc3]; rfl) ?_
   refine wh 14 ?_
   refine we ?_
   refine ng ?_
   refine xT ?_
   refine xq ?_
   refine wh 1 ?_
   refine we ?_
   refine ng ?_
   refine xt ?_
   refine then_r ?_
   have e := Option.some.inj hF
   subst e
   exact fE [] (.inl rfl) rfl ⟨rfl, rfl⟩
  have hF := sum_r hF
  refine uO [] [0] (v := .tup [.ptr 0 0, .int .i64 y18205.1]) [.cells ((cL cAffidavitref24_State) y18205.2.1 ++ (cL cHeld) y18205.2.2)] [.cells ((cL cAffidavitref24_State) y18205.2.1 ++ (cL cHeld) y18205.2.2)] (r24_Read_ev2 hy18203) (by kernel_rfl) pl_nil rfl (sbs (sb_cells (by kernel_rfl) (by kernel_rfl) (tights_app (tights_lows ((low_cL low_cAffidavitref24_State) _)) (tights_lows ((low_cL low_cHeld) _)))) sbs_nil) ?_
  refine wh 7 ?_
  refine we ?_
  refine ng ?_
  refine xs ?_
  refine xq ?_
  refine wh 4 ?_
  refine ite_elim hF (fun hc5 hF => ?_) (fun hc5 hF => ?_)
  ·refine wT 24 hc5 ?_
   refine wh 14 ?_
   refine we ?_
   refine ng ?_
   refine xT ?_
   refine xq ?_
   refine wh 1 ?_
   refine we ?_
   refine ng ?_
   refine xt ?_
   refine then_r ?_
   have e := Option.some.inj hF
   subst e
   exact fE [] (.inl rfl) rfl ⟨rfl, rfl⟩
  refine wF 24 hc5 ?_
  refine wh 11 ?_
  refine ite_elim hF (fun hc6 hF => ?_) (fun hc6 hF => ?_)
  ·refine wF 31 (show (!(true == false)) = false by rw [hc6]; rfl) ?_
   refine bind_elim hF (fun y18213 hy18213 hF => uC (awakeF_ev hy18213) rfl rfl ?_)
   refine wh 14 ?_
   refine we ?_
   refine ng ?_
   refine ite_elim hF (fun hc7 hF => ?_) (fun hc7 hF => ?_)
   ·refine kF 34 (show (!y18213) = false by rw [hc7]; rfl) ?_
    refine xF ?_
    refine xk ?_
    refine ng ?_
    refine xj (fun fr H => ∃ (p18216 : Bool) (g18217 : Option Bool) (g18218 : Option Bool) (g18219 : Option Bool) (g18220 : Option Bool) (g18221 : Option Bool), fr = [.any, .any, .bool p18216, .any, .any, .any, .any, .any, .any, .bool false, .any, .any, .any, .any, .any, .any, .any, .any, .any, .any, .any, .any, .any, .bool (y18201 != y18205.1), .bool false, .any, .bool true, .any, .bool false, .bool (!(true == false)), .bool (!(true == false)), .bool false, .bool y18213, .bool (!y18213), .bool false, .any, .bool false, .bool false, .any, .any, .any, junkB g18217, junkB g18218, .any, .any, junkB g18219, junkB g18220, junkB g18221] ∧ H = [] ∧ l24_PruneReads_J1 p18216 = some r) (fun fr H ⟨p18216, g18217, g18218, g18219, g18220, g18221, e1, e2, hF⟩ => ?_) (fun hJ1 => ?_)
    ·subst e1 e2
     refine xt ?_
     have e := Option.some.inj hF
     subst e
     exact fE [] (.inl rfl) rfl ⟨rfl, rfl⟩
    refine xr ?_
    refine wh 4 ?_
    refine bind_elim hF (fun y18222 hy18222 hF => uC (prune_Book_Bytes_2_ev hy18222) (lows_cons rfl rfl) rfl ?_)
    refine wh 8 ?_
    refine ite_elim hF (fun hc8 hF => ?_) (fun hc8 hF => ?_)
    ·refine wT 42 hc8 ?_
     refine wh 10 ?_
     refine bind_elim hF (fun y18223 hy18223 hF => uOs [0] [0] (v := .bool y18223) [.cells ((cL cAffidavitref24_State) y18205.2.1 ++ (cL cHeld) y18205.2.2)] (l24_same_2_ev hy18223) (by kernel_rfl) (pl (b' := .cells ((cL cAffidavitref24_State) y18205.2.1 ++ (cL cHeld) y18205.2.2)) (by kernel_rfl) (sb_cells (by kernel_rfl) (by kernel_rfl) (tights_app (tights_lows ((low_cL low_cAffidavitref24_State) _)) (tights_lows ((low_cL low_cHeld) _)))) pl_nil) rfl (sbs (sb_cells (by kernel_rfl) (by kernel_rfl) (tights_app (tights_lows ((low_cL low_cAffidavitref24_State) _)) (tights_lows ((low_cL low_cHeld) _)))) sbs_nil) ?_)
     refine wh 14 ?_
     refine we ?_
     refine then_n ?_
     exact x_to hJ1 (VS.si [] 281234634702331 (by kernel_rfl) shh_nil) ⟨y18223, (some (y18222 == a0)), (some true), (some y18223), (some y18223), (some y18223), rfl, rfl, hF⟩
    refine wF 42 hc8 ?_
    refine wh 14 ?_
    refine we ?_
    refine then_n ?_
    exact x_to hJ1 (VS.si [] 281234634702331 (by kernel_rfl) shh_nil) ⟨false, (some (y18222 == a0)), (some false), none, (some false), (some false), rfl, rfl, hF⟩
   refine kT 34 (show (!y18213) = true by rw [hc7]; rfl) ?_
   refine xT ?_
   refine xq ?_
   refine wh 1 ?_
   refine we ?_
   refine ng ?_
   refine xt ?_
   refine then_r ?_
   have e := Option.some.inj hF
   subst e
   exact fE [] (.inl rfl) rfl ⟨rfl, rfl⟩
  refine wT 31 (show (!(true == false)) = true by rw [hc6]; rfl) ?_
  refine wh 14 ?_
  refine we ?_
  refine ng ?_
  refine xT ?_
  refine xq ?_
  refine wh 1 ?_
  refine we ?_
  refine ng ?_
  refine xt ?_
  refine then_r ?_
  have e := Option.some.inj hF
  subst e
  exact fE [] (.inl rfl) rfl ⟨rfl, rfl⟩
 have hF := sum_r hF
 refine uO [] [0, 1] (v := .tup [.ptr 0 0, .int .i64 y18202.1]) [.cells ((cL cPrune_state) y18202.2.1 ++ [rfv false y18202.2.2 1 2]), rfb cHeld y18202.2.2] [.cells ((cL cPrune_state) y18202.2.1 ++ [rfv false y18202.2.2 1 2]), rfb cHeld y18202.2.2] (prune_Read_ev2 hy18200) (by kernel_rfl) pl_nil rfl (sbs (sb_cells (by kernel_rfl) (by kernel_rfl) (tights_app (tights_lows ((low_cL low_cPrune_state) _)) (tights_cons rfl rfl))) (sbs (sb_low (noref_rfb low_cHeld _)) sbs_nil)) ?_
 refine wh 7 ?_
 refine we ?_
 refine ng ?_
 refine xq ?_
 refine wh 1 ?_
 refine bind_elim hF (fun y18224 hy18224 hF => ?_)
 rcases y18224 with y18225 | y18226
 ·have hF := sum_l hF
  refine uOs [] [] (v := .tup [.nilptr, .int .i64 y18225]) [] (r24_Read_ev1 hy18224) (by kernel_rfl) pl_nil rfl sbs_nil ?_
  refine wh 7 ?_
  refine we ?_
  refine ng ?_
  refine xs ?_
  refine xq ?_
  refine wh 4 ?_
  refine ite_elim hF (fun hc9 hF => ?_) (fun hc9 hF => ?_)
  ·refine wT 24 hc9 ?_
   refine wh 14 ?_
   refine we ?_
   refine ng ?_
   refine xT ?_
   refine xq ?_
   refine wh 1 ?_
   refine we ?_
   refine ng ?_
   refine xt ?_
   refine then_r ?_
   have e := Option.some.inj hF
   subst e
   exact fE [] (.inl rfl) rfl ⟨rfl, rfl⟩
  refine wF 24 hc9 ?_
  refine wh 11 ?_
  refine ite_elim hF (fun hc10 hF => ?_) (fun hc10 hF => ?_)
  ·refine wF 31 (show (!(false == true)) = false by rw [hc10]; rfl) ?_
   refine bind_elim hF (fun y18230 hy18230 hF => uC (awakeF_ev hy18230) rfl rfl ?_)
   refine wh 14 ?_
   refine we ?_
   refine ng ?_
   refine ite_elim hF (fun hc11 hF => ?_) (fun hc11 hF => ?_)
   ·refine kF 34 (show (!y18230) = false by rw [hc11]; rfl) ?_
    refine xF ?_
    refine xk ?_
    refine ng ?_
    refine xq ?_
    refine wh 14 ?_
    refine we ?_
    refine ng ?_
    refine xt ?_
    have e := Option.some.inj hF
    subst e
    exact fE [] (.inl rfl) rfl ⟨rfl, rfl⟩
   refine kT 34 (show (!y18230) = true by rw [hc11]; rfl) ?_
   refine xT ?_
   refine xq ?_
   refine wh 1 ?_
   refine we ?_
   refine ng ?_
   refine xt ?_
   refine then_r ?_
   have e := Option.some.inj hF
   subst e
   exact fE [] (.inl rfl) rfl ⟨rfl, rfl⟩
  refine wT 31 (show (!(false == true)) = true by rw [hc10]; rfl) ?_
  refine wh 14 ?_
  refine we ?_
  refine ng ?_
  refine xT ?_
  refine xq ?_
  refine wh 1 ?_
  refine we ?_
  refine ng ?_
  refine xt ?_
  refine then_r ?_
  have e := Option.some.inj hF
  subst e
  exact fE [] (.inl rfl) rfl ⟨rfl, rfl⟩
 have hF := sum_r hF
 refine uO [] [2] (v := .tup [.ptr 2 0, .int .i64 y18226.1]) [.cells ((cL cAffidavitref24_State) y18226.2.1 ++ (cL cHeld) y18226.2.2)] [.cells ((cL cPrune_state) y18202.2.1 ++ [rfv false y18202.2.2 1 2]), rfb cHeld y18202.2.2, .cells ((cL cAffidavitref24_State) y18226.2.1 ++ (cL cHeld) y18226.2.2)] (r24_Read_ev2 hy18224) (by kernel_rfl) pl_nil rfl (sbs (sb_cells (by kernel_rfl) (by kernel_rfl) (tights_app (tights_lows ((low_cL low_cAffidavitref24_State) _)) (tights_lows ((low_cL low_cHeld) _)))) sbs_nil) ?_
 refine wh 7 ?_
 refine we ?_
 refine ng ?_
 refine xs ?_
 refine xq ?_
 refine wh 4 ?_
 refine ite_elim hF (fun hc12 hF => ?_) (fun hc12 hF => ?_)
 ·refine wT 24 hc12 ?_
  refine wh 14 ?_
  refine we ?_
  refine ng ?_
  refine xT ?_
  refine xq ?_
  refine wh 1 ?_
  refine we ?_
  refine ng ?_
  refine xt ?_
  refine then_r ?_
  have e := Option.some.inj hF
  subst e
  exact fE [] (.inl rfl) rfl ⟨rfl, rfl⟩
 refine wF 24 hc12 ?_
 refine wh 11 ?_
 refine ite_elim hF (fun hc13 hF => ?_) (fun hc13 hF => ?_)
 ·refine wF 31 (show (!(false == false)) = false by rw [hc13]; rfl) ?_
  refine bind_elim hF (fun y18234 hy18234 hF => uC (awakeF_ev hy18234) rfl rfl ?_)
  refine wh 14 ?_
  refine we ?_
  refine ng ?_
  refine ite_elim hF (fun hc14 hF => ?_) (fun hc14 hF => ?_)
  ·refine kF 34 (show (!y18234) = false by rw [hc14]; rfl) ?_
   refine xF ?_
   refine xk ?_
   refine ng ?_
   refine xj (fun fr H => ∃ (p18237 : Bool) (g18238 : Option Bool) (g18239 : Option Bool) (g18240 : Option Bool) (g18241 : Option Bool) (g18242 : Option Bool), fr = [.any, .any, .bool p18237, .any, .any, .any, .any, .any, .any, .bool false, .any, .any, .any, .any, .any, .any, .any, .any, .any, .any, .any, .any, .any, .bool (y18202.1 != y18226.1), .bool false, .any, .bool false, .any, .bool false, .bool (!(false == false)), .bool (!(false == false)), .bool false, .bool y18234, .bool (!y18234), .bool false, .any, .bool false, .bool false, .any, .any, .any, junkB g18238, junkB g18239, .any, .any, junkB g18240, junkB g18241, junkB g18242] ∧ H = [] ∧ l24_PruneReads_J2 p18237 = some r) (fun fr H ⟨p18237, g18238, g18239, g18240, g18241, g18242, e1, e2, hF⟩ => ?_) (fun hJ2 => ?_)
   ·subst e1 e2
    refine xt ?_
    have e := Option.some.inj hF
    subst e
    exact fE [] (.inl rfl) rfl ⟨rfl, rfl⟩
   refine xr ?_
   refine wh 4 ?_
   refine bind_elim hF (fun y18243 hy18243 hF => uOs [0, 1] [0, 1] (v := .str y18243) [.cells ((cL cPrune_state) y18202.2.1 ++ [rfv false y18202.2.2 1 2]), rfb cHeld y18202.2.2] (prune_Book_Bytes_ev hy18243) (by kernel_rfl) (pl (b' := .cells ((cL cPrune_state) y18202.2.1 ++ [rfv false y18202.2.2 1 2])) (by kernel_rfl) (sb_cells (by kernel_rfl) (by kernel_rfl) (tights_app (tights_lows ((low_cL low_cPrune_state) _)) (tights_cons rfl rfl))) (pl (b' := rfb cHeld y18202.2.2) (by kernel_rfl) (sb_low (noref_rfb low_cHeld _)) pl_nil)) rfl (sbs (sb_cells (by kernel_rfl) (by kernel_rfl) (tights_app (tights_lows ((low_cL low_cPrune_state) _)) (tights_cons rfl rfl))) (sbs (sb_low (noref_rfb low_cHeld _)) sbs_nil)) ?_)
   refine wh 8 ?_
   refine ite_elim hF (fun hc15 hF => ?_) (fun hc15 hF => ?_)
   ·refine wT 42 hc15 ?_
    refine wh 10 ?_
    refine bind_elim hF (fun y18244 hy18244 hF => uOs [0, 1, 2] [0, 1, 2] (v := .bool y18244) [.cells ((cL cPrune_state) y18202.2.1 ++ [rfv false y18202.2.2 1 2]), rfb cHeld y18202.2.2, .cells ((cL cAffidavitref24_State) y18226.2.1 ++ (cL cHeld) y18226.2.2)] (l24_same_ev hy18244) (by kernel_rfl) (pl (b' := .cells ((cL cPrune_state) y18202.2.1 ++ [rfv false y18202.2.2 1 2])) (by kernel_rfl) (sb_cells (by kernel_rfl) (by kernel_rfl) (tights_app (tights_lows ((low_cL low_cPrune_state) _)) (tights_cons rfl rfl))) (pl (b' := rfb cHeld y18202.2.2) (by kernel_rfl) (sb_low (noref_rfb low_cHeld _)) (pl (b' := .cells ((cL cAffidavitref24_State) y18226.2.1 ++ (cL cHeld) y18226.2.2)) (by kernel_rfl) (sb_cells (by kernel_rfl) (by kernel_rfl) (tights_app (tights_lows ((low_cL low_cAffidavitref24_State) _)) (tights_lows ((low_cL low_cHeld) _)))) pl_nil))) rfl (sbs (sb_cells (by kernel_rfl) (by kernel_rfl) (tights_app (tights_lows ((low_cL low_cPrune_state) _)) (tights_cons rfl rfl))) (sbs (sb_low (noref_rfb low_cHeld _)) (sbs (sb_cells (by kernel_rfl) (by kernel_rfl) (tights_app (tights_lows ((low_cL low_cAffidavitref24_State) _)) (tights_lows ((low_cL low_cHeld) _)))) sbs_nil))) ?_)
    refine wh 14 ?_
    refine we ?_
    refine then_n ?_
    exact x_to hJ2 (VS.si [] 281234634702331 (by kernel_rfl) shh_nil) ⟨y18244, (some (y18243 == a0)), (some true), (some y18244), (some y18244), (some y18244), rfl, rfl, hF⟩
   refine wF 42 hc15 ?_
   refine wh 14 ?_
   refine we ?_
   refine then_n ?_
   exact x_to hJ2 (VS.si [] 281234634702331 (by kernel_rfl) shh_nil) ⟨false, (some (y18243 == a0)), (some false), none, (some false), (some false), rfl, rfl, hF⟩
  refine kT 34 (show (!y18234) = true by rw [hc14]; rfl) ?_
  refine xT ?_
  refine xq ?_
  refine wh 1 ?_
  refine we ?_
  refine ng ?_
  refine xt ?_
  refine then_r ?_
  have e := Option.some.inj hF
  subst e
  exact fE [] (.inl rfl) rfl ⟨rfl, rfl⟩
 refine wT 31 (show (!(false == false)) = true by rw [hc13]; rfl) ?_
 refine wh 14 ?_
 refine we ?_
 refine ng ?_
 refine xT ?_
 refine xq ?_
 refine wh 1 ?_
 refine we ?_
 refine ng ?_
 refine xt ?_
 refine then_r ?_
 have e := Option.some.inj hF
 subst e
 exact fE [] (.inl rfl) rfl ⟨rfl, rfl⟩
end Go.Proofs.Ytbdomlbmbcnaeaa
