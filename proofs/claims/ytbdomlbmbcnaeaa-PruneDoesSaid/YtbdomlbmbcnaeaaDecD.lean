/- What each function of these laws comes to. Printed by main.py; no conditions. -/
import Derived.Test.YtbdomlbmbcnaeaaSort
import Derived.Test.YtbdomlbmbcnaeaaAwk
import Derived.Test.YtbdomlbmbcnaeaaAbnC
import Derived.Test.YtbdomlbmbcnaeaaDecA
import Derived.Test.YtbdomlbmbcnaeaaComp
import Derived.Test.YtbdomlbmbcnaeaaDecO
namespace Go.Proofs.Ytbdomlbmbcnaeaa
open Go.Abs
set_option maxRecDepth 100000
attribute [local irreducible] ev evAt evW evList evOp evRes EvCall VS aop aload astore AX.then AX.inBlock kRun kRunQ aput evRows
set_option linter.unusedVariables false
def lay_digits_J1 (a2 : Int) (g17658 : Nat) (p17659 : Sl Int) (g17661 : Bool) : Option ((Sl Int) × Nat × Bool) :=
  (appL 1 p17659 (⟨false, true, [IntKind.wrap .u8 (iAdd .u64 48 (iRem a2 10))]⟩ : Sl Int).l).bind fun y17662 => some (y17662, (g17658 + 1), (g17661 || !((⟨false, true, [IntKind.wrap .u8 (iAdd .u64 48 (iRem a2 10))]⟩ : Sl Int).l.length == 0)))
def lay_digits_R (rc : (Bool × (List Int) × Int) → Option ((Sl Int) × Nat × Bool)) (a0 : Bool) (a1 : List Int) (a2 : Int) : Option ((Sl Int) × Nat × Bool) :=
  if iGe a2 10 = true then (rc (a0, a1, iQuo .u64 a2 10)).bind fun y17663 => lay_digits_J1 a2 y17663.2.1 y17663.1 y17663.2.2 else lay_digits_J1 a2 1 (⟨a0, true, a1⟩ : Sl Int) false
def lay_digits (a0 : Bool) (a1 : List Int) (a2 : Int) : Option ((Sl Int) × Nat × Bool) := loopN (fun rc (x : Bool × (List Int) × Int) => lay_digits_R rc x.1 x.2.1 x.2.2) FUEL (a0, a1, a2)
theorem lay_digits_ih : ∀ (d : Nat) {a0 : Bool} {a1 : List Int} {a2 : Int} {r : (Sl Int) × Nat × Bool} (hF : loopN (fun rc (x : Bool × (List Int) × Int) => lay_digits_R rc x.1 x.2.1 x.2.2) d (a0, a1, a2) = some r), EvCall Try.prog T G0 48 [sl (cI .u8) (⟨a0, true, a1⟩ : Sl Int), .int .u64 a2] [] (fun v H' => v = ownv (cI .u8) 0 r.2.1 1 r.1 ∧ H' = [.room r.2.1 r.2.2]) := by
  intro d
  induction d with
  | zero => intro _ _ _ _ hF; cases hF
  | succ d ih =>
    intro a0 a1 a2 r hF
    have hF := loop_in hF
    refine xc Try.func48 ?_
    refine xq ?_
    refine wh 1 ?_
    refine we ?_
    refine ng ?_
    refine xj (fun fr H => ∃ (g17658 : Nat) (p17659 : Sl Int) (g17661 : Bool) (g17660 : Option Bool), fr = [ownv (cI .u8) 0 g17658 1 p17659, .int .u64 a2, .any, .any, .any, .any, junkB g17660, .any, .any, .any, .any, .any, .any, .any, .any, .any, .any, .any] ∧ H = [.room g17658 g17661] ∧ lay_digits_J1 a2 g17658 p17659 g17661 = some r) (fun fr H ⟨g17658, p17659, g17661, g17660, e1, e2, hF⟩ => ?_) (fun hJ1 => ?_)
    ·subst e1 e2
     refine xq ?_
     refine wh 5 ?_
     refine w_frz (v := sl (cI .u8) (⟨false, true, [IntKind.wrap .u8 (iAdd .u64 48 (iRem a2 10))]⟩ : Sl Int)) (by kernel_rfl) ?_
     refine bind_elim hF (fun y17662 hy17662 hF => w_app (cI .u8) (e := 5) (sz := 1) (l0 := 0) (real := g17661) (ver := g17658) (x := p17659) (ys := (⟨false, true, [IntKind.wrap .u8 (iAdd .u64 48 (iRem a2 10))]⟩ : Sl Int).l) hy17662 (by kernel_rfl) (by decide) (gives_sl (x := (⟨false, true, [IntKind.wrap .u8 (iAdd .u64 48 (iRem a2 10))]⟩ : Sl Int)) (by kernel_rfl) (fun _ => rfl)) (room_at (by kernel_rfl)) ?_)
     refine wr 8 [.room (g17658 + 1) (g17661 || !((⟨false, true, [IntKind.wrap .u8 (iAdd .u64 48 (iRem a2 10))]⟩ : Sl Int).l.length == 0))] ?_
     refine we ?_
     refine ng ?_
     refine xt ?_
     have e := Option.some.inj hF
     subst e
     exact fin_own [0] (.inl rfl) (by kernel_rfl) (by kernel_rfl) (by kernel_rfl) (by kernel_rfl) (tight_own low_cI) (shh (b0 := .room (g17658 + 1) (g17661 || !((⟨false, true, [IntKind.wrap .u8 (iAdd .u64 48 (iRem a2 10))]⟩ : Sl Int).l.length == 0))) (by kernel_rfl) shb_room shh_nil) (And.intro rfl rfl)
    refine xq ?_
    refine wh 2 ?_
    refine we ?_
    refine ng ?_
    refine ite_elim hF (fun hc1 hF => ?_) (fun hc1 hF => ?_)
    ·refine kT 6 hc1 ?_
     refine xT ?_
     refine xr ?_
     refine wh 3 ?_
     refine bind_elim hF (fun y17663 hy17663 hF => uO [] [0] (v := ownv (cI .u8) 0 y17663.2.1 1 y17663.1) [.room y17663.2.1 y17663.2.2] [.room y17663.2.1 y17663.2.2] (ih hy17663) (tights_cons (tight_sl low_cI) (tights_cons rfl rfl)) pl_nil (tight_own low_cI) (sbs sb_room sbs_nil) ?_)
     refine wh 5 ?_
     refine we ?_
     refine then_n ?_
     exact x_to hJ1 (VS.sm 262140) ⟨y17663.2.1, y17663.1, y17663.2.2, (some true), rfl, rfl, hF⟩
    refine kF 6 hc1 ?_
    refine xF ?_
    refine xk ?_
    refine then_n ?_
    exact x_to hJ1 (VS.trans (VS.thaw (cI .u8) 0 1 (⟨a0, true, a1⟩ : Sl Int) (by kernel_rfl) rfl (fun _ => rfl)) (VS.sm 262140)) ⟨1, (⟨a0, true, a1⟩ : Sl Int), false, (some false), rfl, rfl, hF⟩
theorem lay_digits_ev {a0 : Bool} {a1 : List Int} {a2 : Int} {r : (Sl Int) × Nat × Bool} (hF : lay_digits a0 a1 a2 = some r) : EvCall Try.prog T G0 48 [sl (cI .u8) (⟨a0, true, a1⟩ : Sl Int), .int .u64 a2] [] (fun v H' => v = ownv (cI .u8) 0 r.2.1 1 r.1 ∧ H' = [.room r.2.1 r.2.2]) := lay_digits_ih FUEL hF
def lay_Number (a0 : Int) : Option (List UInt8) :=
  if iLt a0 0 = true then (lay_digits false [45] (iNeg .u64 (IntKind.wrap .u64 a0))).bind fun y17659 => (appL 1 y17659.1 (⟨false, true, [59]⟩ : Sl Int).l).bind fun y17660 => some (bytesS y17660.l) else (lay_digits true [] (IntKind.wrap .u64 a0)).bind fun y17661 => (appL 1 y17661.1 (⟨false, true, [59]⟩ : Sl Int).l).bind fun y17662 => some (bytesS y17662.l)
theorem lay_Number_ev {a0 : Int} {r : (List UInt8)} (hF : lay_Number a0 = some r) : EvCall Try.prog T G0 36 [.int .i64 a0] [] (fun v H' => v = .str r ∧ H' = []) := by
 refine xc Try.func36 ?_
 refine xq ?_
 refine wh 1 ?_
 refine we ?_
 refine ng ?_
 refine xs ?_
 refine xq ?_
 refine wh 2 ?_
 refine we ?_
 refine ng ?_
 refine ite_elim hF (fun hc1 hF => ?_) (fun hc1 hF => ?_)
 ·refine kT 4 hc1 ?_
  refine xT ?_
  refine xq ?_
  refine w_frz (v := sl (cI .u8) (⟨false, true, [45]⟩ : Sl Int)) (by kernel_rfl) ?_
  refine wh 4 ?_
  refine bind_elim hF (fun y17659 hy17659 hF => uO [] [0] (v := ownv (cI .u8) 0 y17659.2.1 1 y17659.1) [.room y17659.2.1 y17659.2.2] [.room y17659.2.1 y17659.2.2] (lay_digits_ev hy17659) (tights_cons (tight_sl low_cI) (tights_cons rfl rfl)) pl_nil (tight_own low_cI) (sbs sb_room sbs_nil) ?_)
  refine w_frz (v := sl (cI .u8) (⟨false, true, [59]⟩ : Sl Int)) (by kernel_rfl) ?_
  refine bind_elim hF (fun y17660 hy17660 hF => w_app (cI .u8) (e := 5) (sz := 1) (l0 := 0) (real := y17659.2.2) (ver := y17659.2.1) (x := y17659.1) (ys := (⟨false, true, [59]⟩ : Sl Int).l) hy17660 (by kernel_rfl) (by decide) (gives_sl (x := (⟨false, true, [59]⟩ : Sl Int)) (by kernel_rfl) (fun _ => rfl)) (room_at (by kernel_rfl)) ?_)
  refine w_str (l := y17660.l) (by kernel_rfl) ?_
  refine wr 9 [.room (y17659.2.1 + 1) (y17659.2.2 || !((⟨false, true, [59]⟩ : Sl Int).l.length == 0))] ?_
  refine we ?_
  refine ng ?_
  refine xt ?_
  refine then_r ?_
  have e := Option.some.inj hF
  subst e
  exact fE [] (.inl rfl) rfl ⟨rfl, rfl⟩
 refine kF 4 hc1 ?_
 refine xF ?_
 refine xk ?_
 refine ng ?_
 refine xq ?_
 refine wh 2 ?_
 refine bind_elim hF (fun y17661 hy17661 hF => uO [] [0] (v := ownv (cI .u8) 0 y17661.2.1 1 y17661.1) [.room y17661.2.1 y17661.2.2] [.room y17661.2.1 y17661.2.2] (lay_digits_ev hy17661) (tights_cons (tight_sl low_cI) (tights_cons rfl rfl)) pl_nil (tight_own low_cI) (sbs sb_room sbs_nil) ?_)
 refine w_frz (v := sl (cI .u8) (⟨false, true, [59]⟩ : Sl Int)) (by kernel_rfl) ?_
 refine bind_elim hF (fun y17662 hy17662 hF => w_app (cI .u8) (e := 5) (sz := 1) (l0 := 0) (real := y17661.2.2) (ver := y17661.2.1) (x := y17661.1) (ys := (⟨false, true, [59]⟩ : Sl Int).l) hy17662 (by kernel_rfl) (by decide) (gives_sl (x := (⟨false, true, [59]⟩ : Sl Int)) (by kernel_rfl) (fun _ => rfl)) (room_at (by kernel_rfl)) ?_)
 refine w_str (l := y17662.l) (by kernel_rfl) ?_
 refine wr 7 [.room (y17661.2.1 + 1) (y17661.2.2 || !((⟨false, true, [59]⟩ : Sl Int).l.length == 0))] ?_
 refine we ?_
 refine ng ?_
 refine xt ?_
 have e := Option.some.inj hF
 subst e
 exact fE [] (.inl rfl) rfl ⟨rfl, rfl⟩
def lay_Numbers_1 (a0 : Int) : Option ((List UInt8) × Int) :=
  (lay_Number a0).bind fun y17722 => some (y17722, 0)
theorem lay_Numbers_1_ev {a0 : Int} {r : (List UInt8) × Int} (hF : lay_Numbers_1 a0 = some r) : EvCall Try.prog T G0 69 [.int .i64 a0] [] (fun v H' => v = .tup [.str r.1, .int .i64 r.2] ∧ H' = []) := by
 refine xc Try.func69 ?_
 refine xq ?_
 refine wh 2 ?_
 refine we ?_
 refine ng ?_
 refine xq ?_
 refine wh 1 ?_
 refine bind_elim hF (fun y17722 hy17722 hF => uC (lay_Number_ev hy17722) (lows_cons rfl rfl) rfl ?_)
 refine wh 4 ?_
 refine we ?_
 refine ng ?_
 refine xt ?_
 have e := Option.some.inj hF
 subst e
 exact fE [] (.inl rfl) (low_tup (lows_cons rfl (lows_cons rfl rfl))) ⟨rfl, rfl⟩
def lay_list_int_J1 (p17764 : Sl Int) : Option ((List UInt8) × Int) :=
  (appL 1 p17764 (⟨false, true, [41]⟩ : Sl Int).l).bind fun y17767 => some (bytesS y17767.l, 0)
def lay_list_int_B17803 (a0 : Sl Int) (k17803 : ((Sl Int) × Int) → Option ((List UInt8) × Int)) (x17803 : (Sl Int) × Int) : Option ((List UInt8) × Int) :=
  if iLt x17803.2 (a0.l.length : Int) = true then (idxL a0.l x17803.2).bind fun y17807 => (lay_Numbers_1 y17807).bind fun y17808 => if (y17808.2 != 0) = true then some ([], y17808.2) else (appL 1 x17803.1 (intsS y17808.1)).bind fun y17809 => k17803 (y17809, iAdd .i64 x17803.2 1) else lay_list_int_J1 x17803.1
def lay_list_int (a0 : Sl Int) : Option ((List UInt8) × Int) :=
  if iGt (a0.l.length : Int) 512 = true then some ([], 4) else loopN (lay_list_int_B17803 a0) FUEL ((⟨false, true, [40]⟩ : Sl Int), 0)
theorem lay_list_int_ev {a0 : Sl Int} {r : (List UInt8) × Int} (hF : lay_list_int a0 = some r) : EvCall Try.prog T G0 68 [sl (cI .i64) a0, .fn 69 [] []] [] (fun v H' => v = .tup [.str r.1, .int .i64 r.2] ∧ H' = []) := by
 refine xc Try.func68 ?_
 refine xq ?_
 refine wh 2 ?_
 refine we ?_
 refine ng ?_
 refine xs ?_
 refine xq ?_
 refine wh 3 ?_
 refine we ?_
 refine ng ?_
 refine ite_elim hF (fun hc1 hF => ?_) (fun hc1 hF => ?_)
 ·refine kT 13 hc1 ?_
  refine xT ?_
  refine xq ?_
  refine wh 2 ?_
  refine we ?_
  refine ng ?_
  refine xt ?_
  refine then_r ?_
  have e := Option.some.inj hF
  subst e
  exact fE [] (.inl rfl) (low_tup (lows_cons rfl (lows_cons rfl rfl))) ⟨rfl, rfl⟩
 refine kF 13 hc1 ?_
 refine xF ?_
 refine xk ?_
 refine ng ?_
 refine xq ?_
 refine w_frz (v := sl (cI .u8) (⟨false, true, [40]⟩ : Sl Int)) (by kernel_rfl) ?_
 refine wh 2 ?_
 refine we ?_
 refine ng ?_
 refine xj (fun fr H => ∃ (p17764 : Sl Int) (g17763 : Nat) (g17765 : Option Bool) (g17766 : Bool), fr = [.any, .any, .any, .any, .any, .any, ownv (cI .u8) 0 g17763 1 p17764, .any, .any, .any, .any, .any, .any, .bool false, .any, .any, .any, .any, .bool false, .any, .any, .any, .any, .any, .any, .any, .any, .any, junkB g17765, .any, .any, .any, .any, .any, .any, .any, .any, .any] ∧ H = [.room g17763 g17766] ∧ lay_list_int_J1 p17764 = some r) (fun fr H ⟨p17764, g17763, g17765, g17766, e1, e2, hF⟩ => ?_) (fun hJ1 => ?_)
 ·subst e1 e2
  refine xq ?_
  refine wh 1 ?_
  refine w_frz (v := sl (cI .u8) (⟨false, true, [41]⟩ : Sl Int)) (by kernel_rfl) ?_
  refine bind_elim hF (fun y17767 hy17767 hF => w_app (cI .u8) (e := 5) (sz := 1) (l0 := 0) (real := g17766) (ver := g17763) (x := p17764) (ys := (⟨false, true, [41]⟩ : Sl Int).l) hy17767 (by kernel_rfl) (by decide) (gives_sl (x := (⟨false, true, [41]⟩ : Sl Int)) (by kernel_rfl) (fun _ => rfl)) (room_at (by kernel_rfl)) ?_)
  refine w_str (l := y17767.l) (by kernel_rfl) ?_
  refine wr 6 [.room (g17763 + 1) (g17766 || !((⟨false, true, [41]⟩ : Sl Int).l.length == 0))] ?_
  refine we ?_
  refine ng ?_
  refine xt ?_
  have e := Option.some.inj hF
  subst e
  exact fE [] (.inl rfl) (low_tup (lows_cons rfl (lows_cons rfl rfl))) ⟨rfl, rfl⟩
 refine xq ?_
 refine wh 3 ?_
 refine we ?_
 refine ng ?_
 refine xb ?_
 refine x_loop (fun d fr H => ∃ (x17803 : (Sl Int) × Int) (g17785 : Nat) (g17788 : Option Bool) (g17789 : Option Bool) (g17790 : Bool), fr = [.any, .fn 69 [] [], .any, .any, .any, .any, ownv (cI .u8) 0 g17785 1 x17803.1, .any, .any, .any, .any, .any, .any, .bool false, .any, sl (cI .i64) a0, .int .i64 (a0.l.length : Int), .int .i64 x17803.2, junkB g17788, .any, .any, .any, .any, .any, .any, .any, .any, .any, junkB g17789, .any, .any, .any, .any, .any, .any, .any, .any, .any] ∧ H = [.room g17785 g17790] ∧ loopN (lay_list_int_B17803 a0) d x17803 = some r) (by kernel_rfl) (fun fr H ⟨x17803, g17785, g17788, g17789, g17790, e1, e2, hF⟩ => loop_no hF) (fun d17803 fr H ⟨x17803, g17785, g17788, g17789, g17790, e1, e2, hF⟩ => ?_) (VS.trans (VS.thaw (cI .u8) 6 1 (⟨false, true, [40]⟩ : Sl Int) (by kernel_rfl) rfl (fun _ => rfl)) (VS.sm 274877669309)) ⟨((⟨false, true, [40]⟩ : Sl Int), 0), 1, none, none, false, rfl, rfl, hF⟩
 subst e1 e2
 have hF := loop_in hF
 refine xq ?_
 refine wh 1 ?_
 refine we ?_
 refine ng ?_
 refine xs ?_
 refine ite_elim hF (fun hc2 hF => ?_) (fun hc2 hF => ?_)
 ·refine kT 18 hc2 ?_
  refine xT ?_
  refine xk ?_
  refine ng ?_
  refine xs ?_
  refine xb ?_
  refine xq ?_
  refine bind_elim hF (fun y17807 hy17807 hF => uI (cI .i64) 1 hy17807 (fun _ => rfl) ?_)
  refine uE (cI .i64) 0 (t := 3) (v := .int .i64 y17807) 1 1 hy17807 (fun _ => rfl) ?_
  refine wh 3 ?_
  refine we ?_
  refine ng ?_
  refine xq ?_
  refine wh 2 ?_
  refine bind_elim hF (fun y17808 hy17808 hF => uC (lay_Numbers_1_ev hy17808) (lows_cons rfl rfl) (low_tup (lows_cons rfl (lows_cons rfl rfl))) ?_)
  refine wh 8 ?_
  refine we ?_
  refine ng ?_
  refine xs ?_
  refine xq ?_
  refine wh 2 ?_
  refine we ?_
  refine ng ?_
  refine ite_elim hF (fun hc3 hF => ?_) (fun hc3 hF => ?_)
  ·refine kT 28 hc3 ?_
   refine xT ?_
   refine xq ?_
   refine wh 3 ?_
   refine we ?_
   refine ng ?_
   refine xt ?_
   refine then_r ?_
   refine block_r ?_
   refine then_r ?_
   refine then_r ?_
   refine block_r ?_
   refine then_r ?_
   have e := Option.some.inj hF
   subst e
   exact fE [] (.inl rfl) (low_tup (lows_cons rfl (lows_cons rfl rfl))) ⟨rfl, rfl⟩
  refine kF 28 hc3 ?_
  refine xF ?_
  refine xk ?_
  refine ng ?_
  refine xr ?_
  refine wh 2 ?_
  refine bind_elim hF (fun y17809 hy17809 hF => w_app (cI .u8) (e := 5) (sz := 1) (l0 := 0) (real := g17790) (ver := g17785) (x := x17803.1) (ys := (intsS y17808.1)) hy17809 (by kernel_rfl) (by decide) (gives_str (by kernel_rfl)) (room_at (by kernel_rfl)) ?_)
  refine wr 4 [.room (g17785 + 1) (g17790 || !((intsS y17808.1).length == 0))] ?_
  refine we ?_
  refine block_n ?_
  refine ng ?_
  refine xr ?_
  refine wh 2 ?_
  refine we ?_
  refine then_n ?_
  exact x_back (VS.sm 274877669309) ⟨(y17809, iAdd .i64 x17803.2 1), (g17785 + 1), (some true), (some false), (g17790 || !((intsS y17808.1).length == 0)), rfl, rfl, hF⟩
 refine kF 18 hc2 ?_
 refine xF ?_
 refine xe ?_
 refine then_e ?_
 refine then_e ?_
 refine block_e ?_
 refine then_n ?_
 exact x_to hJ1 (VS.sm 274609201087) ⟨x17803.1, g17785, g17789, g17790, rfl, rfl, hF⟩
def lay_Numbers (a0 : Sl Int) : Option ((List UInt8) × Int) :=
  (lay_list_int a0).bind fun y17721 => some (y17721.1, y17721.2)
theorem lay_Numbers_ev {a0 : Sl Int} {r : (List UInt8) × Int} (hF : lay_Numbers a0 = some r) : EvCall Try.prog T G0 49 [sl (cI .i64) a0] [] (fun v H' => v = .tup [.str r.1, .int .i64 r.2] ∧ H' = []) := by
 refine xc Try.func49 ?_
 refine xq ?_
 refine wh 2 ?_
 refine we ?_
 refine ng ?_
 refine xq ?_
 refine wh 1 ?_
 refine bind_elim hF (fun y17721 hy17721 hF => uC (lay_list_int_ev hy17721) (lows_cons (low_sl low_cI) (lows_cons (low_fn rfl rfl) rfl)) (low_tup (lows_cons rfl (lows_cons rfl rfl))) ?_)
 refine wh 6 ?_
 refine we ?_
 refine ng ?_
 refine xt ?_
 have e := Option.some.inj hF
 subst e
 exact fE [] (.inl rfl) (low_tup (lows_cons rfl (lows_cons rfl rfl))) ⟨rfl, rfl⟩
def prune_lists_J1 (p17716 : Sl Int) (p17718 : Sl Int) : Option (List UInt8) :=
  (lay_Numbers p17716.weak).bind fun y17721 => (lay_Numbers p17718.weak).bind fun y17722 => (catS y17721.1 y17722.1).bind fun y17723 => some y17723
def prune_lists_B17764 (a0 : Sl Held) (k17764 : ((Sl Int) × (Sl Int) × Int) → Option (List UInt8)) (x17764 : (Sl Int) × (Sl Int) × Int) : Option (List UInt8) :=
  if iLt x17764.2.2 (a0.l.length : Int) = true then (idxL a0.l x17764.2.2).bind fun y17768 => (appL 8 x17764.1 (⟨false, true, [y17768.Number]⟩ : Sl Int).l).bind fun y17769 => (appL 8 x17764.2.1 (⟨false, true, [y17768.Size]⟩ : Sl Int).l).bind fun y17770 => k17764 (y17769, y17770, iAdd .i64 x17764.2.2 1) else prune_lists_J1 x17764.1 x17764.2.1
def prune_lists (a0 : Sl Held) : Option (List UInt8) :=
  loopN (prune_lists_B17764 a0) FUEL (⟨true, true, []⟩, ⟨true, true, []⟩, 0)
theorem prune_lists_ev {a0 : Sl Held} {r : (List UInt8)} (hF : prune_lists a0 = some r) : EvCall Try.prog T G0 37 [sl cHeld a0] [] (fun v H' => v = .str r ∧ H' = []) := by
 refine xc Try.func37 ?_
 refine xq ?_
 refine wh 1 ?_
 refine we ?_
 refine ng ?_
 refine xq ?_
 refine wh 2 ?_
 refine we ?_
 refine ng ?_
 refine xj (fun fr H => ∃ (p17716 : Sl Int) (p17718 : Sl Int) (g17715 : Nat) (g17717 : Nat) (g17719 : Bool) (g17720 : Bool), fr = [.any, .any, .any, ownv (cI .i64) 0 g17715 1 p17716, ownv (cI .i64) 1 g17717 1 p17718, .any, .any, .any, .any, .any, .any, .any, .any, .any, .bool false, .any, .any, .any, .any, .any, .any, .any, .any, .any, .any, .any, .any, .any, .any, .any, .any, .any, .any, .any, .any, .any, .any, .any, .any, .any, .any] ∧ H = [.room g17715 g17719, .room g17717 g17720] ∧ prune_lists_J1 p17716 p17718 = some r) (fun fr H ⟨p17716, p17718, g17715, g17717, g17719, g17720, e1, e2, hF⟩ => ?_) (fun hJ1 => ?_)
 ·subst e1 e2
  refine xq ?_
  refine wh 1 ?_
  refine bind_elim hF (fun y17721 hy17721 hF => uC (lay_Numbers_ev hy17721) (lows_cons (low_sl low_cI) rfl) (low_tup (lows_cons rfl (lows_cons rfl rfl))) ?_)
  refine wh 7 ?_
  refine we ?_
  refine ng ?_
  refine xq ?_
  refine wh 1 ?_
  refine bind_elim hF (fun y17722 hy17722 hF => uC (lay_Numbers_ev hy17722) (lows_cons (low_sl low_cI) rfl) (low_tup (lows_cons rfl (lows_cons rfl rfl))) ?_)
  refine wh 7 ?_
  refine we ?_
  refine ng ?_
  refine xq ?_
  refine wh 2 ?_
  refine bind_elim hF (fun y17723 hy17723 hF => w_cat (by kernel_rfl) hy17723 ?_)
  refine wh 4 ?_
  refine we ?_
  refine ng ?_
  refine xt ?_
  have e := Option.some.inj hF
  subst e
  exact fE [] (.inl rfl) rfl ⟨rfl, rfl⟩
 refine xq ?_
 refine wh 3 ?_
 refine we ?_
 refine ng ?_
 refine xb ?_
 refine x_loop (fun d fr H => ∃ (x17764 : (Sl Int) × (Sl Int) × Int) (g17742 : Nat) (g17744 : Nat) (g17747 : Option Bool) (g17748 : Bool) (g17749 : Bool), fr = [.any, .any, .any, ownv (cI .i64) 0 g17742 1 x17764.1, ownv (cI .i64) 1 g17744 1 x17764.2.1, .any, .any, .any, .any, .any, .any, sl cHeld a0, .int .i64 (a0.l.length : Int), .int .i64 x17764.2.2, junkB g17747, .any, .any, .any, .any, .any, .any, .any, .any, .any, .any, .any, .any, .any, .any, .any, .any, .any, .any, .any, .any, .any, .any, .any, .any, .any, .any] ∧ H = [.room g17742 g17748, .room g17744 g17749] ∧ loopN (prune_lists_B17764 a0) d x17764 = some r) (by kernel_rfl) (fun fr H ⟨x17764, g17742, g17744, g17747, g17748, g17749, e1, e2, hF⟩ => loop_no hF) (fun d17764 fr H ⟨x17764, g17742, g17744, g17747, g17748, g17749, e1, e2, hF⟩ => ?_) (VS.trans (VS.thaw (cI .i64) 3 1 ⟨true, true, []⟩ (by kernel_rfl) rfl (fun _ => rfl)) (VS.trans (VS.thaw (cI .i64) 4 1 ⟨true, true, []⟩ (by kernel_rfl) rfl (fun _ => rfl)) (VS.sm 2199023241191))) ⟨(⟨true, true, []⟩, ⟨true, true, []⟩, 0), 1, 1, none, false, false, rfl, rfl, hF⟩
 subst e1 e2
 have hF := loop_in hF
 refine xq ?_
 refine wh 1 ?_
 refine we ?_
 refine ng ?_
 refine xs ?_
 refine ite_elim hF (fun hc1 hF => ?_) (fun hc1 hF => ?_)
 ·refine kT 14 hc1 ?_
  refine xT ?_
  refine xk ?_
  refine ng ?_
  refine xs ?_
  refine xb ?_
  refine xq ?_
  refine bind_elim hF (fun y17768 hy17768 hF => uI cHeld 2 hy17768 len_cHeld ?_)
  refine uE cHeld 0 (t := 41) (v := .agg (cHeld y17768)) 2 2 hy17768 len_cHeld ?_
  refine wr 4 [.room g17742 g17748, .room g17744 g17749, .cells (cHeld y17768)] ?_
  refine we ?_
  refine ng ?_
  refine xq ?_
  refine wh 3 ?_
  refine w_frz (v := sl (cI .i64) (⟨false, true, [y17768.Number]⟩ : Sl Int)) (by kernel_rfl) ?_
  refine bind_elim hF (fun y17769 hy17769 hF => w_app (cI .i64) (e := 3) (sz := 1) (l0 := 0) (real := g17748) (ver := g17742) (x := x17764.1) (ys := (⟨false, true, [y17768.Number]⟩ : Sl Int).l) hy17769 (by kernel_rfl) (by decide) (gives_sl (x := (⟨false, true, [y17768.Number]⟩ : Sl Int)) (by kernel_rfl) (fun _ => rfl)) (room_at (by kernel_rfl)) ?_)
  refine wr 6 [.room (g17742 + 1) (g17748 || !((⟨false, true, [y17768.Number]⟩ : Sl Int).l.length == 0)), .room g17744 g17749, .cells (cHeld y17768)] ?_
  refine we ?_
  refine ng ?_
  refine xr ?_
  refine wh 3 ?_
  refine w_frz (v := sl (cI .i64) (⟨false, true, [y17768.Size]⟩ : Sl Int)) (by kernel_rfl) ?_
  refine bind_elim hF (fun y17770 hy17770 hF => w_app (cI .i64) (e := 3) (sz := 1) (l0 := 1) (real := g17749) (ver := g17744) (x := x17764.2.1) (ys := (⟨false, true, [y17768.Size]⟩ : Sl Int).l) hy17770 (by kernel_rfl) (by decide) (gives_sl (x := (⟨false, true, [y17768.Size]⟩ : Sl Int)) (by kernel_rfl) (fun _ => rfl)) (room_at (by kernel_rfl)) ?_)
  refine wr 6 [.room (g17742 + 1) (g17748 || !((⟨false, true, [y17768.Number]⟩ : Sl Int).l.length == 0)), .room (g17744 + 1) (g17749 || !((⟨false, true, [y17768.Size]⟩ : Sl Int).l.length == 0)), .cells (cHeld y17768)] ?_
  refine we ?_
  refine block_n ?_
  refine ng ?_
  refine xr ?_
  refine wh 2 ?_
  refine we ?_
  refine then_n ?_
  exact x_back (VS.si [0, 1] 2199023241191 (tights_at [3, 4, 11] (by kernel_rfl) (by exact ⟨(tight_own low_cI), (tight_own low_cI), (tight_sl low_cHeld), trivial⟩)) (shh (b0 := .room (g17742 + 1) (g17748 || !((⟨false, true, [y17768.Number]⟩ : Sl Int).l.length == 0))) (by kernel_rfl) shb_room (shh (b0 := .room (g17744 + 1) (g17749 || !((⟨false, true, [y17768.Size]⟩ : Sl Int).l.length == 0))) (by kernel_rfl) shb_room shh_nil))) ⟨(y17769, y17770, iAdd .i64 x17764.2.2 1), (g17742 + 1), (g17744 + 1), (some true), (g17748 || !((⟨false, true, [y17768.Number]⟩ : Sl Int).l.length == 0)), (g17749 || !((⟨false, true, [y17768.Size]⟩ : Sl Int).l.length == 0)), rfl, rfl, hF⟩
 refine kF 14 hc1 ?_
 refine xF ?_
 refine xe ?_
 refine then_e ?_
 refine then_e ?_
 refine block_e ?_
 refine then_n ?_
 exact x_to hJ1 (VS.sm 2199023239143) ⟨x17764.1, x17764.2.1, g17742, g17744, g17748, g17749, rfl, rfl, hF⟩
def prune_lists_2_J1 (p17908 : Sl Int) (p17910 : Sl Int) : Option (List UInt8) :=
  (lay_Numbers p17908.weak).bind fun y17913 => (lay_Numbers p17910.weak).bind fun y17914 => (catS y17913.1 y17914.1).bind fun y17915 => some y17915
def prune_lists_2_B17956 (a0 : Sl Held) (k17956 : ((Sl Int) × (Sl Int) × Int) → Option (List UInt8)) (x17956 : (Sl Int) × (Sl Int) × Int) : Option (List UInt8) :=
  if iLt x17956.2.2 (a0.l.length : Int) = true then (idxL a0.l x17956.2.2).bind fun y17960 => (appL 8 x17956.1 (⟨false, true, [y17960.Number]⟩ : Sl Int).l).bind fun y17961 => (appL 8 x17956.2.1 (⟨false, true, [y17960.Size]⟩ : Sl Int).l).bind fun y17962 => k17956 (y17961, y17962, iAdd .i64 x17956.2.2 1) else prune_lists_2_J1 x17956.1 x17956.2.1
def prune_lists_2 (a0 : Sl Held) : Option (List UInt8) :=
  loopN (prune_lists_2_B17956 a0) FUEL (⟨true, true, []⟩, ⟨true, true, []⟩, 0)
theorem prune_lists_2_ev {a0 : Sl Held} {r : (List UInt8)} (hF : prune_lists_2 a0 = some r) : EvCall Try.prog T G0 37 [rfv false a0 0 2] [rfb cHeld a0] (fun v H' => v = .str r ∧ H' = [rfb cHeld a0]) := by
 refine xc Try.func37 ?_
 refine xq ?_
 refine wh 1 ?_
 refine we ?_
 refine ng ?_
 refine xq ?_
 refine wh 2 ?_
 refine we ?_
 refine ng ?_
 refine xj (fun fr H => ∃ (p17908 : Sl Int) (p17910 : Sl Int) (g17907 : Nat) (g17909 : Nat) (g17911 : Bool) (g17912 : Bool), fr = [.any, .any, .any, ownv (cI .i64) 1 g17907 1 p17908, ownv (cI .i64) 2 g17909 1 p17910, .any, .any, .any, .any, .any, .any, .any, .any, .any, .bool false, .any, .any, .any, .any, .any, .any, .any, .any, .any, .any, .any, .any, .any, .any, .any, .any, .any, .any, .any, .any, .any, .any, .any, .any, .any, .any] ∧ H = [rfb cHeld a0, .room g17907 g17911, .room g17909 g17912] ∧ prune_lists_2_J1 p17908 p17910 = some r) (fun fr H ⟨p17908, p17910, g17907, g17909, g17911, g17912, e1, e2, hF⟩ => ?_) (fun hJ1 => ?_)
 ·subst e1 e2
  refine xq ?_
  refine wh 1 ?_
  refine bind_elim hF (fun y17913 hy17913 hF => uC (lay_Numbers_ev hy17913) (lows_cons (low_sl low_cI) rfl) (low_tup (lows_cons rfl (lows_cons rfl rfl))) ?_)
  refine wh 7 ?_
  refine we ?_
  refine ng ?_
  refine xq ?_
  refine wh 1 ?_
  refine bind_elim hF (fun y17914 hy17914 hF => uC (lay_Numbers_ev hy17914) (lows_cons (low_sl low_cI) rfl) (low_tup (lows_cons rfl (lows_cons rfl rfl))) ?_)
  refine wh 7 ?_
  refine we ?_
  refine ng ?_
  refine xq ?_
  refine wh 2 ?_
  refine bind_elim hF (fun y17915 hy17915 hF => w_cat (by kernel_rfl) hy17915 ?_)
  refine wh 4 ?_
  refine we ?_
  refine ng ?_
  refine xt ?_
  have e := Option.some.inj hF
  subst e
  exact fS [0] (.inl rfl) rfl (shh (b0 := rfb cHeld a0) (by kernel_rfl) (NoRef.shb (noref_rfb low_cHeld _)) shh_nil) ⟨rfl, rfl⟩
 refine xq ?_
 refine wh 3 ?_
 refine we ?_
 refine ng ?_
 refine xb ?_
 refine x_loop (fun d fr H => ∃ (x17956 : (Sl Int) × (Sl Int) × Int) (g17934 : Nat) (g17936 : Nat) (g17939 : Option Bool) (g17940 : Bool) (g17941 : Bool), fr = [.any, .any, .any, ownv (cI .i64) 1 g17934 1 x17956.1, ownv (cI .i64) 2 g17936 1 x17956.2.1, .any, .any, .any, .any, .any, .any, rfv false a0 0 2, .int .i64 (a0.l.length : Int), .int .i64 x17956.2.2, junkB g17939, .any, .any, .any, .any, .any, .any, .any, .any, .any, .any, .any, .any, .any, .any, .any, .any, .any, .any, .any, .any, .any, .any, .any, .any, .any, .any] ∧ H = [rfb cHeld a0, .room g17934 g17940, .room g17936 g17941] ∧ loopN (prune_lists_2_B17956 a0) d x17956 = some r) (by kernel_rfl) (fun fr H ⟨x17956, g17934, g17936, g17939, g17940, g17941, e1, e2, hF⟩ => loop_no hF) (fun d17956 fr H ⟨x17956, g17934, g17936, g17939, g17940, g17941, e1, e2, hF⟩ => ?_) (VS.trans (VS.thaw (cI .i64) 3 1 ⟨true, true, []⟩ (by kernel_rfl) rfl (fun _ => rfl)) (VS.trans (VS.thaw (cI .i64) 4 1 ⟨true, true, []⟩ (by kernel_rfl) rfl (fun _ => rfl)) (VS.sm 2199023241191))) ⟨(⟨true, true, []⟩, ⟨true, true, []⟩, 0), 1, 1, none, false, false, rfl, rfl, hF⟩
 subst e1 e2
 have hF := loop_in hF
 refine xq ?_
 refine wh 1 ?_
 refine we ?_
 refine ng ?_
 refine xs ?_
 refine ite_elim hF (fun hc1 hF => ?_) (fun hc1 hF => ?_)
 ·refine kT 14 hc1 ?_
  refine xT ?_
  refine xk ?_
  refine ng ?_
  refine xs ?_
  refine xb ?_
  refine xq ?_
  refine bind_elim hF (fun y17960 hy17960 hF => w_riaddr (t := 27) (e := 41) (l := 0) (ex := false) (nl := a0.nl && a0.l.isEmpty) (kd := .i64) (k := 0) (sz := 2) (len := a0.l.length) (b := a0.l) hy17960 (Nat.le_refl _) (by kernel_rfl) (by kernel_rfl) (by kernel_rfl) ?_)
  refine w_rload cHeld (l := 0) (t := 41) (sz := 2) (fo := 0) (j := (0 + x17956.2.2.toNat)) a0 (v := .agg (cHeld y17960)) (z := 2) (idxL_nat hy17960) (by kernel_rfl) (by kernel_rfl) len_cHeld (by kernel_rfl) (by kernel_rfl) (by decide) (by decide) ?_
  refine wr 4 [rfb cHeld a0, .room g17934 g17940, .room g17936 g17941, .cells (cHeld y17960)] ?_
  refine we ?_
  refine ng ?_
  refine xq ?_
  refine wh 3 ?_
  refine w_frz (v := sl (cI .i64) (⟨false, true, [y17960.Number]⟩ : Sl Int)) (by kernel_rfl) ?_
  refine bind_elim hF (fun y17961 hy17961 hF => w_app (cI .i64) (e := 3) (sz := 1) (l0 := 1) (real := g17940) (ver := g17934) (x := x17956.1) (ys := (⟨false, true, [y17960.Number]⟩ : Sl Int).l) hy17961 (by kernel_rfl) (by decide) (gives_sl (x := (⟨false, true, [y17960.Number]⟩ : Sl Int)) (by kernel_rfl) (fun _ => rfl)) (room_at (by kernel_rfl)) ?_)
  refine wr 6 [rfb cHeld a0, .room (g17934 + 1) (g17940 || !((⟨false, true, [y17960.Number]⟩ : Sl Int).l.length == 0)), .room g17936 g17941, .cells (cHeld y17960)] ?_
  refine we ?_
  refine ng ?_
  refine xr ?_
  refine wh 3 ?_
  refine w_frz (v := sl (cI .i64) (⟨false, true, [y17960.Size]⟩ : Sl Int)) (by kernel_rfl) ?_
  refine bind_elim hF (fun y17962 hy17962 hF => w_app (cI .i64) (e := 3) (sz := 1) (l0 := 2) (real := g17941) (ver := g17936) (x := x17956.2.1) (ys := (⟨false, true, [y17960.Size]⟩ : Sl Int).l) hy17962 (by kernel_rfl) (by decide) (gives_sl (x := (⟨false, true, [y17960.Size]⟩ : Sl Int)) (by kernel_rfl) (fun _ => rfl)) (room_at (by kernel_rfl)) ?_)
  refine wr 6 [rfb cHeld a0, .room (g17934 + 1) (g17940 || !((⟨false, true, [y17960.Number]⟩ : Sl Int).l.length == 0)), .room (g17936 + 1) (g17941 || !((⟨false, true, [y17960.Size]⟩ : Sl Int).l.length == 0)), .cells (cHeld y17960)] ?_
  refine we ?_
  refine block_n ?_
  refine ng ?_
  refine xr ?_
  refine wh 2 ?_
  refine we ?_
  refine then_n ?_
  exact x_back (VS.si [0, 1, 2] 2199023241191 (tights_at [3, 4] (by kernel_rfl) (by exact ⟨(tight_own low_cI), (tight_own low_cI), trivial⟩)) (shh (b0 := rfb cHeld a0) (by kernel_rfl) (NoRef.shb (noref_rfb low_cHeld _)) (shh (b0 := .room (g17934 + 1) (g17940 || !((⟨false, true, [y17960.Number]⟩ : Sl Int).l.length == 0))) (by kernel_rfl) shb_room (shh (b0 := .room (g17936 + 1) (g17941 || !((⟨false, true, [y17960.Size]⟩ : Sl Int).l.length == 0))) (by kernel_rfl) shb_room shh_nil)))) ⟨(y17961, y17962, iAdd .i64 x17956.2.2 1), (g17934 + 1), (g17936 + 1), (some true), (g17940 || !((⟨false, true, [y17960.Number]⟩ : Sl Int).l.length == 0)), (g17941 || !((⟨false, true, [y17960.Size]⟩ : Sl Int).l.length == 0)), rfl, rfl, hF⟩
 refine kF 14 hc1 ?_
 refine xF ?_
 refine xe ?_
 refine then_e ?_
 refine then_e ?_
 refine block_e ?_
 refine then_n ?_
 exact x_to hJ1 (VS.sm 2199023239143) ⟨x17956.1, x17956.2.1, g17934, g17936, g17940, g17941, rfl, rfl, hF⟩
def prune_Book_Bytes_J1 (a1 : Sl Held) (p17749 : Sl Int) : Option (List UInt8) :=
  (prune_lists_2 a1).bind fun y17751 => (appL 1 p17749 (intsS y17751)).bind fun y17752 => some (bytesS y17752.l)
def prune_Book_Bytes_B17815 (a0 : Sl Prune_state) (a1 : Sl Held) (k17815 : ((Sl Int) × Int) → Option (List UInt8)) (x17815 : (Sl Int) × Int) : Option (List UInt8) :=
  if iLt x17815.2 (a0.l.length : Int) = true then (idxL a0.l x17815.2).bind fun y17829 => (lay_Number y17829.number).bind fun y17838 => (appL 1 x17815.1 (intsS y17838)).bind fun y17839 => (prune_lists y17829.l).bind fun y17840 => (appL 1 y17839 (intsS y17840)).bind fun y17841 => k17815 (y17841, iAdd .i64 x17815.2 1) else prune_Book_Bytes_J1 a1 x17815.1
def prune_Book_Bytes (a0 : Sl Prune_state) (a1 : Sl Held) : Option (List UInt8) :=
  (lay_Number (a0.l.length : Int)).bind fun y17657 => (toBytes y17657).bind fun y17658 => loopN (prune_Book_Bytes_B17815 a0 a1) FUEL (y17658, 0)
theorem prune_Book_Bytes_ev {a0 : Sl Prune_state} {a1 : Sl Held} {r : (List UInt8)} (hF : prune_Book_Bytes a0 a1 = some r) : EvCall Try.prog T G0 20 [.ptr 0 0] [.cells ((cL cPrune_state) a0 ++ [rfv false a1 1 2]), rfb cHeld a1] (fun v H' => v = .str r ∧ H' = [.cells ((cL cPrune_state) a0 ++ [rfv false a1 1 2]), rfb cHeld a1]) := by
 refine xc Try.func20 ?_
 refine xq ?_
 refine wh 1 ?_
 refine we ?_
 refine ng ?_
 refine xs ?_
 refine xq ?_
 refine wh 2 ?_
 refine we ?_
 refine ng ?_
 refine xF ?_
 refine xk ?_
 refine ng ?_
 refine xq ?_
 refine wh 5 ?_
 refine bind_elim hF (fun y17657 hy17657 hF => uC (lay_Number_ev hy17657) (lows_cons rfl rfl) rfl ?_)
 refine bind_elim hF (fun y17658 hy17658 hF => w_bytes hy17658 (by kernel_rfl) ?_)
 refine wr 8 [.cells ((cL cPrune_state) a0 ++ [rfv false a1 1 2]), rfb cHeld a1, .room 1 true] ?_
 refine we ?_
 refine ng ?_
 refine xj (fun fr H => ∃ (p17749 : Sl Int) (g17748 : Nat) (g17750 : Bool), fr = [.ptr 0 0, .any, .any, ownv (cI .u8) 2 g17748 1 p17749, .any, .any, .any, .bool false, .any, .any, .any, .any, .any, .any, .any, .any, .any, .any, .any, .any, .any, .bool false, .any, .any, .any, .any, .any, .any, .any, .any, .any, .any, .any, .any, .any, .any, .any, .any, .any, .any, .any, .any] ∧ H = [.cells ((cL cPrune_state) a0 ++ [rfv false a1 1 2]), rfb cHeld a1, .room g17748 g17750] ∧ prune_Book_Bytes_J1 a1 p17749 = some r) (fun fr H ⟨p17749, g17748, g17750, e1, e2, hF⟩ => ?_) (fun hJ1 => ?_)
 ·subst e1 e2
  refine xq ?_
  refine wh 5 ?_
  refine bind_elim hF (fun y17751 hy17751 hF => uOs [1] [1] (v := .str y17751) [rfb cHeld a1] (prune_lists_2_ev hy17751) (by kernel_rfl) (pl (b' := rfb cHeld a1) (by kernel_rfl) (sb_low (noref_rfb low_cHeld _)) pl_nil) rfl (sbs (sb_low (noref_rfb low_cHeld _)) sbs_nil) ?_)
  refine bind_elim hF (fun y17752 hy17752 hF => w_app (cI .u8) (e := 5) (sz := 1) (l0 := 2) (real := g17750) (ver := g17748) (x := p17749) (ys := (intsS y17751)) hy17752 (by kernel_rfl) (by decide) (gives_str (by kernel_rfl)) (room_at (by kernel_rfl)) ?_)
  refine w_str (l := y17752.l) (by kernel_rfl) ?_
  refine wr 9 [.cells ((cL cPrune_state) a0 ++ [rfv false a1 1 2]), rfb cHeld a1, .room (g17748 + 1) (g17750 || !((intsS y17751).length == 0))] ?_
  refine we ?_
  refine ng ?_
  refine xt ?_
  have e := Option.some.inj hF
  subst e
  exact fS [0, 1] (.inl rfl) rfl (shh (b0 := .cells ((cL cPrune_state) a0 ++ [rfv false a1 1 2])) (by kernel_rfl) (shb_cells (by kernel_rfl) (by kernel_rfl) (tights_app (tights_lows ((low_cL low_cPrune_state) _)) (tights_cons rfl rfl))) (shh (b0 := rfb cHeld a1) (by kernel_rfl) (NoRef.shb (noref_rfb low_cHeld _)) shh_nil)) ⟨rfl, rfl⟩
 refine xq ?_
 refine wh 6 ?_
 refine we ?_
 refine ng ?_
 refine xb ?_
 refine x_loop (fun d fr H => ∃ (x17815 : (Sl Int) × Int) (g17779 : Nat) (g17782 : Option Bool) (g17783 : Bool), fr = [.ptr 0 0, .any, .any, ownv (cI .u8) 2 g17779 1 x17815.1, .any, .any, .any, .bool false, .any, .any, .any, .any, .any, .any, .any, .any, .any, .any, sl cPrune_state a0, .int .i64 (a0.l.length : Int), .int .i64 x17815.2, junkB g17782, .any, .any, .any, .any, .any, .any, .any, .any, .any, .any, .any, .any, .any, .any, .any, .any, .any, .any, .any, .any] ∧ H = [.cells ((cL cPrune_state) a0 ++ [rfv false a1 1 2]), rfb cHeld a1, .room g17779 g17783] ∧ loopN (prune_Book_Bytes_B17815 a0 a1) d x17815 = some r) (by kernel_rfl) (fun fr H ⟨x17815, g17779, g17782, g17783, e1, e2, hF⟩ => loop_no hF) (fun d17815 fr H ⟨x17815, g17779, g17782, g17783, e1, e2, hF⟩ => ?_) (VS.sm 4398044675958) ⟨(y17658, 0), 1, none, true, rfl, rfl, hF⟩
 subst e1 e2
 have hF := loop_in hF
 refine xq ?_
 refine wh 1 ?_
 refine we ?_
 refine ng ?_
 refine xs ?_
 refine ite_elim hF (fun hc1 hF => ?_) (fun hc1 hF => ?_)
 ·refine kT 21 hc1 ?_
  refine xT ?_
  refine xk ?_
  refine ng ?_
  refine xs ?_
  refine xb ?_
  refine xq ?_
  refine bind_elim hF (fun y17829 hy17829 hF => uI cPrune_state 2 hy17829 len_cPrune_state ?_)
  refine uE cPrune_state 0 (t := 63) (v := .agg (cPrune_state y17829)) 2 2 hy17829 len_cPrune_state ?_
  refine wr 4 [.cells ((cL cPrune_state) a0 ++ [rfv false a1 1 2]), rfb cHeld a1, .room g17779 g17783, .cells (cPrune_state y17829)] ?_
  refine we ?_
  refine ng ?_
  refine x_rows 0 239 [⟨4, [7], [5, 6], [7], [6]⟩, ⟨8, [], [], [], []⟩, ⟨9, [], [], [], []⟩] call_ends callMono (by kernel_rfl) (by kernel_rfl) ?_
  refine wp 3 ?_
  refine bind_elim hF (fun y17838 hy17838 hF => uC (lay_Number_ev hy17838) (lows_cons rfl rfl) rfl ?_)
  refine wp 6 ?_
  refine we ?_
  refine rows_next ?_
  refine bind_elim hF (fun y17839 hy17839 hF => w_app (cI .u8) (e := 5) (sz := 1) (l0 := 2) (real := g17783) (ver := g17779) (x := x17815.1) (ys := (intsS y17838)) hy17839 (by kernel_rfl) (by decide) (gives_str (by kernel_rfl)) (room_at (by kernel_rfl)) ?_)
  refine we ?_
  refine ⟨⟨(by kernel_rfl), chks_of (by kernel_rfl) (by kernel_rfl)⟩, ?_⟩
  refine bind_elim hF (fun y17840 hy17840 hF => uC (prune_lists_ev hy17840) (lows_cons (low_sl low_cHeld) rfl) rfl ?_)
  refine we ?_
  refine rows_next ?_
  refine bind_elim hF (fun y17841 hy17841 hF => w_app (cI .u8) (e := 5) (sz := 1) (l0 := 2) (real := (g17783 || !((intsS y17838).length == 0))) (ver := (g17779 + 1)) (x := y17839) (ys := (intsS y17840)) hy17841 (by kernel_rfl) (by decide) (gives_str (by kernel_rfl)) (room_at (by kernel_rfl)) ?_)
  refine we ?_
  refine ⟨⟨(by kernel_rfl), trivial⟩, ?_⟩
  refine we ?_
  refine rows_next ?_
  refine wr 1 [.cells ((cL cPrune_state) a0 ++ [rfv false a1 1 2]), rfb cHeld a1, .room ((g17779 + 1) + 1) ((g17783 || !((intsS y17838).length == 0)) || !((intsS y17840).length == 0)), .cells (cPrune_state y17829)] ?_
  refine we ?_
  refine ⟨⟨(by kernel_rfl), trivial⟩, ?_⟩
  refine we ?_
  refine rows_done ?_
  refine de ?_
  refine block_n ?_
  refine ng ?_
  refine xr ?_
  refine wh 2 ?_
  refine we ?_
  refine then_n ?_
  exact x_back (VS.si [0, 1, 2] 4398044675958 (tights_at [3, 18] (by kernel_rfl) (by exact ⟨(tight_own low_cI), (tight_sl low_cPrune_state), trivial⟩)) (shh (b0 := .cells ((cL cPrune_state) a0 ++ [rfv false a1 1 2])) (by kernel_rfl) (shb_cells (by kernel_rfl) (by kernel_rfl) (tights_app (tights_lows ((low_cL low_cPrune_state) _)) (tights_cons rfl rfl))) (shh (b0 := rfb cHeld a1) (by kernel_rfl) (NoRef.shb (noref_rfb low_cHeld _)) (shh (b0 := .room ((g17779 + 1) + 1) ((g17783 || !((intsS y17838).length == 0)) || !((intsS y17840).length == 0))) (by kernel_rfl) shb_room shh_nil)))) ⟨(y17841, iAdd .i64 x17815.2 1), ((g17779 + 1) + 1), (some true), ((g17783 || !((intsS y17838).length == 0)) || !((intsS y17840).length == 0)), rfl, rfl, hF⟩
 refine kF 21 hc1 ?_
 refine xF ?_
 refine xe ?_
 refine then_e ?_
 refine then_e ?_
 refine block_e ?_
 refine then_n ?_
 exact x_to hJ1 (VS.sm 4398044413814) ⟨x17815.1, g17779, g17783, rfl, rfl, hF⟩
def lay_run_J4 (p17907 : Int) (p17908 : Int) (p17909 : Bool) : Option (Int × Int × Bool) :=
  some (p17907, p17908, p17909)
def lay_run_J7 (k17961 : (Int × Int × Bool) → Option (Int × Int × Bool)) (x17961 : Int × Int × Bool) (y17970 : Int) (p17971 : Bool) : Option (Int × Int × Bool) :=
  k17961 (iAdd .i64 x17961.1 1, iAdd .u64 (iMul .u64 x17961.2.1 10) (IntKind.wrap .u64 (iSub .u8 y17970 48)), p17971)
def lay_run_B17961 (a0 : List UInt8) (a2 : Int) (k17961 : (Int × Int × Bool) → Option (Int × Int × Bool)) (x17961 : Int × Int × Bool) : Option (Int × Int × Bool) :=
  if iLt x17961.1 (a0.length : Int) = true then (idxB a0 x17961.1).bind fun y17968 => if iGe y17968 48 = true then (idxB a0 x17961.1).bind fun y17969 => if iLe y17969 57 = true then (idxB a0 x17961.1).bind fun y17970 => if iGt x17961.2.1 (iQuo .u64 (iSub .u64 a2 (IntKind.wrap .u64 (iSub .u8 y17970 48))) 10) = true then lay_run_J7 k17961 x17961 y17970 false else lay_run_J7 k17961 x17961 y17970 x17961.2.2 else lay_run_J4 x17961.1 x17961.2.1 x17961.2.2 else lay_run_J4 x17961.1 x17961.2.1 x17961.2.2 else lay_run_J4 x17961.1 x17961.2.1 x17961.2.2
def lay_run (a0 : List UInt8) (a1 : Int) (a2 : Int) : Option (Int × Int × Bool) :=
  loopN (lay_run_B17961 a0 a2) FUEL (a1, 0, true)
theorem lay_run_ev {a0 : List UInt8} {a1 : Int} {a2 : Int} {r : Int × Int × Bool} (hF : lay_run a0 a1 a2 = some r) : EvCall Try.prog T G0 50 [.str a0, .int .i64 a1, .int .u64 a2] [] (fun v H' => v = .tup [.int .i64 r.1, .int .u64 r.2.1, .bool r.2.2] ∧ H' = []) := by
 refine xc Try.func50 ?_
 refine xq ?_
 refine wh 3 ?_
 refine we ?_
 refine ng ?_
 refine xq ?_
 refine wh 2 ?_
 refine we ?_
 refine ng ?_
 refine xj (fun fr H => ∃ (p17907 : Int) (p17908 : Int) (p17909 : Bool) (g17910 : Option Bool) (g17911 : Option Bool) (g17912 : Option Bool) (g17913 : Option Bool) (g17914 : Option Bool) (g17915 : Option Bool) (g17916 : Option Bool), fr = [.any, .int .i64 p17907, .any, .any, .any, .any, .any, .any, .bool false, .int .u64 p17908, .bool p17909, .any, .any, .any, .any, junkB g17910, junkB g17911, .any, .any, .any, junkB g17912, junkB g17913, junkB g17914, .any, .any, .any, junkB g17915, .bool false, .any, .any, .any, .any, .any, .any, .any, .any, .any, .any, junkB g17916, .any, .any, .any, .any, .any, .any, .any, .any, .any] ∧ H = [] ∧ lay_run_J4 p17907 p17908 p17909 = some r) (fun fr H ⟨p17907, p17908, p17909, g17910, g17911, g17912, g17913, g17914, g17915, g17916, e1, e2, hF⟩ => ?_) (fun hJ4 => ?_)
 ·subst e1 e2
  refine xq ?_
  refine wh 6 ?_
  refine we ?_
  refine ng ?_
  refine xt ?_
  have e := Option.some.inj hF
  subst e
  exact fE [] (.inl rfl) (low_tup (lows_cons rfl (lows_cons rfl (lows_cons rfl rfl)))) ⟨rfl, rfl⟩
 refine xb ?_
 refine x_loop (fun d fr H => ∃ (x17961 : Int × Int × Bool) (g17931 : Option Bool) (g17932 : Option Bool) (g17933 : Option Bool) (g17934 : Option Bool) (g17935 : Option Bool) (g17936 : Option Bool) (g17937 : Option Bool) (g17938 : Option Bool), fr = [.str a0, .int .i64 x17961.1, .int .u64 a2, .any, .any, .any, .any, .any, .bool false, .int .u64 x17961.2.1, .bool x17961.2.2, .any, .any, .any, .any, junkB g17931, junkB g17932, .any, .any, .any, junkB g17933, junkB g17934, junkB g17935, .any, .any, .any, junkB g17936, junkB g17937, .any, .any, .any, .any, .any, .any, .any, .any, .any, .any, junkB g17938, .any, .any, .any, .any, .any, .any, .any, .any, .any] ∧ H = [] ∧ loopN (lay_run_B17961 a0 a2) d x17961 = some r) (by kernel_rfl) (fun fr H ⟨x17961, g17931, g17932, g17933, g17934, g17935, g17936, g17937, g17938, e1, e2, hF⟩ => loop_no hF) (fun d17961 fr H ⟨x17961, g17931, g17932, g17933, g17934, g17935, g17936, g17937, g17938, e1, e2, hF⟩ => ?_) (VS.sm 281474976708856) ⟨(a1, 0, true), none, none, none, none, none, none, none, none, rfl, rfl, hF⟩
 subst e1 e2
 have hF := loop_in hF
 refine xs ?_
 refine xq ?_
 refine wh 5 ?_
 refine ite_elim hF (fun hc1 hF => ?_) (fun hc1 hF => ?_)
 ·refine wT 16 hc1 ?_
  refine wh 7 ?_
  refine bind_elim hF (fun y17968 hy17968 hF => w_idx (by kernel_rfl) hy17968 ?_)
  refine wh 11 ?_
  refine ite_elim hF (fun hc2 hF => ?_) (fun hc2 hF => ?_)
  ·refine wT 22 hc2 ?_
   refine wh 13 ?_
   refine bind_elim hF (fun y17969 hy17969 hF => w_idx (by kernel_rfl) hy17969 ?_)
   refine wh 16 ?_
   refine we ?_
   refine ng ?_
   refine ite_elim hF (fun hc3 hF => ?_) (fun hc3 hF => ?_)
   ·refine kT 27 hc3 ?_
    refine xT ?_
    refine xk ?_
    refine ng ?_
    refine xb ?_
    refine xq ?_
    refine wh 2 ?_
    refine bind_elim hF (fun y17970 hy17970 hF => w_idx (by kernel_rfl) hy17970 ?_)
    refine wh 6 ?_
    refine we ?_
    refine ng ?_
    refine xj (fun fr H => ∃ (p17971 : Bool) (g17972 : Option Bool), fr = [.str a0, .int .i64 x17961.1, .int .u64 a2, .any, .any, .any, .any, .any, .bool false, .int .u64 x17961.2.1, .bool p17971, .int .u64 (IntKind.wrap .u64 (iSub .u8 y17970 48)), .any, .any, .any, .bool (iLt x17961.1 (a0.length : Int)), .bool true, .any, .any, .any, .bool (iGe y17968 48), .bool (iGe y17968 48), .bool true, .any, .any, .any, .bool (iLe y17969 57), .bool true, .any, .any, .any, .any, .any, .any, .any, .any, .any, .any, junkB g17972, .any, .any, .any, .any, .any, .any, .any, .any, .any] ∧ H = [] ∧ lay_run_J7 (loopN (lay_run_B17961 a0 a2) d17961) x17961 y17970 p17971 = some r) (fun fr H ⟨p17971, g17972, e1, e2, hF⟩ => ?_) (fun hJ7 => ?_)
    ·subst e1 e2
     refine xq ?_
     refine wh 5 ?_
     refine we ?_
     refine ng ?_
     refine xr ?_
     refine wh 3 ?_
     refine we ?_
     refine block_n ?_
     refine then_n ?_
     exact x_back (VS.sm 281200098801912) ⟨(iAdd .i64 x17961.1 1, iAdd .u64 (iMul .u64 x17961.2.1 10) (IntKind.wrap .u64 (iSub .u8 y17970 48)), p17971), (some (iLt x17961.1 (a0.length : Int))), (some true), (some (iGe y17968 48)), (some (iGe y17968 48)), (some true), (some (iLe y17969 57)), (some true), g17972, rfl, rfl, hF⟩
    refine xq ?_
    refine wh 6 ?_
    refine we ?_
    refine ng ?_
    refine ite_elim hF (fun hc4 hF => ?_) (fun hc4 hF => ?_)
    ·refine kT 38 hc4 ?_
     refine xT ?_
     refine xr ?_
     refine wh 1 ?_
     refine we ?_
     refine then_n ?_
     exact x_to hJ7 (VS.sm 281474767941880) ⟨false, (some true), rfl, rfl, hF⟩
    refine kF 38 hc4 ?_
    refine xF ?_
    refine xk ?_
    refine then_n ?_
    exact x_to hJ7 (VS.sm 281474767941880) ⟨x17961.2.2, (some false), rfl, rfl, hF⟩
   refine kF 27 hc3 ?_
   refine xF ?_
   refine xe ?_
   refine then_e ?_
   refine then_e ?_
   refine block_e ?_
   refine then_n ?_
   exact x_to hJ4 (VS.sm 281199964584189) ⟨x17961.1, x17961.2.1, x17961.2.2, (some (iLt x17961.1 (a0.length : Int))), (some true), (some (iGe y17968 48)), (some (iGe y17968 48)), (some true), (some (iLe y17969 57)), g17938, rfl, rfl, hF⟩
  refine wF 22 hc2 ?_
  refine wh 16 ?_
  refine we ?_
  refine ng ?_
  refine xF ?_
  refine xe ?_
  refine then_e ?_
  refine then_e ?_
  refine block_e ?_
  refine then_n ?_
  exact x_to hJ4 (VS.sm 281199964584189) ⟨x17961.1, x17961.2.1, x17961.2.2, (some (iLt x17961.1 (a0.length : Int))), (some true), (some (iGe y17968 48)), (some (iGe y17968 48)), (some false), none, g17938, rfl, rfl, hF⟩
 refine wF 16 hc1 ?_
 refine wh 16 ?_
 refine we ?_
 refine ng ?_
 refine xF ?_
 refine xe ?_
 refine then_e ?_
 refine then_e ?_
 refine block_e ?_
 refine then_n ?_
 exact x_to hJ4 (VS.sm 281199964584189) ⟨x17961.1, x17961.2.1, x17961.2.2, (some (iLt x17961.1 (a0.length : Int))), (some false), none, (some false), (some false), none, g17938, rfl, rfl, hF⟩
def lay_shape_J1  : Option Int :=
  some 0
def lay_shape (a0 : List UInt8) (a1 : Int) (a2 : Int) (a3 : Int) : Option Int :=
  if (a2 == (a0.length : Int)) = true then some 5 else if (a2 == a1) = true then some 6 else (idxB a0 a2).bind fun y17986 => if (y17986 != a3) = true then some 6 else if iGt (iSub .i64 a2 a1) 1 = true then (idxB a0 a1).bind fun y17987 => if (y17987 == 48) = true then some 6 else lay_shape_J1 else lay_shape_J1
theorem lay_shape_ev {a0 : List UInt8} {a1 : Int} {a2 : Int} {a3 : Int} {r : Int} (hF : lay_shape a0 a1 a2 a3 = some r) : EvCall Try.prog T G0 51 [.str a0, .int .i64 a1, .int .i64 a2, .int .u8 a3] [] (fun v H' => v = .int .i64 r ∧ H' = []) := by
 refine xc Try.func51 ?_
 refine xq ?_
 refine wh 1 ?_
 refine we ?_
 refine ng ?_
 refine xj (fun fr H => ∃ (g17978 : Option Bool) (g17979 : Option Bool) (g17980 : Option Bool) (g17981 : Option Bool) (g17982 : Option Bool) (g17983 : Option Bool), fr = [.any, .any, .any, .any, .any, .any, .any, .any, .any, .bool false, .any, .any, .any, .bool (a2 == (a0.length : Int)), .bool false, .any, .any, .bool (a2 == a1), .bool false, .any, .any, .any, .any, junkB g17978, junkB g17979, .bool false, .any, .any, .any, .bool (iGt (iSub .i64 a2 a1) 1), junkB g17980, .any, .any, .any, junkB g17981, junkB g17982, junkB g17983] ∧ H = [] ∧ lay_shape_J1 = some r) (fun fr H ⟨g17978, g17979, g17980, g17981, g17982, g17983, e1, e2, hF⟩ => ?_) (fun hJ1 => ?_)
 ·subst e1 e2
  refine xq ?_
  refine wh 1 ?_
  refine we ?_
  refine ng ?_
  refine xt ?_
  have e := Option.some.inj hF
  subst e
  exact fE [] (.inl rfl) rfl ⟨rfl, rfl⟩
 refine xb ?_
 refine xq ?_
 refine wh 5 ?_
 refine we ?_
 refine ng ?_
 refine ite_elim hF (fun hc1 hF => ?_) (fun hc1 hF => ?_)
 ·refine kT 9 hc1 ?_
  refine xT ?_
  refine xq ?_
  refine wh 1 ?_
  refine we ?_
  refine ng ?_
  refine xt ?_
  refine block_r ?_
  refine then_r ?_
  have e := Option.some.inj hF
  subst e
  exact fE [] (.inl rfl) rfl ⟨rfl, rfl⟩
 refine kF 9 hc1 ?_
 refine xF ?_
 refine xq ?_
 refine wh 4 ?_
 refine ite_elim hF (fun hc2 hF => ?_) (fun hc2 hF => ?_)
 ·refine wT 18 hc2 ?_
  refine wh 23 ?_
  refine we ?_
  refine ng ?_
  refine xT ?_
  refine xq ?_
  refine wh 1 ?_
  refine we ?_
  refine ng ?_
  refine xt ?_
  refine block_r ?_
  refine then_r ?_
  have e := Option.some.inj hF
  subst e
  exact fE [] (.inl rfl) rfl ⟨rfl, rfl⟩
 refine wF 18 hc2 ?_
 refine wh 6 ?_
 refine bind_elim hF (fun y17986 hy17986 hF => w_idx (by kernel_rfl) hy17986 ?_)
 refine wh 11 ?_
 refine ite_elim hF (fun hc3 hF => ?_) (fun hc3 hF => ?_)
 ·refine wT 25 hc3 ?_
  refine wh 23 ?_
  refine we ?_
  refine ng ?_
  refine xT ?_
  refine xq ?_
  refine wh 1 ?_
  refine we ?_
  refine ng ?_
  refine xt ?_
  refine block_r ?_
  refine then_r ?_
  have e := Option.some.inj hF
  subst e
  exact fE [] (.inl rfl) rfl ⟨rfl, rfl⟩
 refine wF 25 hc3 ?_
 refine wh 16 ?_
 refine ite_elim hF (fun hc4 hF => ?_) (fun hc4 hF => ?_)
 ·refine wT 30 hc4 ?_
  refine wh 18 ?_
  refine bind_elim hF (fun y17987 hy17987 hF => w_idx (by kernel_rfl) hy17987 ?_)
  refine wh 23 ?_
  refine we ?_
  refine ng ?_
  refine ite_elim hF (fun hc5 hF => ?_) (fun hc5 hF => ?_)
  ·refine kT 14 hc5 ?_
   refine xT ?_
   refine xq ?_
   refine wh 1 ?_
   refine we ?_
   refine ng ?_
   refine xt ?_
   refine block_r ?_
   refine then_r ?_
   have e := Option.some.inj hF
   subst e
   exact fE [] (.inl rfl) rfl ⟨rfl, rfl⟩
  refine kF 14 hc5 ?_
  refine xF ?_
  refine xk ?_
  refine block_n ?_
  refine then_n ?_
  exact x_to hJ1 (VS.sm 136868109823) ⟨(some (y17986 != a3)), (some (y17986 != a3)), (some true), (some (y17987 == 48)), (some (y17987 == 48)), (some (y17987 == 48)), rfl, rfl, hF⟩
 refine wF 30 hc4 ?_
 refine wh 23 ?_
 refine we ?_
 refine ng ?_
 refine xF ?_
 refine xk ?_
 refine block_n ?_
 refine then_n ?_
 exact x_to hJ1 (VS.sm 136868109823) ⟨(some (y17986 != a3)), (some (y17986 != a3)), (some false), none, (some false), (some false), rfl, rfl, hF⟩
def lay_ReadNumber_J2 (a0 : List UInt8) (p17844 : Bool) (p17848 : Int) (p17849 : Int) : Option (Int × Int × Int) :=
  (lay_run a0 p17848 p17849).bind fun y17851 => (lay_shape a0 p17848 y17851.1 59).bind fun y17852 => if (y17852 != 0) = true then some (0, 0, y17852) else if p17844 = true then if (y17851.1 == iAdd .i64 p17848 1) = true then (idxB a0 p17848).bind fun y17856 => if (y17856 == 48) = true then some (0, 0, 6) else if y17851.2.2 = true then some (IntKind.wrap .i64 (iNeg .u64 y17851.2.1), iAdd .i64 y17851.1 1, 0) else some (0, 0, 4) else if y17851.2.2 = true then some (IntKind.wrap .i64 (iNeg .u64 y17851.2.1), iAdd .i64 y17851.1 1, 0) else some (0, 0, 4) else if y17851.2.2 = true then some (IntKind.wrap .i64 y17851.2.1, iAdd .i64 y17851.1 1, 0) else some (0, 0, 4)
def lay_ReadNumber_J1 (a0 : List UInt8) (a1 : Int) (p17844 : Bool) : Option (Int × Int × Int) :=
  if p17844 = true then lay_ReadNumber_J2 a0 p17844 (iAdd .i64 a1 1) (iAdd .u64 9223372036854775807 1) else lay_ReadNumber_J2 a0 p17844 a1 9223372036854775807
def lay_ReadNumber (a0 : List UInt8) (a1 : Int) : Option (Int × Int × Int) :=
  if iLt a1 0 = true then some (0, 0, 3) else if iGt a1 (a0.length : Int) = true then some (0, 0, 3) else if iLt a1 (a0.length : Int) = true then (idxB a0 a1).bind fun y17857 => lay_ReadNumber_J1 a0 a1 (y17857 == 45) else lay_ReadNumber_J1 a0 a1 false
theorem lay_ReadNumber_ev {a0 : List UInt8} {a1 : Int} {r : Int × Int × Int} (hF : lay_ReadNumber a0 a1 = some r) : EvCall Try.prog T G0 38 [.str a0, .int .i64 a1] [] (fun v H' => v = .tup [.int .i64 r.1, .int .i64 r.2.1, .int .i64 r.2.2] ∧ H' = []) := by
 refine xc Try.func38 ?_
 refine xq ?_
 refine wh 3 ?_
 refine we ?_
 refine ng ?_
 refine xs ?_
 refine xq ?_
 refine wh 3 ?_
 refine ite_elim hF (fun hc1 hF => ?_) (fun hc1 hF => ?_)
 ·refine wT 15 hc1 ?_
  refine wh 8 ?_
  refine we ?_
  refine ng ?_
  refine xT ?_
  refine xq ?_
  refine wh 3 ?_
  refine we ?_
  refine ng ?_
  refine xt ?_
  refine then_r ?_
  have e := Option.some.inj hF
  subst e
  exact fE [] (.inl rfl) (low_tup (lows_cons rfl (lows_cons rfl (lows_cons rfl rfl)))) ⟨rfl, rfl⟩
 refine wF 15 hc1 ?_
 refine wh 8 ?_
 refine we ?_
 refine ng ?_
 refine ite_elim hF (fun hc2 hF => ?_) (fun hc2 hF => ?_)
 ·refine kT 20 hc2 ?_
  refine xT ?_
  refine xq ?_
  refine wh 3 ?_
  refine we ?_
  refine ng ?_
  refine xt ?_
  refine then_r ?_
  have e := Option.some.inj hF
  subst e
  exact fE [] (.inl rfl) (low_tup (lows_cons rfl (lows_cons rfl (lows_cons rfl rfl)))) ⟨rfl, rfl⟩
 refine kF 20 hc2 ?_
 refine xF ?_
 refine xk ?_
 refine ng ?_
 refine xq ?_
 refine wh 1 ?_
 refine we ?_
 refine ng ?_
 refine xj (fun fr H => ∃ (p17844 : Bool) (g17845 : Option Bool) (g17846 : Option Bool) (g17847 : Option Bool), fr = [.str a0, .int .i64 a1, .any, .any, .any, .any, .any, .int .u64 9223372036854775807, .bool p17844, .any, .any, .any, .any, .any, .bool (iLt a1 0), .bool false, .any, .any, .any, .bool (iGt a1 (a0.length : Int)), .bool false, .any, .any, .any, .bool (iLt a1 (a0.length : Int)), junkB g17845, .any, .any, .any, junkB g17846, junkB g17847, .any, .any, .any, .any, .any, .any, .any, .any, .any, .any, .any, .any, .any, .any, .any, .any, .any, .any, .any, .any, .any, .any, .any, .any, .any, .any, .any, .any, .any, .any, .any, .any, .any, .any, .any, .any, .any, .any, .any, .any, .any, .any, .any, .any, .any, .any, .any, .any, .any] ∧ H = [] ∧ lay_ReadNumber_J1 a0 a1 p17844 = some r) (fun fr H ⟨p17844, g17845, g17846, g17847, e1, e2, hF⟩ => ?_) (fun hJ1 => ?_)
 ·subst e1 e2
  refine xj (fun fr H => ∃ (p17848 : Int) (p17849 : Int) (g17850 : Option Bool), fr = [.str a0, .int .i64 p17848, .any, .any, .any, .any, .any, .int .u64 p17849, .bool p17844, .any, .any, .any, .any, .any, .bool (iLt a1 0), .bool false, .any, .any, .any, .bool (iGt a1 (a0.length : Int)), .bool false, .any, .any, .any, .bool (iLt a1 (a0.length : Int)), junkB g17845, .any, .any, .any, junkB g17846, junkB g17847, junkB g17850, .any, .any, .any, .any, .any, .any, .any, .any, .any, .any, .any, .any, .any, .any, .any, .any, .any, .any, .any, .any, .any, .any, .any, .any, .any, .any, .any, .any, .any, .any, .any, .any, .any, .any, .any, .any, .any, .any, .any, .any, .any, .any, .any, .any, .any, .any, .any, .any] ∧ H = [] ∧ lay_ReadNumber_J2 a0 p17844 p17848 p17849 = some r) (fun fr H ⟨p17848, p17849, g17850, e1, e2, hF⟩ => ?_) (fun hJ2 => ?_)
  ·subst e1 e2
   refine xq ?_
   refine wh 3 ?_
   refine bind_elim hF (fun y17851 hy17851 hF => uC (lay_run_ev hy17851) (lows_cons rfl (lows_cons rfl (lows_cons rfl rfl))) (low_tup (lows_cons rfl (lows_cons rfl (lows_cons rfl rfl)))) ?_)
   refine wh 11 ?_
   refine we ?_
   refine ng ?_
   refine xq ?_
   refine wh 3 ?_
   refine bind_elim hF (fun y17852 hy17852 hF => uC (lay_shape_ev hy17852) (lows_cons rfl (lows_cons rfl (lows_cons rfl (lows_cons rfl rfl)))) rfl ?_)
   refine wh 5 ?_
   refine we ?_
   refine ng ?_
   refine xs ?_
   refine xb ?_
   refine xq ?_
   refine wh 3 ?_
   refine we ?_
   refine ng ?_
   refine ite_elim hF (fun hc3 hF => ?_) (fun hc3 hF => ?_)
   ·refine kT 48 hc3 ?_
    refine xT ?_
    refine xq ?_
    refine wh 4 ?_
    refine we ?_
    refine ng ?_
    refine xt ?_
    refine block_r ?_
    refine then_r ?_
    have e := Option.some.inj hF
    subst e
    exact fE [] (.inl rfl) (low_tup (lows_cons rfl (lows_cons rfl (lows_cons rfl rfl)))) ⟨rfl, rfl⟩
   refine kF 48 hc3 ?_
   refine xF ?_
   refine xq ?_
   refine wh 2 ?_
   refine ite_elim hF (fun hc4 hF => ?_) (fun hc4 hF => ?_)
   ·refine wT 54 hc4 ?_
    refine wh 8 ?_
    refine ite_elim hF (fun hc5 hF => ?_) (fun hc5 hF => ?_)
    ·refine wT 60 hc5 ?_
     refine wh 10 ?_
     refine bind_elim hF (fun y17856 hy17856 hF => w_idx (by kernel_rfl) hy17856 ?_)
     refine wh 14 ?_
     refine we ?_
     refine ng ?_
     refine ite_elim hF (fun hc6 hF => ?_) (fun hc6 hF => ?_)
     ·refine kT 52 hc6 ?_
      refine xT ?_
      refine xq ?_
      refine wh 3 ?_
      refine we ?_
      refine ng ?_
      refine xt ?_
      refine block_r ?_
      refine then_r ?_
      have e := Option.some.inj hF
      subst e
      exact fE [] (.inl rfl) (low_tup (lows_cons rfl (lows_cons rfl (lows_cons rfl rfl)))) ⟨rfl, rfl⟩
     refine kF 52 hc6 ?_
     refine xF ?_
     refine xq ?_
     refine wh 3 ?_
     refine we ?_
     refine ng ?_
     refine ite_elim hF (fun hc7 hF => ?_) (fun hc7 hF => ?_)
     ·refine kF 66 (show (!y17851.2.2) = false by rw [hc7]; rfl) ?_
      refine xF ?_
      refine xq ?_
      refine wh 2 ?_
      refine we ?_
      refine ng ?_
      refine kT 69 hc4 ?_
      refine xT ?_
      refine xq ?_
      refine wh 8 ?_
      refine we ?_
      refine ng ?_
      refine xt ?_
      refine block_r ?_
      refine then_r ?_
      have e := Option.some.inj hF
      subst e
      exact fE [] (.inl rfl) (low_tup (lows_cons rfl (lows_cons rfl (lows_cons rfl rfl)))) ⟨rfl, rfl⟩
     refine kT 66 (show (!y17851.2.2) = true by rw [hc7]; rfl) ?_
     refine xT ?_
     refine xq ?_
     refine wh 3 ?_
     refine we ?_
     refine ng ?_
     refine xt ?_
     refine block_r ?_
     refine then_r ?_
     have e := Option.some.inj hF
     subst e
     exact fE [] (.inl rfl) (low_tup (lows_cons rfl (lows_cons rfl (lows_cons rfl rfl)))) ⟨rfl, rfl⟩
    refine wF 60 hc5 ?_
    refine wh 14 ?_
    refine we ?_
    refine ng ?_
    refine xF ?_
    refine xq ?_
    refine wh 3 ?_
    refine we ?_
    refine ng ?_
    refine ite_elim hF (fun hc8 hF => ?_) (fun hc8 hF => ?_)
    ·refine kF 66 (show (!y17851.2.2) = false by rw [hc8]; rfl) ?_
     refine xF ?_
     refine xq ?_
     refine wh 2 ?_
     refine we ?_
     refine ng ?_
     refine kT 69 hc4 ?_
     refine xT ?_
     refine xq ?_
     refine wh 8 ?_
     refine we ?_
     refine ng ?_
     refine xt ?_
     refine block_r ?_
     refine then_r ?_
     have e := Option.some.inj hF
     subst e
     exact fE [] (.inl rfl) (low_tup (lows_cons rfl (lows_cons rfl (lows_cons rfl rfl)))) ⟨rfl, rfl⟩
    refine kT 66 (show (!y17851.2.2) = true by rw [hc8]; rfl) ?_
    refine xT ?_
    refine xq ?_
    refine wh 3 ?_
    refine we ?_
    refine ng ?_
    refine xt ?_
    refine block_r ?_
    refine then_r ?_
    have e := Option.some.inj hF
    subst e
    exact fE [] (.inl rfl) (low_tup (lows_cons rfl (lows_cons rfl (lows_cons rfl rfl)))) ⟨rfl, rfl⟩
   refine wF 54 hc4 ?_
   refine wh 14 ?_
   refine we ?_
   refine ng ?_
   refine xF ?_
   refine xq ?_
   refine wh 3 ?_
   refine we ?_
   refine ng ?_
   refine ite_elim hF (fun hc9 hF => ?_) (fun hc9 hF => ?_)
   ·refine kF 66 (show (!y17851.2.2) = false by rw [hc9]; rfl) ?_
    refine xF ?_
    refine xq ?_
    refine wh 2 ?_
    refine we ?_
    refine ng ?_
    refine kF 69 hc4 ?_
    refine xF ?_
    refine xk ?_
    refine block_n ?_
    refine ng ?_
    refine xq ?_
    refine wh 7 ?_
    refine we ?_
    refine ng ?_
    refine xt ?_
    have e := Option.some.inj hF
    subst e
    exact fE [] (.inl rfl) (low_tup (lows_cons rfl (lows_cons rfl (lows_cons rfl rfl)))) ⟨rfl, rfl⟩
   refine kT 66 (show (!y17851.2.2) = true by rw [hc9]; rfl) ?_
   refine xT ?_
   refine xq ?_
   refine wh 3 ?_
   refine we ?_
   refine ng ?_
   refine xt ?_
   refine block_r ?_
   refine then_r ?_
   have e := Option.some.inj hF
   subst e
   exact fE [] (.inl rfl) (low_tup (lows_cons rfl (lows_cons rfl (lows_cons rfl rfl)))) ⟨rfl, rfl⟩
  refine xq ?_
  refine wh 1 ?_
  refine we ?_
  refine ng ?_
  refine ite_elim hF (fun hc10 hF => ?_) (fun hc10 hF => ?_)
  ·refine kT 31 hc10 ?_
   refine xT ?_
   refine xq ?_
   refine wh 3 ?_
   refine we ?_
   refine ng ?_
   refine xr ?_
   refine wh 3 ?_
   refine we ?_
   refine then_n ?_
   exact x_to hJ2 (VS.sm 1208925819614627512139388) ⟨iAdd .i64 a1 1, iAdd .u64 9223372036854775807 1, (some true), rfl, rfl, hF⟩
  refine kF 31 hc10 ?_
  refine xF ?_
  refine xk ?_
  refine then_n ?_
  exact x_to hJ2 (VS.sm 1208925819614627512139388) ⟨a1, 9223372036854775807, (some false), rfl, rfl, hF⟩
 refine xr ?_
 refine wh 5 ?_
 refine ite_elim hF (fun hc11 hF => ?_) (fun hc11 hF => ?_)
 ·refine wT 25 hc11 ?_
  refine wh 7 ?_
  refine bind_elim hF (fun y17857 hy17857 hF => w_idx (by kernel_rfl) hy17857 ?_)
  refine wh 11 ?_
  refine we ?_
  refine then_n ?_
  exact x_to hJ1 (VS.sm 1208925819614629156306556) ⟨(y17857 == 45), (some true), (some (y17857 == 45)), (some (y17857 == 45)), rfl, rfl, hF⟩
 refine wF 25 hc11 ?_
 refine wh 11 ?_
 refine we ?_
 refine then_n ?_
 exact x_to hJ1 (VS.sm 1208925819614629156306556) ⟨false, (some false), none, (some false), rfl, rfl, hF⟩
def lay_read_int_B17907 (a0 : List UInt8) (k17907 : (Int × (Sl Int)) → Option ((Sl Int) × Int × Int)) (x17907 : Int × (Sl Int)) : Option ((Sl Int) × Int × Int) :=
  if (x17907.1 == (a0.length : Int)) = true then some (⟨true, true, []⟩, 0, 5) else (idxB a0 x17907.1).bind fun y17909 => if (y17909 == 41) = true then some (x17907.2.weak, iAdd .i64 x17907.1 1, 0) else if iGe (x17907.2.l.length : Int) 512 = true then some (⟨true, true, []⟩, 0, 4) else (lay_ReadNumber a0 x17907.1).bind fun y17910 => if (y17910.2.2 != 0) = true then some (⟨true, true, []⟩, 0, y17910.2.2) else (appL 8 x17907.2 (⟨false, true, [y17910.1]⟩ : Sl Int).l).bind fun y17911 => k17907 (y17910.2.1, y17911)
def lay_read_int (a0 : List UInt8) (a1 : Int) : Option ((Sl Int) × Int × Int) :=
  if iLt a1 0 = true then some (⟨true, true, []⟩, 0, 3) else if iGt a1 (a0.length : Int) = true then some (⟨true, true, []⟩, 0, 3) else if (a1 == (a0.length : Int)) = true then some (⟨true, true, []⟩, 0, 5) else (idxB a0 a1).bind fun y17862 => if (y17862 != 40) = true then some (⟨true, true, []⟩, 0, 6) else loopN (lay_read_int_B17907 a0) FUEL (iAdd .i64 a1 1, ⟨true, true, []⟩)
theorem lay_read_int_ev {a0 : List UInt8} {a1 : Int} {r : (Sl Int) × Int × Int} (hF : lay_read_int a0 a1 = some r) : EvCall Try.prog T G0 70 [.str a0, .int .i64 a1, .fn 38 [] []] [] (fun v H' => v = .tup [sl (cI .i64) r.1, .int .i64 r.2.1, .int .i64 r.2.2] ∧ H' = []) := by
 refine xc Try.func70 ?_
 refine xq ?_
 refine wh 3 ?_
 refine we ?_
 refine ng ?_
 refine xs ?_
 refine xb ?_
 refine xq ?_
 refine wh 3 ?_
 refine ite_elim hF (fun hc1 hF => ?_) (fun hc1 hF => ?_)
 ·refine wT 16 hc1 ?_
  refine wh 9 ?_
  refine we ?_
  refine ng ?_
  refine xT ?_
  refine xq ?_
  refine wh 3 ?_
  refine we ?_
  refine ng ?_
  refine xt ?_
  refine block_r ?_
  refine then_r ?_
  have e := Option.some.inj hF
  subst e
  exact fE [] (.inl rfl) (low_tup (lows_cons (low_sl low_cI) (lows_cons rfl (lows_cons rfl rfl)))) ⟨rfl, rfl⟩
 refine wF 16 hc1 ?_
 refine wh 9 ?_
 refine we ?_
 refine ng ?_
 refine ite_elim hF (fun hc2 hF => ?_) (fun hc2 hF => ?_)
 ·refine kT 13 hc2 ?_
  refine xT ?_
  refine xq ?_
  refine wh 3 ?_
  refine we ?_
  refine ng ?_
  refine xt ?_
  refine block_r ?_
  refine then_r ?_
  have e := Option.some.inj hF
  subst e
  exact fE [] (.inl rfl) (low_tup (lows_cons (low_sl low_cI) (lows_cons rfl (lows_cons rfl rfl)))) ⟨rfl, rfl⟩
 refine kF 13 hc2 ?_
 refine xF ?_
 refine xq ?_
 refine wh 5 ?_
 refine we ?_
 refine ng ?_
 refine ite_elim hF (fun hc3 hF => ?_) (fun hc3 hF => ?_)
 ·refine kT 22 hc3 ?_
  refine xT ?_
  refine xq ?_
  refine wh 3 ?_
  refine we ?_
  refine ng ?_
  refine xt ?_
  refine block_r ?_
  refine then_r ?_
  have e := Option.some.inj hF
  subst e
  exact fE [] (.inl rfl) (low_tup (lows_cons (low_sl low_cI) (lows_cons rfl (lows_cons rfl rfl)))) ⟨rfl, rfl⟩
 refine kF 22 hc3 ?_
 refine xF ?_
 refine xq ?_
 refine wh 2 ?_
 refine bind_elim hF (fun y17862 hy17862 hF => w_idx (by kernel_rfl) hy17862 ?_)
 refine wh 5 ?_
 refine we ?_
 refine ng ?_
 refine ite_elim hF (fun hc4 hF => ?_) (fun hc4 hF => ?_)
 ·refine kT 27 hc4 ?_
  refine xT ?_
  refine xq ?_
  refine wh 3 ?_
  refine we ?_
  refine ng ?_
  refine xt ?_
  refine block_r ?_
  refine then_r ?_
  have e := Option.some.inj hF
  subst e
  exact fE [] (.inl rfl) (low_tup (lows_cons (low_sl low_cI) (lows_cons rfl (lows_cons rfl rfl)))) ⟨rfl, rfl⟩
 refine kF 27 hc4 ?_
 refine xF ?_
 refine xk ?_
 refine block_n ?_
 refine ng ?_
 refine xq ?_
 refine wh 3 ?_
 refine we ?_
 refine ng ?_
 refine xq ?_
 refine wh 1 ?_
 refine we ?_
 refine ng ?_
 refine xb ?_
 refine x_loop (fun d fr H => ∃ (x17907 : Int × (Sl Int)) (g17882 : Nat) (g17884 : Option Bool) (g17885 : Option Bool) (g17886 : Option Bool) (g17887 : Option Bool) (g17888 : Option Bool) (g17889 : Option Bool) (g17890 : Option Bool) (g17891 : Bool), fr = [.str a0, .int .i64 x17907.1, .fn 38 [] [], .any, .any, .any, .any, .any, .any, ownv (cI .i64) 0 g17882 1 x17907.2, .any, .any, .any, .bool false, .any, .bool (iLt a1 0), .bool false, .any, .any, .any, .bool (iGt a1 (a0.length : Int)), .bool (iGt a1 (a0.length : Int)), .bool false, .any, .any, .any, .bool (a1 == (a0.length : Int)), .bool false, .any, .any, .any, .bool (y17862 != 40), .any, .any, junkB g17884, .any, .any, .any, junkB g17885, junkB g17886, .any, .any, .any, junkB g17887, .any, .any, .any, junkB g17888, .any, .any, junkB g17889, .any, .any, .any, .any, .any, .any, .any, .any, .any, junkB g17890, .any, .any, .any, .any, .any, .any] ∧ H = [.room g17882 g17891] ∧ loopN (lay_read_int_B17907 a0) d x17907 = some r) (by kernel_rfl) (fun fr H ⟨x17907, g17882, g17884, g17885, g17886, g17887, g17888, g17889, g17890, g17891, e1, e2, hF⟩ => loop_no hF) (fun d17907 fr H ⟨x17907, g17882, g17884, g17885, g17886, g17887, g17888, g17889, g17890, g17891, e1, e2, hF⟩ => ?_) (VS.trans (VS.thaw (cI .i64) 9 1 ⟨true, true, []⟩ (by kernel_rfl) rfl (fun _ => rfl)) (VS.sm 147573952587320155640)) ⟨(iAdd .i64 a1 1, ⟨true, true, []⟩), 1, none, none, none, none, none, none, none, false, rfl, rfl, hF⟩
 subst e1 e2
 have hF := loop_in hF
 refine xb ?_
 refine xs ?_
 refine xb ?_
 refine xq ?_
 refine wh 5 ?_
 refine we ?_
 refine ng ?_
 refine ite_elim hF (fun hc5 hF => ?_) (fun hc5 hF => ?_)
 ·refine kT 34 hc5 ?_
  refine xT ?_
  refine xq ?_
  refine wh 3 ?_
  refine we ?_
  refine ng ?_
  refine xt ?_
  refine block_r ?_
  refine then_r ?_
  refine block_r ?_
  refine then_r ?_
  refine block_r ?_
  have e := Option.some.inj hF
  subst e
  exact fE [] (.inl rfl) (low_tup (lows_cons (low_sl low_cI) (lows_cons rfl (lows_cons rfl rfl)))) ⟨rfl, rfl⟩
 refine kF 34 hc5 ?_
 refine xF ?_
 refine xq ?_
 refine wh 2 ?_
 refine bind_elim hF (fun y17909 hy17909 hF => w_idx (by kernel_rfl) hy17909 ?_)
 refine wh 5 ?_
 refine we ?_
 refine ng ?_
 refine ite_elim hF (fun hc6 hF => ?_) (fun hc6 hF => ?_)
 ·refine kT 39 hc6 ?_
  refine xT ?_
  refine xq ?_
  refine wh 6 ?_
  refine we ?_
  refine ng ?_
  refine xt ?_
  refine block_r ?_
  refine then_r ?_
  refine block_r ?_
  refine then_r ?_
  refine block_r ?_
  have e := Option.some.inj hF
  subst e
  exact fE [] (.inl rfl) (low_tup (lows_cons (low_sl low_cI) (lows_cons rfl (lows_cons rfl rfl)))) ⟨rfl, rfl⟩
 refine kF 39 hc6 ?_
 refine xF ?_
 refine xq ?_
 refine wh 4 ?_
 refine we ?_
 refine ng ?_
 refine ite_elim hF (fun hc7 hF => ?_) (fun hc7 hF => ?_)
 ·refine kT 47 hc7 ?_
  refine xT ?_
  refine xq ?_
  refine wh 3 ?_
  refine we ?_
  refine ng ?_
  refine xt ?_
  refine block_r ?_
  refine then_r ?_
  refine block_r ?_
  refine then_r ?_
  refine block_r ?_
  have e := Option.some.inj hF
  subst e
  exact fE [] (.inl rfl) (low_tup (lows_cons (low_sl low_cI) (lows_cons rfl (lows_cons rfl rfl)))) ⟨rfl, rfl⟩
 refine kF 47 hc7 ?_
 refine xF ?_
 refine xk ?_
 refine block_n ?_
 refine ng ?_
 refine xq ?_
 refine wh 3 ?_
 refine bind_elim hF (fun y17910 hy17910 hF => uC (lay_ReadNumber_ev hy17910) (lows_cons rfl (lows_cons rfl rfl)) (low_tup (lows_cons rfl (lows_cons rfl (lows_cons rfl rfl)))) ?_)
 refine wh 11 ?_
 refine we ?_
 refine ng ?_
 refine xs ?_
 refine xq ?_
 refine wh 2 ?_
 refine we ?_
 refine ng ?_
 refine ite_elim hF (fun hc8 hF => ?_) (fun hc8 hF => ?_)
 ·refine kT 60 hc8 ?_
  refine xT ?_
  refine xq ?_
  refine wh 4 ?_
  refine we ?_
  refine ng ?_
  refine xt ?_
  refine then_r ?_
  refine block_r ?_
  refine then_r ?_
  refine block_r ?_
  have e := Option.some.inj hF
  subst e
  exact fE [] (.inl rfl) (low_tup (lows_cons (low_sl low_cI) (lows_cons rfl (lows_cons rfl rfl)))) ⟨rfl, rfl⟩
 refine kF 60 hc8 ?_
 refine xF ?_
 refine xk ?_
 refine ng ?_
 refine xq ?_
 refine wh 2 ?_
 refine w_frz (v := sl (cI .i64) (⟨false, true, [y17910.1]⟩ : Sl Int)) (by kernel_rfl) ?_
 refine bind_elim hF (fun y17911 hy17911 hF => w_app (cI .i64) (e := 3) (sz := 1) (l0 := 0) (real := g17891) (ver := g17882) (x := x17907.2) (ys := (⟨false, true, [y17910.1]⟩ : Sl Int).l) hy17911 (by kernel_rfl) (by decide) (gives_sl (x := (⟨false, true, [y17910.1]⟩ : Sl Int)) (by kernel_rfl) (fun _ => rfl)) (room_at (by kernel_rfl)) ?_)
 refine wr 5 [.room (g17882 + 1) (g17891 || !((⟨false, true, [y17910.1]⟩ : Sl Int).l.length == 0))] ?_
 refine we ?_
 refine ng ?_
 refine xr ?_
 refine wh 2 ?_
 refine we ?_
 refine block_n ?_
 refine then_n ?_
 exact x_back (VS.sm 147573952587320155640) ⟨(y17910.2.1, y17911), (g17882 + 1), (some false), (some (x17907.1 == (a0.length : Int))), (some false), (some (y17909 == 41)), (some false), (some (iGe (x17907.2.l.length : Int) 512)), (some false), (g17891 || !((⟨false, true, [y17910.1]⟩ : Sl Int).l.length == 0)), rfl, rfl, hF⟩
def lay_ReadNumbers (a0 : List UInt8) (a1 : Int) : Option ((Sl Int) × Int × Int) :=
  (lay_read_int a0 a1).bind fun y17861 => some (y17861.1, y17861.2.1, y17861.2.2)
theorem lay_ReadNumbers_ev {a0 : List UInt8} {a1 : Int} {r : (Sl Int) × Int × Int} (hF : lay_ReadNumbers a0 a1 = some r) : EvCall Try.prog T G0 52 [.str a0, .int .i64 a1] [] (fun v H' => v = .tup [sl (cI .i64) r.1, .int .i64 r.2.1, .int .i64 r.2.2] ∧ H' = []) := by
 refine xc Try.func52 ?_
 refine xq ?_
 refine wh 3 ?_
 refine we ?_
 refine ng ?_
 refine xq ?_
 refine wh 2 ?_
 refine bind_elim hF (fun y17861 hy17861 hF => uC (lay_read_int_ev hy17861) (lows_cons rfl (lows_cons rfl (lows_cons (low_fn rfl rfl) rfl))) (low_tup (lows_cons (low_sl low_cI) (lows_cons rfl (lows_cons rfl rfl)))) ?_)
 refine wh 9 ?_
 refine we ?_
 refine ng ?_
 refine xt ?_
 have e := Option.some.inj hF
 subst e
 exact fE [] (.inl rfl) (low_tup (lows_cons (low_sl low_cI) (lows_cons rfl (lows_cons rfl rfl)))) ⟨rfl, rfl⟩
def prune_blobs_J1 (y17862 : (Sl Int) × Int × Int) (p17903 : Sl Held) : Option ((Sl Held) × Int × Int) :=
  some (p17903.weak, y17862.2.1, 0)
def prune_blobs_B17937 (y17861 : (Sl Int) × Int × Int) (y17862 : (Sl Int) × Int × Int) (k17937 : ((Sl Held) × Int) → Option ((Sl Held) × Int × Int)) (x17937 : (Sl Held) × Int) : Option ((Sl Held) × Int × Int) :=
  if iLt x17937.2 (y17861.1.l.length : Int) = true then (idxL y17861.1.l x17937.2).bind fun y17941 => (idxL y17862.1.l x17937.2).bind fun y17942 => (appL 16 x17937.1 (⟨false, true, [(⟨y17941, y17942⟩ : Held)]⟩ : Sl Held).l).bind fun y17943 => k17937 (y17943, iAdd .i64 x17937.2 1) else prune_blobs_J1 y17862 x17937.1
def prune_blobs (a0 : List UInt8) (a1 : Int) : Option ((Sl Held) × Int × Int) :=
  (lay_ReadNumbers a0 a1).bind fun y17861 => if (y17861.2.2 != 0) = true then some (⟨true, true, []⟩, 0, y17861.2.2) else (lay_ReadNumbers a0 y17861.2.1).bind fun y17862 => if (y17862.2.2 != 0) = true then some (⟨true, true, []⟩, 0, y17862.2.2) else if ((y17861.1.l.length : Int) != (y17862.1.l.length : Int)) = true then some (⟨true, true, []⟩, 0, 6) else loopN (prune_blobs_B17937 y17861 y17862) FUEL (⟨true, true, []⟩, 0)
theorem prune_blobs_ev {a0 : List UInt8} {a1 : Int} {r : (Sl Held) × Int × Int} (hF : prune_blobs a0 a1 = some r) : EvCall Try.prog T G0 39 [.str a0, .int .i64 a1] [] (fun v H' => v = .tup [sl cHeld r.1, .int .i64 r.2.1, .int .i64 r.2.2] ∧ H' = []) := by
 refine xc Try.func39 ?_
 refine xq ?_
 refine wh 3 ?_
 refine we ?_
 refine ng ?_
 refine xq ?_
 refine wh 2 ?_
 refine bind_elim hF (fun y17861 hy17861 hF => uC (lay_ReadNumbers_ev hy17861) (lows_cons rfl (lows_cons rfl rfl)) (low_tup (lows_cons (low_sl low_cI) (lows_cons rfl (lows_cons rfl rfl)))) ?_)
 refine wh 10 ?_
 refine we ?_
 refine ng ?_
 refine xs ?_
 refine xq ?_
 refine wh 2 ?_
 refine we ?_
 refine ng ?_
 refine ite_elim hF (fun hc1 hF => ?_) (fun hc1 hF => ?_)
 ·refine kT 21 hc1 ?_
  refine xT ?_
  refine xq ?_
  refine wh 4 ?_
  refine we ?_
  refine ng ?_
  refine xt ?_
  refine then_r ?_
  have e := Option.some.inj hF
  subst e
  exact fE [] (.inl rfl) (low_tup (lows_cons (low_sl low_cHeld) (lows_cons rfl (lows_cons rfl rfl)))) ⟨rfl, rfl⟩
 refine kF 21 hc1 ?_
 refine xF ?_
 refine xk ?_
 refine ng ?_
 refine xq ?_
 refine wh 2 ?_
 refine bind_elim hF (fun y17862 hy17862 hF => uC (lay_ReadNumbers_ev hy17862) (lows_cons rfl (lows_cons rfl rfl)) (low_tup (lows_cons (low_sl low_cI) (lows_cons rfl (lows_cons rfl rfl)))) ?_)
 refine wh 10 ?_
 refine we ?_
 refine ng ?_
 refine xs ?_
 refine xb ?_
 refine xq ?_
 refine wh 3 ?_
 refine we ?_
 refine ng ?_
 refine ite_elim hF (fun hc2 hF => ?_) (fun hc2 hF => ?_)
 ·refine kT 30 hc2 ?_
  refine xT ?_
  refine xq ?_
  refine wh 4 ?_
  refine we ?_
  refine ng ?_
  refine xt ?_
  refine block_r ?_
  refine then_r ?_
  have e := Option.some.inj hF
  subst e
  exact fE [] (.inl rfl) (low_tup (lows_cons (low_sl low_cHeld) (lows_cons rfl (lows_cons rfl rfl)))) ⟨rfl, rfl⟩
 refine kF 30 hc2 ?_
 refine xF ?_
 refine xq ?_
 refine wh 6 ?_
 refine we ?_
 refine ng ?_
 refine ite_elim hF (fun hc3 hF => ?_) (fun hc3 hF => ?_)
 ·refine kT 34 hc3 ?_
  refine xT ?_
  refine xq ?_
  refine wh 3 ?_
  refine we ?_
  refine ng ?_
  refine xt ?_
  refine block_r ?_
  refine then_r ?_
  have e := Option.some.inj hF
  subst e
  exact fE [] (.inl rfl) (low_tup (lows_cons (low_sl low_cHeld) (lows_cons rfl (lows_cons rfl rfl)))) ⟨rfl, rfl⟩
 refine kF 34 hc3 ?_
 refine xF ?_
 refine xk ?_
 refine block_n ?_
 refine ng ?_
 refine xq ?_
 refine wh 1 ?_
 refine we ?_
 refine ng ?_
 refine xj (fun fr H => ∃ (p17903 : Sl Held) (g17902 : Nat) (g17904 : Bool), fr = [.any, .int .i64 y17862.2.1, .any, .any, .any, .any, .any, .any, .any, .any, ownv cHeld 0 g17902 2 p17903, .any, .any, .any, .any, .any, .any, .any, .any, .any, .any, .bool false, .any, .any, .any, .any, .any, .any, .any, .any, .bool false, .any, .bool (y17862.2.2 != 0), .any, .bool false, .any, .any, .any, .any, .bool ((y17861.1.l.length : Int) != (y17862.1.l.length : Int)), .any, .any, .any, .bool false, .any, .any, .any, .any, .any, .any, .any, .any, .any, .any, .any, .any, .any, .any, .any] ∧ H = [.room g17902 g17904] ∧ prune_blobs_J1 y17862 p17903 = some r) (fun fr H ⟨p17903, g17902, g17904, e1, e2, hF⟩ => ?_) (fun hJ1 => ?_)
 ·subst e1 e2
  refine xq ?_
  refine wh 5 ?_
  refine we ?_
  refine ng ?_
  refine xt ?_
  have e := Option.some.inj hF
  subst e
  exact fE [] (.inl rfl) (low_tup (lows_cons (low_sl low_cHeld) (lows_cons rfl (lows_cons rfl rfl)))) ⟨rfl, rfl⟩
 refine xq ?_
 refine wh 3 ?_
 refine we ?_
 refine ng ?_
 refine xb ?_
 refine x_loop (fun d fr H => ∃ (x17937 : (Sl Held) × Int) (g17921 : Nat) (g17924 : Option Bool) (g17925 : Bool), fr = [.any, .int .i64 y17862.2.1, .any, .any, .any, .any, .any, .any, .any, sl (cI .i64) y17862.1, ownv cHeld 0 g17921 2 x17937.1, .any, .any, .any, .any, .any, .any, .any, .any, .any, .any, .bool false, .any, .any, .any, .any, .any, .any, .any, .any, .bool false, .any, .bool (y17862.2.2 != 0), .any, .bool false, .any, .any, .any, .any, .bool ((y17861.1.l.length : Int) != (y17862.1.l.length : Int)), sl (cI .i64) y17861.1, .int .i64 (y17861.1.l.length : Int), .int .i64 x17937.2, junkB g17924, .any, .any, .any, .any, .any, .any, .any, .any, .any, .any, .any, .any, .any, .any, .any] ∧ H = [.room g17921 g17925] ∧ loopN (prune_blobs_B17937 y17861 y17862) d x17937 = some r) (by kernel_rfl) (fun fr H ⟨x17937, g17921, g17924, g17925, e1, e2, hF⟩ => loop_no hF) (fun d17937 fr H ⟨x17937, g17921, g17924, g17925, e1, e2, hF⟩ => ?_) (VS.trans (VS.thaw cHeld 10 2 ⟨true, true, []⟩ (by kernel_rfl) rfl len_cHeld) (VS.sm 576452483415538173)) ⟨(⟨true, true, []⟩, 0), 1, none, false, rfl, rfl, hF⟩
 subst e1 e2
 have hF := loop_in hF
 refine xq ?_
 refine wh 1 ?_
 refine we ?_
 refine ng ?_
 refine xs ?_
 refine ite_elim hF (fun hc4 hF => ?_) (fun hc4 hF => ?_)
 ·refine kT 43 hc4 ?_
  refine xT ?_
  refine xk ?_
  refine ng ?_
  refine xs ?_
  refine xb ?_
  refine xq ?_
  refine wh 1 ?_
  refine bind_elim hF (fun y17941 hy17941 hF => uI (cI .i64) 1 hy17941 (fun _ => rfl) ?_)
  refine uE (cI .i64) 0 (t := 3) (v := .int .i64 y17941) 1 1 hy17941 (fun _ => rfl) ?_
  refine wh 5 ?_
  refine we ?_
  refine ng ?_
  refine xr ?_
  refine wh 4 ?_
  refine bind_elim hF (fun y17942 hy17942 hF => uI (cI .i64) 1 hy17942 (fun _ => rfl) ?_)
  refine uE (cI .i64) 0 (t := 3) (v := .int .i64 y17942) 1 1 hy17942 (fun _ => rfl) ?_
  refine wh 7 ?_
  refine w_frz (v := sl cHeld (⟨false, true, [(⟨y17941, y17942⟩ : Held)]⟩ : Sl Held)) (by kernel_rfl) ?_
  refine bind_elim hF (fun y17943 hy17943 hF => w_app cHeld (e := 41) (sz := 2) (l0 := 0) (real := g17925) (ver := g17921) (x := x17937.1) (ys := (⟨false, true, [(⟨y17941, y17942⟩ : Held)]⟩ : Sl Held).l) hy17943 (by kernel_rfl) (by decide) (gives_sl (x := (⟨false, true, [(⟨y17941, y17942⟩ : Held)]⟩ : Sl Held)) (by kernel_rfl) len_cHeld) (room_at (by kernel_rfl)) ?_)
  refine wr 10 [.room (g17921 + 1) (g17925 || !((⟨false, true, [(⟨y17941, y17942⟩ : Held)]⟩ : Sl Held).l.length == 0))] ?_
  refine we ?_
  refine block_n ?_
  refine ng ?_
  refine xr ?_
  refine wh 2 ?_
  refine we ?_
  refine then_n ?_
  exact x_back (VS.sm 576452483415538173) ⟨(y17943, iAdd .i64 x17937.2 1), (g17921 + 1), (some true), (g17925 || !((⟨false, true, [(⟨y17941, y17942⟩ : Held)]⟩ : Sl Held).l.length == 0)), rfl, rfl, hF⟩
 refine kF 43 hc4 ?_
 refine xF ?_
 refine xe ?_
 refine then_e ?_
 refine then_e ?_
 refine block_e ?_
 refine then_n ?_
 exact x_to hJ1 (VS.sm 576451383903910909) ⟨x17937.1, g17921, g17925, rfl, rfl, hF⟩
def prune_blobs_2_J1 (y18013 : (Sl Int) × Int × Int) (p18039 : Sl Held) : Option (Int × Int × (Sl Held)) :=
  some (y18013.2.1, 0, p18039)
def prune_blobs_2_B18058 (y18012 : (Sl Int) × Int × Int) (y18013 : (Sl Int) × Int × Int) (k18058 : ((Sl Held) × Int) → Option (Int × Int × (Sl Held))) (x18058 : (Sl Held) × Int) : Option (Int × Int × (Sl Held)) :=
  if iLt x18058.2 (y18012.1.l.length : Int) = true then (idxL y18012.1.l x18058.2).bind fun y18062 => (idxL y18013.1.l x18058.2).bind fun y18063 => (appL 16 x18058.1 (⟨false, true, [(⟨y18062, y18063⟩ : Held)]⟩ : Sl Held).l).bind fun y18064 => k18058 (y18064, iAdd .i64 x18058.2 1) else prune_blobs_2_J1 y18013 x18058.1
def prune_blobs_2 (a0 : List UInt8) (a1 : Int) : Option (Int × Int × (Sl Held)) :=
  (lay_ReadNumbers a0 a1).bind fun y18012 => if (y18012.2.2 != 0) = true then some (0, y18012.2.2, (⟨true, true, []⟩ : Sl Held)) else (lay_ReadNumbers a0 y18012.2.1).bind fun y18013 => if (y18013.2.2 != 0) = true then some (0, y18013.2.2, (⟨true, true, []⟩ : Sl Held)) else if ((y18012.1.l.length : Int) != (y18013.1.l.length : Int)) = true then some (0, 6, (⟨true, true, []⟩ : Sl Held)) else loopN (prune_blobs_2_B18058 y18012 y18013) FUEL ((⟨true, true, []⟩ : Sl Held), 0)
theorem prune_blobs_2_ev {a0 : List UInt8} {a1 : Int} {r : Int × Int × (Sl Held)} (hF : prune_blobs_2 a0 a1 = some r) : EvCall Try.prog T G0 39 [.str a0, .int .i64 a1] [] (fun v H' => v = .tup [rfv false r.2.2 0 2, .int .i64 r.1, .int .i64 r.2.1] ∧ H' = [rfb cHeld r.2.2]) := by
 refine xc Try.func39 ?_
 refine xq ?_
 refine wh 3 ?_
 refine we ?_
 refine ng ?_
 refine xq ?_
 refine wh 2 ?_
 refine bind_elim hF (fun y18012 hy18012 hF => uC (lay_ReadNumbers_ev hy18012) (lows_cons rfl (lows_cons rfl rfl)) (low_tup (lows_cons (low_sl low_cI) (lows_cons rfl (lows_cons rfl rfl)))) ?_)
 refine wh 10 ?_
 refine we ?_
 refine ng ?_
 refine xs ?_
 refine xq ?_
 refine wh 2 ?_
 refine we ?_
 refine ng ?_
 refine ite_elim hF (fun hc1 hF => ?_) (fun hc1 hF => ?_)
 ·refine kT 21 hc1 ?_
  refine xT ?_
  refine xq ?_
  refine wh 4 ?_
  refine we ?_
  refine ng ?_
  refine xt ?_
  refine then_r ?_
  have e := Option.some.inj hF
  subst e
  exact fin_vs2 (.inl rfl) (by kernel_rfl) (VS.trans (VS.thawT cHeld 0 2 (by kernel_rfl)) (VS.sh [0] 0 (by kernel_rfl) (by kernel_rfl) (by kernel_rfl) (by kernel_rfl) (shh (b0 := rfb cHeld (⟨true, true, []⟩ : Sl Held)) (by kernel_rfl) (NoRef.shb (noref_rfb low_cHeld _)) shh_nil))) (And.intro rfl rfl)
 refine kF 21 hc1 ?_
 refine xF ?_
 refine xk ?_
 refine ng ?_
 refine xq ?_
 refine wh 2 ?_
 refine bind_elim hF (fun y18013 hy18013 hF => uC (lay_ReadNumbers_ev hy18013) (lows_cons rfl (lows_cons rfl rfl)) (low_tup (lows_cons (low_sl low_cI) (lows_cons rfl (lows_cons rfl rfl)))) ?_)
 refine wh 10 ?_
 refine we ?_
 refine ng ?_
 refine xs ?_
 refine xb ?_
 refine xq ?_
 refine wh 3 ?_
 refine we ?_
 refine ng ?_
 refine ite_elim hF (fun hc2 hF => ?_) (fun hc2 hF => ?_)
 ·refine kT 30 hc2 ?_
  refine xT ?_
  refine xq ?_
  refine wh 4 ?_
  refine we ?_
  refine ng ?_
  refine xt ?_
  refine block_r ?_
  refine then_r ?_
  have e := Option.some.inj hF
  subst e
  exact fin_vs2 (.inl rfl) (by kernel_rfl) (VS.trans (VS.thawT cHeld 0 2 (by kernel_rfl)) (VS.sh [0] 0 (by kernel_rfl) (by kernel_rfl) (by kernel_rfl) (by kernel_rfl) (shh (b0 := rfb cHeld (⟨true, true, []⟩ : Sl Held)) (by kernel_rfl) (NoRef.shb (noref_rfb low_cHeld _)) shh_nil))) (And.intro rfl rfl)
 refine kF 30 hc2 ?_
 refine xF ?_
 refine xq ?_
 refine wh 6 ?_
 refine we ?_
 refine ng ?_
 refine ite_elim hF (fun hc3 hF => ?_) (fun hc3 hF => ?_)
 ·refine kT 34 hc3 ?_
  refine xT ?_
  refine xq ?_
  refine wh 3 ?_
  refine we ?_
  refine ng ?_
  refine xt ?_
  refine block_r ?_
  refine then_r ?_
  have e := Option.some.inj hF
  subst e
  exact fin_vs2 (.inl rfl) (by kernel_rfl) (VS.trans (VS.thawT cHeld 0 2 (by kernel_rfl)) (VS.sh [0] 0 (by kernel_rfl) (by kernel_rfl) (by kernel_rfl) (by kernel_rfl) (shh (b0 := rfb cHeld (⟨true, true, []⟩ : Sl Held)) (by kernel_rfl) (NoRef.shb (noref_rfb low_cHeld _)) shh_nil))) (And.intro rfl rfl)
 refine kF 34 hc3 ?_
 refine xF ?_
 refine xk ?_
 refine block_n ?_
 refine ng ?_
 refine xq ?_
 refine wh 1 ?_
 refine we ?_
 refine ng ?_
 refine xj (fun fr H => ∃ (p18039 : Sl Held), fr = [.any, .int .i64 y18013.2.1, .any, .any, .any, .any, .any, .any, .any, .any, rfv false p18039 0 2, .any, .any, .any, .any, .any, .any, .any, .any, .any, .any, .bool false, .any, .any, .any, .any, .any, .any, .any, .any, .bool false, .any, .bool (y18013.2.2 != 0), .any, .bool false, .any, .any, .any, .any, .bool ((y18012.1.l.length : Int) != (y18013.1.l.length : Int)), .any, .any, .any, .bool false, .any, .any, .any, .any, .any, .any, .any, .any, .any, .any, .any, .any, .any, .any, .any] ∧ H = [rfb cHeld p18039] ∧ prune_blobs_2_J1 y18013 p18039 = some r) (fun fr H ⟨p18039, e1, e2, hF⟩ => ?_) (fun hJ1 => ?_)
 ·subst e1 e2
  refine xq ?_
  refine wh 5 ?_
  refine we ?_
  refine ng ?_
  refine xt ?_
  have e := Option.some.inj hF
  subst e
  exact fS [0] (.inl rfl) rfl (shh (b0 := rfb cHeld p18039) (by kernel_rfl) (NoRef.shb (noref_rfb low_cHeld _)) shh_nil) ⟨rfl, rfl⟩
 refine xq ?_
 refine wh 3 ?_
 refine we ?_
 refine ng ?_
 refine xb ?_
 refine x_loop (fun d fr H => ∃ (x18058 : (Sl Held) × Int) (g18048 : Option Bool), fr = [.any, .int .i64 y18013.2.1, .any, .any, .any, .any, .any, .any, .any, sl (cI .i64) y18013.1, rfv false x18058.1 0 2, .any, .any, .any, .any, .any, .any, .any, .any, .any, .any, .bool false, .any, .any, .any, .any, .any, .any, .any, .any, .bool false, .any, .bool (y18013.2.2 != 0), .any, .bool false, .any, .any, .any, .any, .bool ((y18012.1.l.length : Int) != (y18013.1.l.length : Int)), sl (cI .i64) y18012.1, .int .i64 (y18012.1.l.length : Int), .int .i64 x18058.2, junkB g18048, .any, .any, .any, .any, .any, .any, .any, .any, .any, .any, .any, .any, .any, .any, .any] ∧ H = [rfb cHeld x18058.1] ∧ loopN (prune_blobs_2_B18058 y18012 y18013) d x18058 = some r) (by kernel_rfl) (fun fr H ⟨x18058, g18048, e1, e2, hF⟩ => loop_no hF) (fun d18058 fr H ⟨x18058, g18048, e1, e2, hF⟩ => ?_) (VS.trans (VS.thawR cHeld 10 2 (by kernel_rfl)) (VS.sm 576452483415538173)) ⟨((⟨true, true, []⟩ : Sl Held), 0), none, rfl, rfl, hF⟩
 subst e1 e2
 have hF := loop_in hF
 refine xq ?_
 refine wh 1 ?_
 refine we ?_
 refine ng ?_
 refine xs ?_
 refine ite_elim hF (fun hc4 hF => ?_) (fun hc4 hF => ?_)
 ·refine kT 43 hc4 ?_
  refine xT ?_
  refine xk ?_
  refine ng ?_
  refine xs ?_
  refine xb ?_
  refine xq ?_
  refine wh 1 ?_
  refine bind_elim hF (fun y18062 hy18062 hF => uI (cI .i64) 1 hy18062 (fun _ => rfl) ?_)
  refine uE (cI .i64) 0 (t := 3) (v := .int .i64 y18062) 1 1 hy18062 (fun _ => rfl) ?_
  refine wh 5 ?_
  refine we ?_
  refine ng ?_
  refine xr ?_
  refine wh 4 ?_
  refine bind_elim hF (fun y18063 hy18063 hF => uI (cI .i64) 1 hy18063 (fun _ => rfl) ?_)
  refine uE (cI .i64) 0 (t := 3) (v := .int .i64 y18063) 1 1 hy18063 (fun _ => rfl) ?_
  refine wh 7 ?_
  refine w_frz (v := sl cHeld (⟨false, true, [(⟨y18062, y18063⟩ : Held)]⟩ : Sl Held)) (by kernel_rfl) ?_
  refine bind_elim hF (fun y18064 hy18064 hF => w_rapp cHeld (e := 41) (l := 0) (ex := false) (y := sl cHeld (⟨false, true, [(⟨y18062, y18063⟩ : Held)]⟩ : Sl Held)) (sz := 2) (x := x18058.1) (ys := (⟨false, true, [(⟨y18062, y18063⟩ : Held)]⟩ : Sl Held).l) hy18064 (by kernel_rfl) (by decide) len_cHeld (by kernel_rfl) (gives_sl (x := (⟨false, true, [(⟨y18062, y18063⟩ : Held)]⟩ : Sl Held)) (by kernel_rfl) len_cHeld) ?_)
  refine wr 10 [.dead, rfb cHeld y18064] ?_
  refine we ?_
  refine block_n ?_
  refine ng ?_
  refine xr ?_
  refine wh 2 ?_
  refine we ?_
  refine then_n ?_
  exact x_back (VS.si [1] 576452483415538173 (tights_at [9, 40] (by kernel_rfl) (by exact ⟨(tight_sl low_cI), (tight_sl low_cI), trivial⟩)) (shh (b0 := rfb cHeld y18064) (by kernel_rfl) (NoRef.shb (noref_rfb low_cHeld _)) shh_nil)) ⟨(y18064, iAdd .i64 x18058.2 1), (some true), rfl, rfl, hF⟩
 refine kF 43 hc4 ?_
 refine xF ?_
 refine xe ?_
 refine then_e ?_
 refine then_e ?_
 refine block_e ?_
 refine then_n ?_
 exact x_to hJ1 (VS.sm 576451383903910909) ⟨x18058.1, rfl, rfl, hF⟩
def prune_plain_2_J4  : Option Bool :=
  some true
def prune_plain_2_J7 (k18255 : Int → Option Bool) (x18255 : Int) : Option Bool :=
  k18255 (iAdd .i64 x18255 1)
def prune_plain_2_B18255 (a0 : Sl Held) (k18255 : Int → Option Bool) (x18255 : Int) : Option Bool :=
  if iLt x18255 (a0.l.length : Int) = true then (idxL a0.l x18255).bind fun y18271 => if iLt y18271.Number 0 = true then some false else if iGt y18271.Number 1099511627776 = true then some false else if iLt y18271.Size 0 = true then some false else if iGt y18271.Size 4096 = true then some false else if iGt x18255 0 = true then (idxL a0.l (iSub .i64 x18255 1)).bind fun y18275 => if iLe y18271.Number y18275.Number = true then some false else prune_plain_2_J7 k18255 x18255 else prune_plain_2_J7 k18255 x18255 else prune_plain_2_J4
def prune_plain_2 (a0 : Sl Held) : Option Bool :=
  loopN (prune_plain_2_B18255 a0) FUEL 0
theorem prune_plain_2_ev {a0 : Sl Held} {r : Bool} (hF : prune_plain_2 a0 = some r) : EvCall Try.prog T G0 33 [rfv false a0 0 2] [rfb cHeld a0] (fun v H' => v = .bool r ∧ H' = [rfb cHeld a0]) := by
 refine xc Try.func33 ?_
 refine xq ?_
 refine wh 1 ?_
 refine we ?_
 refine ng ?_
 refine xj (fun fr H => ∃ (g18163 : Option Bool) (g18164 : Option Bool) (g18165 : Option Bool) (g18166 : Option Bool) (g18167 : Option Bool) (g18168 : Option Bool) (g18169 : Option Bool) (g18170 : Option Bool) (g18171 : Option Bool) (g18172 : Option Bool) (g18173 : Option Bool) (g18174 : Option Bool) (g18175 : Option Bool) (g18176 : Option Bool) (g18177 : Option Bool) (g18178 : Option Bool), fr = [.any, .any, .bool false, .any, .any, .any, .any, .any, .bool false, .any, .any, .any, .any, .any, junkB g18163, junkB g18164, .any, .any, junkB g18165, junkB g18166, junkB g18167, .any, .any, junkB g18168, junkB g18169, junkB g18170, .any, .any, junkB g18171, junkB g18172, junkB g18173, .any, junkB g18174, junkB g18175, .any, .any, .any, .any, .any, .any, .any, .any, junkB g18176, junkB g18177, junkB g18178, .any] ∧ H = [rfb cHeld a0] ∧ prune_plain_2_J4 = some r) (fun fr H ⟨g18163, g18164, g18165, g18166, g18167, g18168, g18169, g18170, g18171, g18172, g18173, g18174, g18175, g18176, g18177, g18178, e1, e2, hF⟩ => ?_) (fun hJ4 => ?_)
 ·subst e1 e2
  refine xq ?_
  refine wh 1 ?_
  refine we ?_
  refine ng ?_
  refine xt ?_
  have e := Option.some.inj hF
  subst e
  exact fS [0] (.inl rfl) rfl (shh (b0 := rfb cHeld a0) (by kernel_rfl) (NoRef.shb (noref_rfb low_cHeld _)) shh_nil) ⟨rfl, rfl⟩
 refine xq ?_
 refine wh 3 ?_
 refine we ?_
 refine ng ?_
 refine xb ?_
 refine x_loop (fun d fr H => ∃ (x18255 : Int) (g18200 : Option Bool) (g18201 : Option Bool) (g18202 : Option Bool) (g18203 : Option Bool) (g18204 : Option Bool) (g18205 : Option Bool) (g18206 : Option Bool) (g18207 : Option Bool) (g18208 : Option Bool) (g18209 : Option Bool) (g18210 : Option Bool) (g18211 : Option Bool) (g18212 : Option Bool) (g18213 : Option Bool) (g18214 : Option Bool) (g18215 : Option Bool) (g18216 : Option Bool), fr = [rfv false a0 0 2, .any, .bool false, .any, .any, rfv false a0 0 2, .int .i64 (a0.l.length : Int), .int .i64 x18255, junkB g18200, .any, .any, .any, .any, .any, junkB g18201, junkB g18202, .any, .any, junkB g18203, junkB g18204, junkB g18205, .any, .any, junkB g18206, junkB g18207, junkB g18208, .any, .any, junkB g18209, junkB g18210, junkB g18211, .any, junkB g18212, junkB g18213, .any, .any, .any, .any, .any, .any, .any, .any, junkB g18214, junkB g18215, junkB g18216, .any] ∧ H = [rfb cHeld a0] ∧ loopN (prune_plain_2_B18255 a0) d x18255 = some r) (by kernel_rfl) (fun fr H ⟨x18255, g18200, g18201, g18202, g18203, g18204, g18205, g18206, g18207, g18208, g18209, g18210, g18211, g18212, g18213, g18214, g18215, g18216, e1, e2, hF⟩ => loop_no hF) (fun d18255 fr H ⟨x18255, g18200, g18201, g18202, g18203, g18204, g18205, g18206, g18207, g18208, g18209, g18210, g18211, g18212, g18213, g18214, g18215, g18216, e1, e2, hF⟩ => ?_) (VS.sm 70368744177434) ⟨0, none, none, none, none, none, none, none, none, none, none, none, none, none, none, none, none, none, rfl, rfl, hF⟩
 subst e1 e2
 have hF := loop_in hF
 refine xq ?_
 refine wh 1 ?_
 refine we ?_
 refine ng ?_
 refine xs ?_
 refine ite_elim hF (fun hc1 hF => ?_) (fun hc1 hF => ?_)
 ·refine kT 8 hc1 ?_
  refine xT ?_
  refine xk ?_
  refine ng ?_
  refine xj (fun fr H => ∃ (g18261 : Option Bool) (g18262 : Option Bool) (g18263 : Option Bool) (g18264 : Option Bool) (g18265 : Option Bool) (g18266 : Option Bool) (g18267 : Option Bool) (g18268 : Option Bool) (g18269 : Option Bool) (g18270 : Option Bool), fr = [rfv false a0 0 2, .any, .bool false, .any, .any, rfv false a0 0 2, .int .i64 (a0.l.length : Int), .int .i64 x18255, .bool true, .any, .any, .any, .any, .any, junkB g18261, .bool false, .any, .any, junkB g18262, junkB g18263, .bool false, .any, .any, junkB g18264, junkB g18265, .bool false, .any, .any, junkB g18266, junkB g18267, .bool false, .any, .bool (iGt x18255 0), junkB g18268, .any, .any, .any, .any, .any, .any, .any, .any, junkB g18269, junkB g18270, .bool false, .any] ∧ H = [rfb cHeld a0] ∧ prune_plain_2_J7 (loopN (prune_plain_2_B18255 a0) d18255) x18255 = some r) (fun fr H ⟨g18261, g18262, g18263, g18264, g18265, g18266, g18267, g18268, g18269, g18270, e1, e2, hF⟩ => ?_) (fun hJ7 => ?_)
  ·subst e1 e2
   refine xr ?_
   refine wh 2 ?_
   refine we ?_
   refine then_n ?_
   exact x_back (VS.sm 57165183434522) ⟨iAdd .i64 x18255 1, (some true), g18261, (some false), g18262, g18263, (some false), g18264, g18265, (some false), g18266, g18267, (some false), (some (iGt x18255 0)), g18268, g18269, g18270, (some false), rfl, rfl, hF⟩
  refine xb ?_
  refine xq ?_
  refine wh 1 ?_
  refine bind_elim hF (fun y18271 hy18271 hF => w_riaddr (t := 27) (e := 41) (l := 0) (ex := false) (nl := a0.nl && a0.l.isEmpty) (kd := .i64) (k := 0) (sz := 2) (len := a0.l.length) (b := a0.l) hy18271 (Nat.le_refl _) (by kernel_rfl) (by kernel_rfl) (by kernel_rfl) ?_)
  refine w_rload cHeld (l := 0) (t := 41) (sz := 2) (fo := 0) (j := (0 + x18255.toNat)) a0 (v := .agg (cHeld y18271)) (z := 2) (idxL_nat hy18271) (by kernel_rfl) (by kernel_rfl) len_cHeld (by kernel_rfl) (by kernel_rfl) (by decide) (by decide) ?_
  refine wr 6 [rfb cHeld a0, .cells (cHeld y18271)] ?_
  refine we ?_
  refine ng ?_
  refine xs ?_
  refine xd 0 call_ends callMono ?_
  refine wp 4 ?_
  refine ite_elim hF (fun hc2 hF => ?_) (fun hc2 hF => ?_)
  ·refine wT 15 hc2 ?_
   refine wp 33 ?_
   refine we ?_
   refine de ?_
   refine ng ?_
   refine xT ?_
   refine xq ?_
   refine wh 1 ?_
   refine we ?_
   refine ng ?_
   refine xt ?_
   refine block_r ?_
   refine then_r ?_
   refine then_r ?_
   refine block_r ?_
   refine then_r ?_
   have e := Option.some.inj hF
   subst e
   exact fS [0] (.inl rfl) rfl (shh (b0 := rfb cHeld a0) (by kernel_rfl) (NoRef.shb (noref_rfb low_cHeld _)) shh_nil) ⟨rfl, rfl⟩
  refine wF 15 hc2 ?_
  refine wp 9 ?_
  refine ite_elim hF (fun hc3 hF => ?_) (fun hc3 hF => ?_)
  ·refine wT 20 hc3 ?_
   refine wp 33 ?_
   refine we ?_
   refine de ?_
   refine ng ?_
   refine xT ?_
   refine xq ?_
   refine wh 1 ?_
   refine we ?_
   refine ng ?_
   refine xt ?_
   refine block_r ?_
   refine then_r ?_
   refine then_r ?_
   refine block_r ?_
   refine then_r ?_
   have e := Option.some.inj hF
   subst e
   exact fS [0] (.inl rfl) rfl (shh (b0 := rfb cHeld a0) (by kernel_rfl) (NoRef.shb (noref_rfb low_cHeld _)) shh_nil) ⟨rfl, rfl⟩
  refine wF 20 hc3 ?_
  refine wp 14 ?_
  refine ite_elim hF (fun hc4 hF => ?_) (fun hc4 hF => ?_)
  ·refine wT 25 hc4 ?_
   refine wp 33 ?_
   refine we ?_
   refine de ?_
   refine ng ?_
   refine xT ?_
   refine xq ?_
   refine wh 1 ?_
   refine we ?_
   refine ng ?_
   refine xt ?_
   refine block_r ?_
   refine then_r ?_
   refine then_r ?_
   refine block_r ?_
   refine then_r ?_
   have e := Option.some.inj hF
   subst e
   exact fS [0] (.inl rfl) rfl (shh (b0 := rfb cHeld a0) (by kernel_rfl) (NoRef.shb (noref_rfb low_cHeld _)) shh_nil) ⟨rfl, rfl⟩
  refine wF 25 hc4 ?_
  refine wp 19 ?_
  refine ite_elim hF (fun hc5 hF => ?_) (fun hc5 hF => ?_)
  ·refine wT 30 hc5 ?_
   refine wp 33 ?_
   refine we ?_
   refine de ?_
   refine ng ?_
   refine xT ?_
   refine xq ?_
   refine wh 1 ?_
   refine we ?_
   refine ng ?_
   refine xt ?_
   refine block_r ?_
   refine then_r ?_
   refine then_r ?_
   refine block_r ?_
   refine then_r ?_
   have e := Option.some.inj hF
   subst e
   exact fS [0] (.inl rfl) rfl (shh (b0 := rfb cHeld a0) (by kernel_rfl) (NoRef.shb (noref_rfb low_cHeld _)) shh_nil) ⟨rfl, rfl⟩
  refine wF 30 hc5 ?_
  refine wp 22 ?_
  refine ite_elim hF (fun hc6 hF => ?_) (fun hc6 hF => ?_)
  ·refine wT 33 hc6 ?_
   refine wp 27 ?_
   refine bind_elim hF (fun y18275 hy18275 hF => w_riaddr (t := 27) (e := 41) (l := 0) (ex := false) (nl := a0.nl && a0.l.isEmpty) (kd := .i64) (k := 0) (sz := 2) (len := a0.l.length) (b := a0.l) hy18275 (Nat.le_refl _) (by kernel_rfl) (by kernel_rfl) (by kernel_rfl) ?_)
   refine wp 29 ?_
   refine w_rload cHeld (l := 0) (t := 3) (sz := 2) (fo := 0) (j := (0 + (iSub .i64 x18255 1).toNat)) a0 (v := .int .i64 y18275.Number) (z := 1) (idxL_nat hy18275) (by kernel_rfl) (by kernel_rfl) len_cHeld (by kernel_rfl) (by kernel_rfl) (by decide) (by decide) ?_
   refine wp 33 ?_
   refine we ?_
   refine de ?_
   refine ng ?_
   refine ite_elim hF (fun hc7 hF => ?_) (fun hc7 hF => ?_)
   ·refine kT 44 hc7 ?_
    refine xT ?_
    refine xq ?_
    refine wh 1 ?_
    refine we ?_
    refine ng ?_
    refine xt ?_
    refine block_r ?_
    refine then_r ?_
    refine then_r ?_
    refine block_r ?_
    refine then_r ?_
    have e := Option.some.inj hF
    subst e
    exact fS [0] (.inl rfl) rfl (shh (b0 := rfb cHeld a0) (by kernel_rfl) (NoRef.shb (noref_rfb low_cHeld _)) shh_nil) ⟨rfl, rfl⟩
   refine kF 44 hc7 ?_
   refine xF ?_
   refine xk ?_
   refine block_n ?_
   refine then_n ?_
   exact x_to hJ7 (VS.si [0] 52771154787866 (by kernel_rfl) (shh (b0 := rfb cHeld a0) (by kernel_rfl) (NoRef.shb (noref_rfb low_cHeld _)) shh_nil)) ⟨(some (iLt y18271.Number 0)), (some (iGt y18271.Number 1099511627776)), (some (iGt y18271.Number 1099511627776)), (some (iLt y18271.Size 0)), (some (iLt y18271.Size 0)), (some (iGt y18271.Size 4096)), (some (iGt y18271.Size 4096)), (some true), (some (iLe y18271.Number y18275.Number)), (some (iLe y18271.Number y18275.Number)), rfl, rfl, hF⟩
  refine wF 33 hc6 ?_
  refine wp 33 ?_
  refine we ?_
  refine de ?_
  refine ng ?_
  refine xF ?_
  refine xk ?_
  refine block_n ?_
  refine then_n ?_
  exact x_to hJ7 (VS.si [0] 52771154787866 (by kernel_rfl) (shh (b0 := rfb cHeld a0) (by kernel_rfl) (NoRef.shb (noref_rfb low_cHeld _)) shh_nil)) ⟨(some (iLt y18271.Number 0)), (some (iGt y18271.Number 1099511627776)), (some (iGt y18271.Number 1099511627776)), (some (iLt y18271.Size 0)), (some (iLt y18271.Size 0)), (some (iGt y18271.Size 4096)), (some (iGt y18271.Size 4096)), (some false), none, (some false), rfl, rfl, hF⟩
 refine kF 8 hc1 ?_
 refine xF ?_
 refine xe ?_
 refine then_e ?_
 refine then_e ?_
 refine block_e ?_
 refine then_n ?_
 exact x_to hJ4 (VS.sm 39567594045179) ⟨g18201, g18202, g18203, g18204, g18205, g18206, g18207, g18208, g18209, g18210, g18211, g18212, g18213, g18214, g18215, g18216, rfl, rfl, hF⟩
def prune_Read_J2 (y17914 : Int × Int × (Sl Held)) (p17941 : Sl Prune_state) : Option (Int ⊕ (Int × (Sl Prune_state) × (Sl Held))) :=
  some (.inr (0, p17941, y17914.2.2))
def prune_Read_B17958 (p17910 : Sl Prune_state) (y17914 : Int × Int × (Sl Held)) (k17958 : (Int × (Sl Prune_state)) → Option (Int ⊕ (Int × (Sl Prune_state) × (Sl Held)))) (x17958 : Int × (Sl Prune_state)) : Option (Int ⊕ (Int × (Sl Prune_state) × (Sl Held))) :=
  if iLt x17958.1 (p17910.l.length : Int) = true then (idxL p17910.l x17958.1).bind fun y17961 => (prune_Book_Add y17961.number y17961.l x17958.2 y17914.2.2).bind fun y17962 => if (y17962.1 != 0) = true then some (.inl 6) else k17958 (iAdd .i64 x17958.1 1, y17962.2) else prune_Read_J2 y17914 x17958.2
def prune_Read_J1 (a0 : List UInt8) (p17908 : Int) (p17910 : Sl Prune_state) : Option (Int ⊕ (Int × (Sl Prune_state) × (Sl Held))) :=
  (prune_blobs_2 a0 p17908).bind fun y17914 => if (y17914.2.1 != 0) = true then some (.inl y17914.2.1) else if iLt y17914.1 (a0.length : Int) = true then some (.inl 6) else (prune_plain_2 y17914.2.2).bind fun y17918 => if y17918 = true then if iGt (y17914.2.2.l.length : Int) 256 = true then some (.inl 6) else loopN (prune_Read_B17958 p17910 y17914) FUEL (0, (⟨true, true, []⟩ : Sl Prune_state)) else some (.inl 6)
def prune_Read_B18016 (a0 : List UInt8) (y17843 : Int × Int × Int) (k18016 : (Int × (Sl Prune_state) × Int) → Option (Int ⊕ (Int × (Sl Prune_state) × (Sl Held)))) (x18016 : Int × (Sl Prune_state) × Int) : Option (Int ⊕ (Int × (Sl Prune_state) × (Sl Held))) :=
  if iLt x18016.2.2 y17843.1 = true then (lay_ReadNumber a0 x18016.1).bind fun y18023 => if (y18023.2.2 != 0) = true then some (.inl y18023.2.2) else (prune_blobs a0 y18023.2.1).bind fun y18025 => if (y18025.2.2 != 0) = true then some (.inl y18025.2.2) else (appL 32 x18016.2.1 (⟨false, true, [(⟨y18023.1, y18025.1⟩ : Prune_state)]⟩ : Sl Prune_state).l).bind fun y18026 => k18016 (y18025.2.1, y18026, iAdd .i64 x18016.2.2 1) else prune_Read_J1 a0 x18016.1 x18016.2.1
def prune_Read (a0 : List UInt8) : Option (Int ⊕ (Int × (Sl Prune_state) × (Sl Held))) :=
  (lay_ReadNumber a0 0).bind fun y17843 => if (y17843.2.2 != 0) = true then some (.inl y17843.2.2) else if iLt y17843.1 0 = true then some (.inl 6) else if iGt y17843.1 512 = true then some (.inl 6) else loopN (prune_Read_B18016 a0 y17843) FUEL (y17843.2.1, ⟨true, true, []⟩, 0)
theorem prune_Read_ev {a0 : List UInt8} {r : Int ⊕ (Int × (Sl Prune_state) × (Sl Held))} (hF : prune_Read a0 = some r) : EvCall Try.prog T G0 21 [.str a0] [] (fun v H' => (Sum.elim (fun x => v = .tup [.nilptr, .int .i64 x] ∧ H' = []) (fun x => v = .tup [.ptr 0 0, .int .i64 x.1] ∧ H' = [.cells ((cL cPrune_state) x.2.1 ++ [rfv false x.2.2 1 2]), rfb cHeld x.2.2])) r) := by
 refine xc Try.func21 ?_
 refine xq ?_
 refine wh 2 ?_
 refine we ?_
 refine ng ?_
 refine xq ?_
 refine wh 1 ?_
 refine bind_elim hF (fun y17843 hy17843 hF => uC (lay_ReadNumber_ev hy17843) (lows_cons rfl (lows_cons rfl rfl)) (low_tup (lows_cons rfl (lows_cons rfl (lows_cons rfl rfl)))) ?_)
 refine wh 9 ?_
 refine we ?_
 refine ng ?_
 refine xs ?_
 refine xb ?_
 refine xq ?_
 refine wh 3 ?_
 refine we ?_
 refine ng ?_
 refine ite_elim hF (fun hc1 hF => ?_) (fun hc1 hF => ?_)
 ·refine kT 19 hc1 ?_
  refine xT ?_
  refine xq ?_
  refine wh 3 ?_
  refine we ?_
  refine ng ?_
  refine xt ?_
  refine block_r ?_
  refine then_r ?_
  have e := Option.some.inj hF
  subst e
  exact fS [] (.inl rfl) rfl shh_nil ⟨rfl, rfl⟩
 refine kF 19 hc1 ?_
 refine xF ?_
 refine xq ?_
 refine wh 3 ?_
 refine ite_elim hF (fun hc2 hF => ?_) (fun hc2 hF => ?_)
 ·refine wT 26 hc2 ?_
  refine wh 7 ?_
  refine we ?_
  refine ng ?_
  refine xT ?_
  refine xq ?_
  refine wh 2 ?_
  refine we ?_
  refine ng ?_
  refine xt ?_
  refine block_r ?_
  refine then_r ?_
  have e := Option.some.inj hF
  subst e
  exact fS [] (.inl rfl) rfl shh_nil ⟨rfl, rfl⟩
 refine wF 26 hc2 ?_
 refine wh 7 ?_
 refine we ?_
 refine ng ?_
 refine ite_elim hF (fun hc3 hF => ?_) (fun hc3 hF => ?_)
 ·refine kT 23 hc3 ?_
  refine xT ?_
  refine xq ?_
  refine wh 2 ?_
  refine we ?_
  refine ng ?_
  refine xt ?_
  refine block_r ?_
  refine then_r ?_
  have e := Option.some.inj hF
  subst e
  exact fS [] (.inl rfl) rfl shh_nil ⟨rfl, rfl⟩
 refine kF 23 hc3 ?_
 refine xF ?_
 refine xk ?_
 refine block_n ?_
 refine ng ?_
 refine xq ?_
 refine wh 1 ?_
 refine we ?_
 refine ng ?_
 refine xj (fun fr H => ∃ (p17908 : Int) (p17910 : Sl Prune_state) (g17909 : Nat) (g17911 : Option Bool) (g17912 : Option Bool) (g17913 : Bool), fr = [.str a0, .any, .any, .any, .any, .int .i64 p17908, .any, ownv cPrune_state 0 g17909 2 p17910, .any, .any, .any, .any, .any, .any, .any, .any, .any, .any, .any, .bool false, .any, .bool (y17843.2.2 != 0), .any, .bool false, .any, .bool (iLt y17843.1 0), .bool false, .any, .bool (iGt y17843.1 512), .bool (iGt y17843.1 512), .any, .any, .bool false, .any, .any, .any, .any, .any, .any, .any, .any, .any, .any, junkB g17911, .any, .any, .any, .any, .any, .any, .any, .any, .any, .any, junkB g17912, .any, .any, .any, .any, .any, .any, .any, .any, .any, .any, .any, .any, .any, .any, .any, .any, .any, .any, .any, .any, .any, .any, .any, .any, .any, .any, .any, .any, .any, .any, .any, .any, .any, .any, .any, .any, .any, .any, .any, .any, .any, .any, .any, .any, .any, .any, .any, .any, .any, .any] ∧ H = [.room g17909 g17913] ∧ prune_Read_J1 a0 p17908 p17910 = some r) (fun fr H ⟨p17908, p17910, g17909, g17911, g17912, g17913, e1, e2, hF⟩ => ?_) (fun hJ1 => ?_)
 ·subst e1 e2
  refine xq ?_
  refine wh 2 ?_
  refine bind_elim hF (fun y17914 hy17914 hF => uO [] [1] (v := .tup [rfv false y17914.2.2 1 2, .int .i64 y17914.1, .int .i64 y17914.2.1]) [rfb cHeld y17914.2.2] [.room g17909 g17913, rfb cHeld y17914.2.2] (prune_blobs_2_ev hy17914) (by kernel_rfl) pl_nil rfl (sbs (sb_low (noref_rfb low_cHeld _)) sbs_nil) ?_)
  refine wh 10 ?_
  refine we ?_
  refine ng ?_
  refine xs ?_
  refine xb ?_
  refine xq ?_
  refine wh 3 ?_
  refine we ?_
  refine ng ?_
  refine ite_elim hF (fun hc4 hF => ?_) (fun hc4 hF => ?_)
  ·refine kT 68 hc4 ?_
   refine xT ?_
   refine xq ?_
   refine wh 3 ?_
   refine we ?_
   refine ng ?_
   refine xt ?_
   refine block_r ?_
   refine then_r ?_
   have e := Option.some.inj hF
   subst e
   exact fS [] (.inl rfl) rfl shh_nil ⟨rfl, rfl⟩
  refine kF 68 hc4 ?_
  refine xF ?_
  refine xq ?_
  refine wh 5 ?_
  refine ite_elim hF (fun hc5 hF => ?_) (fun hc5 hF => ?_)
  ·refine wT 77 hc5 ?_
   refine wh 15 ?_
   refine we ?_
   refine ng ?_
   refine xT ?_
   refine xq ?_
   refine wh 2 ?_
   refine we ?_
   refine ng ?_
   refine xt ?_
   refine block_r ?_
   refine then_r ?_
   have e := Option.some.inj hF
   subst e
   exact fS [] (.inl rfl) rfl shh_nil ⟨rfl, rfl⟩
  refine wF 77 hc5 ?_
  refine wh 6 ?_
  refine bind_elim hF (fun y17918 hy17918 hF => uOs [1] [1] (v := .bool y17918) [rfb cHeld y17914.2.2] (prune_plain_2_ev hy17918) (by kernel_rfl) (pl (b' := rfb cHeld y17914.2.2) (by kernel_rfl) (sb_low (noref_rfb low_cHeld _)) pl_nil) rfl (sbs (sb_low (noref_rfb low_cHeld _)) sbs_nil) ?_)
  refine wh 10 ?_
  refine ite_elim hF (fun hc6 hF => ?_) (fun hc6 hF => ?_)
  ·refine wF 82 (show (!y17918) = false by rw [hc6]; rfl) ?_
   refine wh 15 ?_
   refine we ?_
   refine ng ?_
   refine ite_elim hF (fun hc7 hF => ?_) (fun hc7 hF => ?_)
   ·refine kT 72 hc7 ?_
    refine xT ?_
    refine xq ?_
    refine wh 2 ?_
    refine we ?_
    refine ng ?_
    refine xt ?_
    refine block_r ?_
    refine then_r ?_
    have e := Option.some.inj hF
    subst e
    exact fS [] (.inl rfl) rfl shh_nil ⟨rfl, rfl⟩
   refine kF 72 hc7 ?_
   refine xF ?_
   refine xk ?_
   refine block_n ?_
   refine ng ?_
   refine xq ?_
   refine wr 4 [.room g17909 g17913, rfb cHeld y17914.2.2, .cells (((cL cPrune_state) (⟨true, true, []⟩ : Sl Prune_state) ++ [rfv false y17914.2.2 1 2]))] ?_
   refine we ?_
   refine ng ?_
   refine xj (fun fr H => ∃ (p17941 : Sl Prune_state) (g17940 : Option Bool), fr = [.any, .any, .any, .any, .any, .any, .any, .any, .any, .any, .ptr 0 0, .any, .any, .any, .any, .any, .any, .any, .any, .bool false, .any, .bool (y17843.2.2 != 0), .any, .bool false, .any, .bool (iLt y17843.1 0), .bool false, .any, .bool (iGt y17843.1 512), .bool (iGt y17843.1 512), .any, .any, .bool false, .any, .any, .any, .any, .any, .any, .any, .any, .any, .any, junkB g17911, .any, .any, .any, .any, .any, .any, .any, .any, .any, .any, junkB g17912, .any, .any, .any, .any, .any, .any, .any, .any, .any, .any, .any, .any, .any, .bool false, .any, .bool (y17914.2.1 != 0), .any, .bool false, .any, .any, .any, .bool (iLt y17914.1 (a0.length : Int)), .bool false, .any, .bool y17918, .bool (!y17918), .bool (!y17918), .bool false, .any, .any, .bool (iGt (y17914.2.2.l.length : Int) 256), .bool (iGt (y17914.2.2.l.length : Int) 256), .any, .any, .any, .any, .any, .any, .bool false, .any, .any, .any, .any, .any, .any, .any, .any, junkB g17940, .any, .any] ∧ H = [.cells ((cL cPrune_state) p17941 ++ [rfv false y17914.2.2 1 2]), rfb cHeld y17914.2.2] ∧ prune_Read_J2 y17914 p17941 = some r) (fun fr H ⟨p17941, g17940, e1, e2, hF⟩ => ?_) (fun hJ2 => ?_)
   ·subst e1 e2
    refine xq ?_
    refine wh 3 ?_
    refine we ?_
    refine ng ?_
    refine xt ?_
    have e := Option.some.inj hF
    subst e
    exact fS [0, 1] (.inl rfl) rfl (shh (b0 := .cells ((cL cPrune_state) p17941 ++ [rfv false y17914.2.2 1 2])) (by kernel_rfl) (shb_cells (by kernel_rfl) (by kernel_rfl) (tights_app (tights_lows ((low_cL low_cPrune_state) _)) (tights_cons rfl rfl))) (shh (b0 := rfb cHeld y17914.2.2) (by kernel_rfl) (NoRef.shb (noref_rfb low_cHeld _)) shh_nil)) ⟨rfl, rfl⟩
   refine xq ?_
   refine wh 3 ?_
   refine we ?_
   refine ng ?_
   refine xb ?_
   refine x_loop (fun d fr H => ∃ (x17958 : Int × (Sl Prune_state)) (g17947 : Option Bool) (g17948 : Option Bool), fr = [.any, .any, .any, .any, .any, .any, .any, .any, .any, .any, .ptr 0 0, .any, .any, .any, .any, .any, .any, .any, .any, .bool false, .any, .bool (y17843.2.2 != 0), .any, .bool false, .any, .bool (iLt y17843.1 0), .bool false, .any, .bool (iGt y17843.1 512), .bool (iGt y17843.1 512), .any, .any, .bool false, .any, .any, .any, .any, .any, .any, .any, .any, .any, .any, junkB g17911, .any, .any, .any, .any, .any, .any, .any, .any, .any, .any, junkB g17912, .any, .any, .any, .any, .any, .any, .any, .any, .any, .any, .any, .any, .any, .bool false, .any, .bool (y17914.2.1 != 0), .any, .bool false, .any, .any, .any, .bool (iLt y17914.1 (a0.length : Int)), .bool false, .any, .bool y17918, .bool (!y17918), .bool (!y17918), .bool false, .any, .any, .bool (iGt (y17914.2.2.l.length : Int) 256), .bool (iGt (y17914.2.2.l.length : Int) 256), .any, .any, .any, ownv cPrune_state 2 g17909 2 p17910, .int .i64 (p17910.l.length : Int), .int .i64 x17958.1, junkB g17947, .any, .any, .any, .any, .any, .any, .any, .any, junkB g17948, .any, .any] ∧ H = [.cells ((cL cPrune_state) x17958.2 ++ [rfv false y17914.2.2 1 2]), rfb cHeld y17914.2.2, .room g17909 g17913] ∧ loopN (prune_Read_B17958 p17910 y17914) d x17958 = some r) (by kernel_rfl) (fun fr H ⟨x17958, g17947, g17948, e1, e2, hF⟩ => loop_no hF) (fun d17958 fr H ⟨x17958, g17947, g17948, e1, e2, hF⟩ => ?_) (VS.shX [2, 1, 0] 40556028270334297862141432560639 [43, 54] (by kernel_rfl) (by kernel_rfl) (by kernel_rfl) (by exact ⟨low_junk g17911, low_junk g17912, trivial⟩) (tights_at [43, 54, 90] (by kernel_rfl) (by exact ⟨(tight_junk g17911), (tight_junk g17912), (tight_own low_cPrune_state), trivial⟩)) (shh (b0 := .cells (((cL cPrune_state) (⟨true, true, []⟩ : Sl Prune_state) ++ [rfv false y17914.2.2 1 2]))) (by kernel_rfl) (shb_cells (by kernel_rfl) (by kernel_rfl) (tights_app (tights_lows ((low_cL low_cPrune_state) _)) (tights_cons rfl rfl))) (shh (b0 := rfb cHeld y17914.2.2) (by kernel_rfl) (NoRef.shb (noref_rfb low_cHeld _)) (shh (b0 := .room g17909 g17913) (by kernel_rfl) shb_room shh_nil)))) ⟨(0, (⟨true, true, []⟩ : Sl Prune_state)), none, none, rfl, rfl, hF⟩
   subst e1 e2
   have hF := loop_in hF
   refine xq ?_
   refine wh 1 ?_
   refine we ?_
   refine ng ?_
   refine xs ?_
   refine ite_elim hF (fun hc8 hF => ?_) (fun hc8 hF => ?_)
   ·refine kT 93 hc8 ?_
    refine xT ?_
    refine xk ?_
    refine ng ?_
    refine xs ?_
    refine xb ?_
    refine xq ?_
    refine bind_elim hF (fun y17961 hy17961 hF => uI cPrune_state 2 hy17961 len_cPrune_state ?_)
    refine uE cPrune_state 0 (t := 63) (v := .agg (cPrune_state y17961)) 2 2 hy17961 len_cPrune_state ?_
    refine wr 4 [.cells ((cL cPrune_state) x17958.2 ++ [rfv false y17914.2.2 1 2]), rfb cHeld y17914.2.2, .room g17909 g17913, .cells (cPrune_state y17961)] ?_
    refine we ?_
    refine ng ?_
    refine xq ?_
    refine wh 5 ?_
    refine bind_elim hF (fun y17962 hy17962 hF => uO [0, 1] [0, 1] (v := .int .i64 y17962.1) [.cells ((cL cPrune_state) y17962.2 ++ [rfv false y17914.2.2 1 2]), rfb cHeld y17914.2.2] [.cells ((cL cPrune_state) y17962.2 ++ [rfv false y17914.2.2 1 2]), rfb cHeld y17914.2.2, .room g17909 g17913, .cells (cPrune_state y17961)] (prune_Book_Add_ev hy17962) (tights_cons rfl (tights_cons rfl (tights_cons (tight_sl low_cHeld) rfl))) (pl (b' := .cells ((cL cPrune_state) x17958.2 ++ [rfv false y17914.2.2 1 2])) (by kernel_rfl) (sb_cells (by kernel_rfl) (by kernel_rfl) (tights_app (tights_lows ((low_cL low_cPrune_state) _)) (tights_cons rfl rfl))) (pl (b' := rfb cHeld y17914.2.2) (by kernel_rfl) (sb_low (noref_rfb low_cHeld _)) pl_nil)) rfl (sbs (sb_cells (by kernel_rfl) (by kernel_rfl) (tights_app (tights_lows ((low_cL low_cPrune_state) _)) (tights_cons rfl rfl))) (sbs (sb_low (noref_rfb low_cHeld _)) sbs_nil)) ?_)
    refine wh 7 ?_
    refine we ?_
    refine ng ?_
    refine ite_elim hF (fun hc9 hF => ?_) (fun hc9 hF => ?_)
    ·refine kT 102 hc9 ?_
     refine xT ?_
     refine xq ?_
     refine wh 2 ?_
     refine we ?_
     refine ng ?_
     refine xt ?_
     refine block_r ?_
     refine then_r ?_
     refine then_r ?_
     refine block_r ?_
     refine then_r ?_
     have e := Option.some.inj hF
     subst e
     exact fS [] (.inl rfl) rfl shh_nil ⟨rfl, rfl⟩
    refine kF 102 hc9 ?_
    refine xF ?_
    refine xk ?_
    refine block_n ?_
    refine ng ?_
    refine xr ?_
    refine wh 2 ?_
    refine we ?_
    refine then_n ?_
    exact x_back (VS.shX [0, 1, 2] 40556028270334297862141432560639 [43, 54] (by kernel_rfl) (by kernel_rfl) (by kernel_rfl) (by exact ⟨low_junk g17911, low_junk g17912, trivial⟩) (tights_at [43, 54, 90] (by kernel_rfl) (by exact ⟨(tight_junk g17911), (tight_junk g17912), (tight_own low_cPrune_state), trivial⟩)) (shh (b0 := .cells ((cL cPrune_state) y17962.2 ++ [rfv false y17914.2.2 1 2])) (by kernel_rfl) (shb_cells (by kernel_rfl) (by kernel_rfl) (tights_app (tights_lows ((low_cL low_cPrune_state) _)) (tights_cons rfl rfl))) (shh (b0 := rfb cHeld y17914.2.2) (by kernel_rfl) (NoRef.shb (noref_rfb low_cHeld _)) (shh (b0 := .room g17909 g17913) (by kernel_rfl) shb_room shh_nil)))) ⟨(iAdd .i64 x17958.1 1, y17962.2), (some true), (some false), rfl, rfl, hF⟩
   refine kF 93 hc8 ?_
   refine xF ?_
   refine xe ?_
   refine then_e ?_
   refine then_e ?_
   refine block_e ?_
   refine then_n ?_
   exact x_to hJ2 (VS.shX [0, 1] 35484187929382094875879720614911 [43, 54, 102] (by kernel_rfl) (by kernel_rfl) (by kernel_rfl) (by exact ⟨low_junk g17911, low_junk g17912, low_junk g17948, trivial⟩) (tights_at [43, 54, 102] (by kernel_rfl) (by exact ⟨(tight_junk g17911), (tight_junk g17912), (tight_junk g17948), trivial⟩)) (shh (b0 := .cells ((cL cPrune_state) x17958.2 ++ [rfv false y17914.2.2 1 2])) (by kernel_rfl) (shb_cells (by kernel_rfl) (by kernel_rfl) (tights_app (tights_lows ((low_cL low_cPrune_state) _)) (tights_cons rfl rfl))) (shh (b0 := rfb cHeld y17914.2.2) (by kernel_rfl) (NoRef.shb (noref_rfb low_cHeld _)) shh_nil))) ⟨x17958.2, g17948, rfl, rfl, hF⟩
  refine wT 82 (show (!y17918) = true by rw [hc6]; rfl) ?_
  refine wh 15 ?_
  refine we ?_
  refine ng ?_
  refine xT ?_
  refine xq ?_
  refine wh 2 ?_
  refine we ?_
  refine ng ?_
  refine xt ?_
  refine block_r ?_
  refine then_r ?_
  have e := Option.some.inj hF
  subst e
  exact fS [] (.inl rfl) rfl shh_nil ⟨rfl, rfl⟩
 refine xq ?_
 refine wh 2 ?_
 refine we ?_
 refine ng ?_
 refine xb ?_
 refine x_loop (fun d fr H => ∃ (x18016 : Int × (Sl Prune_state) × Int) (g17991 : Nat) (g17994 : Option Bool) (g17995 : Option Bool) (g17996 : Option Bool) (g17997 : Bool), fr = [.str a0, .any, .any, .any, .any, .int .i64 x18016.1, .any, ownv cPrune_state 0 g17991 2 x18016.2.1, .any, .any, .any, .any, .any, .any, .any, .any, .any, .any, .any, .bool false, .any, .bool (y17843.2.2 != 0), .any, .bool false, .any, .bool (iLt y17843.1 0), .bool false, .any, .bool (iGt y17843.1 512), .bool (iGt y17843.1 512), .int .i64 y17843.1, .int .i64 x18016.2.2, junkB g17994, .any, .any, .any, .any, .any, .any, .any, .any, .any, .any, junkB g17995, .any, .any, .any, .any, .any, .any, .any, .any, .any, .any, junkB g17996, .any, .any, .any, .any, .any, .any, .any, .any, .any, .any, .any, .any, .any, .any, .any, .any, .any, .any, .any, .any, .any, .any, .any, .any, .any, .any, .any, .any, .any, .any, .any, .any, .any, .any, .any, .any, .any, .any, .any, .any, .any, .any, .any, .any, .any, .any, .any, .any, .any, .any] ∧ H = [.room g17991 g17997] ∧ loopN (prune_Read_B18016 a0 y17843) d x18016 = some r) (by kernel_rfl) (fun fr H ⟨x18016, g17991, g17994, g17995, g17996, g17997, e1, e2, hF⟩ => loop_no hF) (fun d18016 fr H ⟨x18016, g17991, g17994, g17995, g17996, g17997, e1, e2, hF⟩ => ?_) (VS.trans (VS.thaw cPrune_state 7 2 ⟨true, true, []⟩ (by kernel_rfl) rfl len_cPrune_state) (VS.sm 40564819207303340847890364366686)) ⟨(y17843.2.1, ⟨true, true, []⟩, 0), 1, none, none, none, false, rfl, rfl, hF⟩
 subst e1 e2
 have hF := loop_in hF
 refine xq ?_
 refine wh 1 ?_
 refine we ?_
 refine ng ?_
 refine xs ?_
 refine ite_elim hF (fun hc10 hF => ?_) (fun hc10 hF => ?_)
 ·refine kT 32 hc10 ?_
  refine xT ?_
  refine xk ?_
  refine ng ?_
  refine xs ?_
  refine xb ?_
  refine xq ?_
  refine wr 3 [.room g17991 g17997, .cells (cPrune_state (⟨0, (⟨true, true, []⟩ : Sl Held)⟩ : Prune_state))] ?_
  refine we ?_
  refine ng ?_
  refine xs ?_
  refine xq ?_
  refine wh 2 ?_
  refine bind_elim hF (fun y18023 hy18023 hF => uC (lay_ReadNumber_ev hy18023) (lows_cons rfl (lows_cons rfl rfl)) (low_tup (lows_cons rfl (lows_cons rfl (lows_cons rfl rfl)))) ?_)
  refine wr 11 [.room g17991 g17997, .cells ((cI .i64) y18023.1 ++ (cL cHeld) (⟨true, true, []⟩ : Sl Held))] ?_
  refine we ?_
  refine ng ?_
  refine xq ?_
  refine wh 2 ?_
  refine we ?_
  refine ng ?_
  refine ite_elim hF (fun hc11 hF => ?_) (fun hc11 hF => ?_)
  ·refine kT 43 hc11 ?_
   refine xT ?_
   refine xq ?_
   refine wh 3 ?_
   refine we ?_
   refine ng ?_
   refine xt ?_
   refine then_r ?_
   refine block_r ?_
   refine then_r ?_
   refine then_r ?_
   refine block_r ?_
   refine then_r ?_
   have e := Option.some.inj hF
   subst e
   exact fS [] (.inl rfl) rfl shh_nil ⟨rfl, rfl⟩
  refine kF 43 hc11 ?_
  refine xF ?_
  refine xk ?_
  refine ng ?_
  refine xs ?_
  refine xq ?_
  refine wh 2 ?_
  refine bind_elim hF (fun y18025 hy18025 hF => uC (prune_blobs_ev hy18025) (lows_cons rfl (lows_cons rfl rfl)) (low_tup (lows_cons (low_sl low_cHeld) (lows_cons rfl (lows_cons rfl rfl)))) ?_)
  refine wr 11 [.room g17991 g17997, .cells ((cI .i64) y18023.1 ++ (cL cHeld) y18025.1)] ?_
  refine we ?_
  refine ng ?_
  refine xq ?_
  refine wh 2 ?_
  refine we ?_
  refine ng ?_
  refine ite_elim hF (fun hc12 hF => ?_) (fun hc12 hF => ?_)
  ·refine kT 54 hc12 ?_
   refine xT ?_
   refine xq ?_
   refine wh 3 ?_
   refine we ?_
   refine ng ?_
   refine xt ?_
   refine then_r ?_
   refine block_r ?_
   refine then_r ?_
   refine then_r ?_
   refine block_r ?_
   refine then_r ?_
   have e := Option.some.inj hF
   subst e
   exact fS [] (.inl rfl) rfl shh_nil ⟨rfl, rfl⟩
  refine kF 54 hc12 ?_
  refine xF ?_
  refine xk ?_
  refine ng ?_
  refine xr ?_
  refine wh 2 ?_
  refine w_frz (v := sl cPrune_state (⟨false, true, [(⟨y18023.1, y18025.1⟩ : Prune_state)]⟩ : Sl Prune_state)) (by kernel_rfl) ?_
  refine bind_elim hF (fun y18026 hy18026 hF => w_app cPrune_state (e := 63) (sz := 2) (l0 := 0) (real := g17997) (ver := g17991) (x := x18016.2.1) (ys := (⟨false, true, [(⟨y18023.1, y18025.1⟩ : Prune_state)]⟩ : Sl Prune_state).l) hy18026 (by kernel_rfl) (by decide) (gives_sl (x := (⟨false, true, [(⟨y18023.1, y18025.1⟩ : Prune_state)]⟩ : Sl Prune_state)) (by kernel_rfl) len_cPrune_state) (room_at (by kernel_rfl)) ?_)
  refine wr 5 [.room (g17991 + 1) (g17997 || !((⟨false, true, [(⟨y18023.1, y18025.1⟩ : Prune_state)]⟩ : Sl Prune_state).l.length == 0)), .cells ((cI .i64) y18023.1 ++ (cL cHeld) y18025.1)] ?_
  refine we ?_
  refine block_n ?_
  refine ng ?_
  refine xr ?_
  refine wh 2 ?_
  refine we ?_
  refine then_n ?_
  exact x_back (VS.si [0] 40564819207303340847890364366686 (tights_at [7] (by kernel_rfl) (by exact ⟨(tight_own low_cPrune_state), trivial⟩)) (shh (b0 := .room (g17991 + 1) (g17997 || !((⟨false, true, [(⟨y18023.1, y18025.1⟩ : Prune_state)]⟩ : Sl Prune_state).l.length == 0))) (by kernel_rfl) shb_room shh_nil)) ⟨(y18025.2.1, y18026, iAdd .i64 x18016.2.2 1), (g17991 + 1), (some true), (some false), (some false), (g17997 || !((⟨false, true, [(⟨y18023.1, y18025.1⟩ : Prune_state)]⟩ : Sl Prune_state).l.length == 0)), rfl, rfl, hF⟩
 refine kF 32 hc10 ?_
 refine xF ?_
 refine xe ?_
 refine then_e ?_
 refine then_e ?_
 refine block_e ?_
 refine then_n ?_
 exact x_to hJ1 (VS.sm 40564819207303322824694688120670) ⟨x18016.1, x18016.2.1, g17991, g17995, g17996, g17997, rfl, rfl, hF⟩
theorem prune_Read_ev1 {a0 : List UInt8} {x : Int} (hF : prune_Read a0 = some (.inl x)) : EvCall Try.prog T G0 21 [.str a0] [] (fun v H' => v = .tup [.nilptr, .int .i64 x] ∧ H' = []) := prune_Read_ev hF
theorem prune_Read_ev2 {a0 : List UInt8} {x : Int × (Sl Prune_state) × (Sl Held)} (hF : prune_Read a0 = some (.inr x)) : EvCall Try.prog T G0 21 [.str a0] [] (fun v H' => v = .tup [.ptr 0 0, .int .i64 x.1] ∧ H' = [.cells ((cL cPrune_state) x.2.1 ++ [rfv false x.2.2 1 2]), rfb cHeld x.2.2]) := prune_Read_ev hF
def prune_Book_Used_J1 (y18092 : (Sl Held)) (p18106 : Int) : Option (Int × Int) :=
  some ((y18092.l.length : Int), p18106)
def prune_Book_Used_B18117 (y18092 : (Sl Held)) (k18117 : (Int × Int) → Option (Int × Int)) (x18117 : Int × Int) : Option (Int × Int) :=
  if iLt x18117.2 (y18092.l.length : Int) = true then (idxL y18092.l x18117.2).bind fun y18119 => k18117 (iAdd .i64 x18117.1 y18119.Size, iAdd .i64 x18117.2 1) else prune_Book_Used_J1 y18092 x18117.1
def prune_Book_Used (a0 : Sl Prune_state) (a1 : Sl Held) : Option (Int × Int) :=
  (prune_Book_Held a0 a1).bind fun y18092 => loopN (prune_Book_Used_B18117 y18092) FUEL (0, 0)
theorem prune_Book_Used_ev {a0 : Sl Prune_state} {a1 : Sl Held} {r : Int × Int} (hF : prune_Book_Used a0 a1 = some r) : EvCall Try.prog T G0 18 [.ptr 0 0] [.cells ((cL cPrune_state) a0 ++ [rfv false a1 1 2]), rfb cHeld a1] (fun v H' => v = .tup [.int .i64 r.1, .int .i64 r.2] ∧ H' = [.cells ((cL cPrune_state) a0 ++ [rfv false a1 1 2]), rfb cHeld a1]) := by
 refine xc Try.func18 ?_
 refine xq ?_
 refine wh 2 ?_
 refine we ?_
 refine ng ?_
 refine xq ?_
 refine wh 1 ?_
 refine bind_elim hF (fun y18092 hy18092 hF => uOs [0, 1] [0, 1] (v := sl cHeld y18092) [.cells ((cL cPrune_state) a0 ++ [rfv false a1 1 2]), rfb cHeld a1] (prune_Book_Held_ev hy18092) (by kernel_rfl) (pl (b' := .cells ((cL cPrune_state) a0 ++ [rfv false a1 1 2])) (by kernel_rfl) (sb_cells (by kernel_rfl) (by kernel_rfl) (tights_app (tights_lows ((low_cL low_cPrune_state) _)) (tights_cons rfl rfl))) (pl (b' := rfb cHeld a1) (by kernel_rfl) (sb_low (noref_rfb low_cHeld _)) pl_nil)) (tight_sl low_cHeld) (sbs (sb_cells (by kernel_rfl) (by kernel_rfl) (tights_app (tights_lows ((low_cL low_cPrune_state) _)) (tights_cons rfl rfl))) (sbs (sb_low (noref_rfb low_cHeld _)) sbs_nil)) ?_)
 refine wh 3 ?_
 refine we ?_
 refine ng ?_
 refine xq ?_
 refine wh 1 ?_
 refine we ?_
 refine ng ?_
 refine xj (fun fr H => ∃ (p18106 : Int), fr = [.any, .any, .any, .any, sl cHeld y18092, .int .i64 p18106, .any, .any, .any, .any, .any, .any, .any, .bool false, .any, .any, .any, .any, .any, .any, .any, .any, .any, .any] ∧ H = [.cells ((cL cPrune_state) a0 ++ [rfv false a1 1 2]), rfb cHeld a1] ∧ prune_Book_Used_J1 y18092 p18106 = some r) (fun fr H ⟨p18106, e1, e2, hF⟩ => ?_) (fun hJ1 => ?_)
 ·subst e1 e2
  refine xq ?_
  refine wh 5 ?_
  refine we ?_
  refine ng ?_
  refine xt ?_
  have e := Option.some.inj hF
  subst e
  exact fS [0, 1] (.inl rfl) rfl (shh (b0 := .cells ((cL cPrune_state) a0 ++ [rfv false a1 1 2])) (by kernel_rfl) (shb_cells (by kernel_rfl) (by kernel_rfl) (tights_app (tights_lows ((low_cL low_cPrune_state) _)) (tights_cons rfl rfl))) (shh (b0 := rfb cHeld a1) (by kernel_rfl) (NoRef.shb (noref_rfb low_cHeld _)) shh_nil)) ⟨rfl, rfl⟩
 refine xq ?_
 refine wh 3 ?_
 refine we ?_
 refine ng ?_
 refine xb ?_
 refine x_loop (fun d fr H => ∃ (x18117 : Int × Int) (g18111 : Option Bool), fr = [.any, .any, .any, .any, sl cHeld y18092, .int .i64 x18117.1, .any, .any, .any, .any, sl cHeld y18092, .int .i64 (y18092.l.length : Int), .int .i64 x18117.2, junkB g18111, .any, .any, .any, .any, .any, .any, .any, .any, .any, .any] ∧ H = [.cells ((cL cPrune_state) a0 ++ [rfv false a1 1 2]), rfb cHeld a1] ∧ loopN (prune_Book_Used_B18117 y18092) d x18117 = some r) (by kernel_rfl) (fun fr H ⟨x18117, g18111, e1, e2, hF⟩ => loop_no hF) (fun d18117 fr H ⟨x18117, g18111, e1, e2, hF⟩ => ?_) (VS.sm 16769999) ⟨(0, 0), none, rfl, rfl, hF⟩
 subst e1 e2
 have hF := loop_in hF
 refine xq ?_
 refine wh 1 ?_
 refine we ?_
 refine ng ?_
 refine xs ?_
 refine ite_elim hF (fun hc1 hF => ?_) (fun hc1 hF => ?_)
 ·refine kT 13 hc1 ?_
  refine xT ?_
  refine xk ?_
  refine ng ?_
  refine xs ?_
  refine xb ?_
  refine xq ?_
  refine bind_elim hF (fun y18119 hy18119 hF => uI cHeld 2 hy18119 len_cHeld ?_)
  refine uE cHeld 0 (t := 41) (v := .agg (cHeld y18119)) 2 2 hy18119 len_cHeld ?_
  refine wr 4 [.cells ((cL cPrune_state) a0 ++ [rfv false a1 1 2]), rfb cHeld a1, .cells (cHeld y18119)] ?_
  refine we ?_
  refine ng ?_
  refine xr ?_
  refine wh 5 ?_
  refine we ?_
  refine block_n ?_
  refine ng ?_
  refine xr ?_
  refine wh 2 ?_
  refine we ?_
  refine then_n ?_
  exact x_back (VS.si [0, 1] 16769999 (tights_at [4, 10] (by kernel_rfl) (by exact ⟨(tight_sl low_cHeld), (tight_sl low_cHeld), trivial⟩)) (shh (b0 := .cells ((cL cPrune_state) a0 ++ [rfv false a1 1 2])) (by kernel_rfl) (shb_cells (by kernel_rfl) (by kernel_rfl) (tights_app (tights_lows ((low_cL low_cPrune_state) _)) (tights_cons rfl rfl))) (shh (b0 := rfb cHeld a1) (by kernel_rfl) (NoRef.shb (noref_rfb low_cHeld _)) shh_nil))) ⟨(iAdd .i64 x18117.1 y18119.Size, iAdd .i64 x18117.2 1), (some true), rfl, rfl, hF⟩
 refine kF 13 hc1 ?_
 refine xF ?_
 refine xe ?_
 refine then_e ?_
 refine then_e ?_
 refine block_e ?_
 refine then_n ?_
 exact x_to hJ1 (VS.sm 16768975) ⟨x18117.1, rfl, rfl, hF⟩
def r01_Digits_R (rc : Int → Option (List UInt8)) (a0 : Int) : Option (List UInt8) :=
  if iLt a0 10 = true then some (bytesS (⟨false, true, [IntKind.wrap .u8 (iAdd .i64 48 a0)]⟩ : Sl Int).l) else (rc (iQuo .i64 a0 10)).bind fun y18128 => (catS y18128 (bytesS (⟨false, true, [IntKind.wrap .u8 (iAdd .i64 48 (iRem a0 10))]⟩ : Sl Int).l)).bind fun y18129 => some y18129
def r01_Digits (a0 : Int) : Option (List UInt8) := loopN (fun rc (x : Int) => r01_Digits_R rc x) FUEL a0
theorem r01_Digits_ih : ∀ (d : Nat) {a0 : Int} {r : (List UInt8)} (hF : loopN (fun rc (x : Int) => r01_Digits_R rc x) d a0 = some r), EvCall Try.prog T G0 71 [.int .i64 a0] [] (fun v H' => v = .str r ∧ H' = []) := by
  intro d
  induction d with
  | zero => intro _ _ hF; cases hF
  | succ d ih =>
    intro a0 r hF
    have hF := loop_in hF
    refine xc Try.func71 ?_
    refine xq ?_
    refine wh 1 ?_
    refine we ?_
    refine ng ?_
    refine xs ?_
    refine xq ?_
    refine wh 2 ?_
    refine we ?_
    refine ng ?_
    refine ite_elim hF (fun hc1 hF => ?_) (fun hc1 hF => ?_)
    ·refine kT 4 hc1 ?_
     refine xT ?_
     refine xq ?_
     refine wh 3 ?_
     refine w_frz (v := sl (cI .u8) (⟨false, true, [IntKind.wrap .u8 (iAdd .i64 48 a0)]⟩ : Sl Int)) (by kernel_rfl) ?_
     refine w_str (l := (⟨false, true, [IntKind.wrap .u8 (iAdd .i64 48 a0)]⟩ : Sl Int).l) (by kernel_rfl) ?_
     refine wh 6 ?_
     refine we ?_
     refine ng ?_
     refine xt ?_
     refine then_r ?_
     have e := Option.some.inj hF
     subst e
     exact fE [] (.inl rfl) rfl ⟨rfl, rfl⟩
    refine kF 4 hc1 ?_
    refine xF ?_
    refine xk ?_
    refine ng ?_
    refine xs ?_
    refine xd 0 call_ends callMono ?_
    refine wp 2 ?_
    refine bind_elim hF (fun y18128 hy18128 hF => uC (ih hy18128) (lows_cons rfl rfl) rfl ?_)
    refine wp 7 ?_
    refine w_frz (v := sl (cI .u8) (⟨false, true, [IntKind.wrap .u8 (iAdd .i64 48 (iRem a0 10))]⟩ : Sl Int)) (by kernel_rfl) ?_
    refine w_str (l := (⟨false, true, [IntKind.wrap .u8 (iAdd .i64 48 (iRem a0 10))]⟩ : Sl Int).l) (by kernel_rfl) ?_
    refine bind_elim hF (fun y18129 hy18129 hF => w_cat (by kernel_rfl) hy18129 ?_)
    refine wp 11 ?_
    refine we ?_
    refine de ?_
    refine ng ?_
    refine xt ?_
    have e := Option.some.inj hF
    subst e
    exact fE [] (.inl rfl) rfl ⟨rfl, rfl⟩
theorem r01_Digits_ev {a0 : Int} {r : (List UInt8)} (hF : r01_Digits a0 = some r) : EvCall Try.prog T G0 71 [.int .i64 a0] [] (fun v H' => v = .str r ∧ H' = []) := r01_Digits_ih FUEL hF
def r01_Number (a0 : Int) : Option (List UInt8) :=
  if iGe a0 0 = true then (r01_Digits a0).bind fun y18128 => (catS y18128 [59]).bind fun y18129 => some y18129 else if (iQuo .i64 a0 10 == 0) = true then (r01_Digits (iNeg .i64 a0)).bind fun y18133 => (catS [45] y18133).bind fun y18134 => (catS y18134 [59]).bind fun y18135 => some y18135 else (r01_Digits (iNeg .i64 (iQuo .i64 a0 10))).bind fun y18136 => (catS [45] y18136).bind fun y18137 => (r01_Digits (iNeg .i64 (iRem a0 10))).bind fun y18138 => (catS y18137 y18138).bind fun y18139 => (catS y18139 [59]).bind fun y18140 => some y18140
theorem r01_Number_ev {a0 : Int} {r : (List UInt8)} (hF : r01_Number a0 = some r) : EvCall Try.prog T G0 53 [.int .i64 a0] [] (fun v H' => v = .str r ∧ H' = []) := by
 refine xc Try.func53 ?_
 refine xq ?_
 refine wh 1 ?_
 refine we ?_
 refine ng ?_
 refine xs ?_
 refine xq ?_
 refine wh 2 ?_
 refine we ?_
 refine ng ?_
 refine ite_elim hF (fun hc1 hF => ?_) (fun hc1 hF => ?_)
 ·refine kT 4 hc1 ?_
  refine xT ?_
  refine xq ?_
  refine wh 1 ?_
  refine bind_elim hF (fun y18128 hy18128 hF => uC (r01_Digits_ev hy18128) (lows_cons rfl rfl) rfl ?_)
  refine bind_elim hF (fun y18129 hy18129 hF => w_cat (by kernel_rfl) hy18129 ?_)
  refine wh 4 ?_
  refine we ?_
  refine ng ?_
  refine xt ?_
  refine then_r ?_
  have e := Option.some.inj hF
  subst e
  exact fE [] (.inl rfl) rfl ⟨rfl, rfl⟩
 refine kF 4 hc1 ?_
 refine xF ?_
 refine xk ?_
 refine ng ?_
 refine xs ?_
 refine xq ?_
 refine wh 3 ?_
 refine we ?_
 refine ng ?_
 refine ite_elim hF (fun hc2 hF => ?_) (fun hc2 hF => ?_)
 ·refine kT 10 hc2 ?_
  refine xT ?_
  refine xq ?_
  refine wh 2 ?_
  refine bind_elim hF (fun y18133 hy18133 hF => uC (r01_Digits_ev hy18133) (lows_cons rfl rfl) rfl ?_)
  refine bind_elim hF (fun y18134 hy18134 hF => w_cat (by kernel_rfl) hy18134 ?_)
  refine bind_elim hF (fun y18135 hy18135 hF => w_cat (by kernel_rfl) hy18135 ?_)
  refine wh 6 ?_
  refine we ?_
  refine ng ?_
  refine xt ?_
  refine then_r ?_
  have e := Option.some.inj hF
  subst e
  exact fE [] (.inl rfl) rfl ⟨rfl, rfl⟩
 refine kF 10 hc2 ?_
 refine xF ?_
 refine xk ?_
 refine ng ?_
 refine xq ?_
 refine wh 3 ?_
 refine bind_elim hF (fun y18136 hy18136 hF => uC (r01_Digits_ev hy18136) (lows_cons rfl rfl) rfl ?_)
 refine bind_elim hF (fun y18137 hy18137 hF => w_cat (by kernel_rfl) hy18137 ?_)
 refine wh 8 ?_
 refine bind_elim hF (fun y18138 hy18138 hF => uC (r01_Digits_ev hy18138) (lows_cons rfl rfl) rfl ?_)
 refine bind_elim hF (fun y18139 hy18139 hF => w_cat (by kernel_rfl) hy18139 ?_)
 refine bind_elim hF (fun y18140 hy18140 hF => w_cat (by kernel_rfl) hy18140 ?_)
 refine wh 12 ?_
 refine we ?_
 refine ng ?_
 refine xt ?_
 have e := Option.some.inj hF
 subst e
 exact fE [] (.inl rfl) rfl ⟨rfl, rfl⟩
def r24_lists_J1 (p18191 : List UInt8) (p18192 : List UInt8) : Option (List UInt8) :=
  (catS p18191 [41]).bind fun y18193 => (catS y18193 p18192).bind fun y18194 => (catS y18194 [41]).bind fun y18195 => some y18195
def r24_lists_B18228 (a0 : Sl Held) (k18228 : ((List UInt8) × (List UInt8) × Int) → Option (List UInt8)) (x18228 : (List UInt8) × (List UInt8) × Int) : Option (List UInt8) :=
  if iLt x18228.2.2 (a0.l.length : Int) = true then (idxL a0.l x18228.2.2).bind fun y18235 => (r01_Number y18235.Number).bind fun y18236 => (catS x18228.1 y18236).bind fun y18237 => (idxL a0.l x18228.2.2).bind fun y18238 => (r01_Number y18238.Size).bind fun y18239 => (catS x18228.2.1 y18239).bind fun y18240 => k18228 (y18237, y18240, iAdd .i64 x18228.2.2 1) else r24_lists_J1 x18228.1 x18228.2.1
def r24_lists (a0 : Sl Held) : Option (List UInt8) :=
  loopN (r24_lists_B18228 a0) FUEL ([40], [40], 0)
theorem r24_lists_ev {a0 : Sl Held} {r : (List UInt8)} (hF : r24_lists a0 = some r) : EvCall Try.prog T G0 54 [sl cHeld a0] [] (fun v H' => v = .str r ∧ H' = []) := by
 refine xc Try.func54 ?_
 refine xq ?_
 refine wh 1 ?_
 refine we ?_
 refine ng ?_
 refine xq ?_
 refine wh 1 ?_
 refine we ?_
 refine ng ?_
 refine xq ?_
 refine wh 1 ?_
 refine we ?_
 refine ng ?_
 refine xj (fun fr H => ∃ (p18191 : List UInt8) (p18192 : List UInt8), fr = [.any, .any, .any, .str p18191, .str p18192, .any, .any, .any, .any, .bool false, .any, .any, .any, .any, .any, .any, .any, .any, .any, .any, .any, .any, .any, .any, .any, .any, .any, .any, .any, .any, .any, .any, .any] ∧ H = [] ∧ r24_lists_J1 p18191 p18192 = some r) (fun fr H ⟨p18191, p18192, e1, e2, hF⟩ => ?_) (fun hJ1 => ?_)
 ·subst e1 e2
  refine xq ?_
  refine wh 1 ?_
  refine bind_elim hF (fun y18193 hy18193 hF => w_cat (by kernel_rfl) hy18193 ?_)
  refine wh 3 ?_
  refine bind_elim hF (fun y18194 hy18194 hF => w_cat (by kernel_rfl) hy18194 ?_)
  refine bind_elim hF (fun y18195 hy18195 hF => w_cat (by kernel_rfl) hy18195 ?_)
  refine wh 6 ?_
  refine we ?_
  refine ng ?_
  refine xt ?_
  have e := Option.some.inj hF
  subst e
  exact fE [] (.inl rfl) rfl ⟨rfl, rfl⟩
 refine xq ?_
 refine wh 1 ?_
 refine we ?_
 refine ng ?_
 refine xb ?_
 refine x_loop (fun d fr H => ∃ (x18228 : (List UInt8) × (List UInt8) × Int) (g18211 : Option Bool), fr = [sl cHeld a0, .any, .any, .str x18228.1, .str x18228.2.1, .int .i64 x18228.2.2, .any, .any, .any, junkB g18211, .any, .any, .any, .any, .any, .any, .any, .any, .any, .any, .any, .any, .any, .any, .any, .any, .any, .any, .any, .any, .any, .any, .any] ∧ H = [] ∧ loopN (r24_lists_B18228 a0) d x18228 = some r) (by kernel_rfl) (fun fr H ⟨x18228, g18211, e1, e2, hF⟩ => loop_no hF) (fun d18228 fr H ⟨x18228, g18211, e1, e2, hF⟩ => ?_) (VS.sm 8589934534) ⟨([40], [40], 0), none, rfl, rfl, hF⟩
 subst e1 e2
 have hF := loop_in hF
 refine xs ?_
 refine xq ?_
 refine wh 4 ?_
 refine we ?_
 refine ng ?_
 refine ite_elim hF (fun hc1 hF => ?_) (fun hc1 hF => ?_)
 ·refine kT 9 hc1 ?_
  refine xT ?_
  refine xk ?_
  refine ng ?_
  refine xs ?_
  refine xb ?_
  refine xq ?_
  refine wh 3 ?_
  refine bind_elim hF (fun y18235 hy18235 hF => uI cHeld 2 hy18235 len_cHeld ?_)
  refine wh 5 ?_
  refine uE cHeld 0 (t := 3) (v := .int .i64 y18235.Number) 2 1 hy18235 len_cHeld ?_
  refine bind_elim hF (fun y18236 hy18236 hF => uC (r01_Number_ev hy18236) (lows_cons rfl rfl) rfl ?_)
  refine bind_elim hF (fun y18237 hy18237 hF => w_cat (by kernel_rfl) hy18237 ?_)
  refine wh 9 ?_
  refine we ?_
  refine ng ?_
  refine xr ?_
  refine wh 3 ?_
  refine bind_elim hF (fun y18238 hy18238 hF => uI cHeld 2 hy18238 len_cHeld ?_)
  refine wh 5 ?_
  refine uE cHeld 1 (t := 3) (v := .int .i64 y18238.Size) 2 1 hy18238 len_cHeld ?_
  refine bind_elim hF (fun y18239 hy18239 hF => uC (r01_Number_ev hy18239) (lows_cons rfl rfl) rfl ?_)
  refine bind_elim hF (fun y18240 hy18240 hF => w_cat (by kernel_rfl) hy18240 ?_)
  refine wh 9 ?_
  refine we ?_
  refine block_n ?_
  refine ng ?_
  refine xr ?_
  refine wh 3 ?_
  refine we ?_
  refine then_n ?_
  exact x_back (VS.sm 8589934534) ⟨(y18237, y18240, iAdd .i64 x18228.2.2 1), (some true), rfl, rfl, hF⟩
 refine kF 9 hc1 ?_
 refine xF ?_
 refine xe ?_
 refine then_e ?_
 refine then_e ?_
 refine block_e ?_
 refine then_n ?_
 exact x_to hJ1 (VS.sm 8589934055) ⟨x18228.1, x18228.2.1, rfl, rfl, hF⟩
def r24_Book_Bytes_J1 (a1 : Sl Held) (p18242 : List UInt8) : Option (List UInt8) :=
  (r24_lists a1).bind fun y18243 => (catS p18242 y18243).bind fun y18244 => some y18244
def r24_Book_Bytes_B18323 (a0 : Sl Affidavitref24_State) (a1 : Sl Held) (k18323 : ((List UInt8) × Int) → Option (List UInt8)) (x18323 : (List UInt8) × Int) : Option (List UInt8) :=
  if iLt x18323.2 (a0.l.length : Int) = true then (idxL a0.l x18323.2).bind fun y18354 => (r01_Number y18354.N).bind fun y18355 => (catS x18323.1 y18355).bind fun y18356 => (idxL a0.l x18323.2).bind fun y18357 => (r24_lists y18357.L).bind fun y18358 => (catS y18356 y18358).bind fun y18359 => k18323 (y18359, iAdd .i64 x18323.2 1) else r24_Book_Bytes_J1 a1 x18323.1
def r24_Book_Bytes (a0 : Sl Affidavitref24_State) (a1 : Sl Held) : Option (List UInt8) :=
  (r01_Number (a0.l.length : Int)).bind fun y18126 => loopN (r24_Book_Bytes_B18323 a0 a1) FUEL (y18126, 0)
theorem r24_Book_Bytes_ev {a0 : Sl Affidavitref24_State} {a1 : Sl Held} {r : (List UInt8)} (hF : r24_Book_Bytes a0 a1 = some r) : EvCall Try.prog T G0 41 [.ptr 0 0] [.cells ((cL cAffidavitref24_State) a0 ++ (cL cHeld) a1)] (fun v H' => v = .str r ∧ H' = [.cells ((cL cAffidavitref24_State) a0 ++ (cL cHeld) a1)]) := by
 refine xc Try.func41 ?_
 refine xq ?_
 refine wh 1 ?_
 refine we ?_
 refine ng ?_
 refine xq ?_
 refine wh 5 ?_
 refine bind_elim hF (fun y18126 hy18126 hF => uC (r01_Number_ev hy18126) (lows_cons rfl rfl) rfl ?_)
 refine wh 7 ?_
 refine we ?_
 refine ng ?_
 refine xj (fun fr H => ∃ (p18242 : List UInt8), fr = [.ptr 0 0, .any, .any, .str p18242, .any, .any, .any, .any, .any, .any, .any, .any, .any, .any, .any, .any, .any, .bool false, .any, .any, .any, .any, .any, .any, .any, .any, .any, .any, .any, .any, .any, .any, .any, .any, .any, .any, .any, .any, .any, .any, .any, .any, .any, .any, .any, .any, .any, .any] ∧ H = [.cells ((cL cAffidavitref24_State) a0 ++ (cL cHeld) a1)] ∧ r24_Book_Bytes_J1 a1 p18242 = some r) (fun fr H ⟨p18242, e1, e2, hF⟩ => ?_) (fun hJ1 => ?_)
 ·subst e1 e2
  refine xq ?_
  refine wh 5 ?_
  refine bind_elim hF (fun y18243 hy18243 hF => uC (r24_lists_ev hy18243) (lows_cons (low_sl low_cHeld) rfl) rfl ?_)
  refine bind_elim hF (fun y18244 hy18244 hF => w_cat (by kernel_rfl) hy18244 ?_)
  refine wh 8 ?_
  refine we ?_
  refine ng ?_
  refine xt ?_
  have e := Option.some.inj hF
  subst e
  exact fS [0] (.inl rfl) rfl (shh (b0 := .cells ((cL cAffidavitref24_State) a0 ++ (cL cHeld) a1)) (by kernel_rfl) (shb_cells (by kernel_rfl) (by kernel_rfl) (tights_app (tights_lows ((low_cL low_cAffidavitref24_State) _)) (tights_lows ((low_cL low_cHeld) _)))) shh_nil) ⟨rfl, rfl⟩
 refine xq ?_
 refine wh 1 ?_
 refine we ?_
 refine ng ?_
 refine xb ?_
 refine x_loop (fun d fr H => ∃ (x18323 : (List UInt8) × Int) (g18283 : Option Bool), fr = [.ptr 0 0, .any, .any, .str x18323.1, .int .i64 x18323.2, .any, .any, .any, .any, .any, .any, .any, .any, .any, .any, .any, .any, junkB g18283, .any, .any, .any, .any, .any, .any, .any, .any, .any, .any, .any, .any, .any, .any, .any, .any, .any, .any, .any, .any, .any, .any, .any, .any, .any, .any, .any, .any, .any, .any] ∧ H = [.cells ((cL cAffidavitref24_State) a0 ++ (cL cHeld) a1)] ∧ loopN (r24_Book_Bytes_B18323 a0 a1) d x18323 = some r) (by kernel_rfl) (fun fr H ⟨x18323, g18283, e1, e2, hF⟩ => loop_no hF) (fun d18323 fr H ⟨x18323, g18283, e1, e2, hF⟩ => ?_) (VS.sm 281474976710630) ⟨(y18126, 0), none, rfl, rfl, hF⟩
 subst e1 e2
 have hF := loop_in hF
 refine xs ?_
 refine xq ?_
 refine wh 7 ?_
 refine we ?_
 refine ng ?_
 refine ite_elim hF (fun hc1 hF => ?_) (fun hc1 hF => ?_)
 ·refine kT 17 hc1 ?_
  refine xT ?_
  refine xk ?_
  refine ng ?_
  refine xs ?_
  refine xb ?_
  refine x_rows 0 2097151 [⟨21, [], [], [], []⟩] call_ends callMono (by kernel_rfl) (by kernel_rfl) ?_
  refine wp 6 ?_
  refine bind_elim hF (fun y18354 hy18354 hF => uI cAffidavitref24_State 2 hy18354 len_cAffidavitref24_State ?_)
  refine wp 8 ?_
  refine uE cAffidavitref24_State 0 (t := 3) (v := .int .i64 y18354.N) 2 1 hy18354 len_cAffidavitref24_State ?_
  refine bind_elim hF (fun y18355 hy18355 hF => uC (r01_Number_ev hy18355) (lows_cons rfl rfl) rfl ?_)
  refine bind_elim hF (fun y18356 hy18356 hF => w_cat (by kernel_rfl) hy18356 ?_)
  refine wp 16 ?_
  refine bind_elim hF (fun y18357 hy18357 hF => uI cAffidavitref24_State 2 hy18357 len_cAffidavitref24_State ?_)
  refine wp 18 ?_
  refine uE cAffidavitref24_State 1 (t := 27) (v := sl cHeld y18357.L) 2 1 hy18357 len_cAffidavitref24_State ?_
  refine bind_elim hF (fun y18358 hy18358 hF => uC (r24_lists_ev hy18358) (lows_cons (low_sl low_cHeld) rfl) rfl ?_)
  refine bind_elim hF (fun y18359 hy18359 hF => w_cat (by kernel_rfl) hy18359 ?_)
  refine we ?_
  refine rows_next ?_
  refine wh 1 ?_
  refine we ?_
  refine ⟨⟨(by kernel_rfl), trivial⟩, ?_⟩
  refine we ?_
  refine rows_done ?_
  refine de ?_
  refine block_n ?_
  refine ng ?_
  refine xr ?_
  refine wh 3 ?_
  refine we ?_
  refine then_n ?_
  exact x_back (VS.sm 281474976710630) ⟨(y18359, iAdd .i64 x18323.2 1), (some true), rfl, rfl, hF⟩
 refine kF 17 hc1 ?_
 refine xF ?_
 refine xe ?_
 refine then_e ?_
 refine then_e ?_
 refine block_e ?_
 refine then_n ?_
 exact x_to hJ1 (VS.sm 281474976579574) ⟨x18323.1, rfl, rfl, hF⟩
def l24_same_J3 (p18099 : Bool) : Option Bool :=
  some p18099
def l24_same_J2 (a0 : Sl Prune_state) (a1 : Sl Held) (a2 : Sl Affidavitref24_State) (a3 : Sl Held) (y18043 : (Sl Held)) (p18076 : Sl Int) (p18091 : Int) : Option Bool :=
  (prune_Book_Used a0 a1).bind fun y18092 => (prune_Book_Held a0 a1).bind fun y18113 => (r24_Same y18113 y18043).bind fun y18114 => if y18114 = true then if (y18092.1 == (y18043.l.length : Int)) = true then if (y18092.2 == p18091) = true then (prune_Book_States a0 a1).bind fun y18115 => (r01_Ints y18115 p18076.weak).bind fun y18116 => if y18116 = true then (prune_Book_Bytes a0 a1).bind fun y18117 => (r24_Book_Bytes a2 a3).bind fun y18118 => l24_same_J3 (y18117 == y18118) else l24_same_J3 false else l24_same_J3 false else l24_same_J3 false else l24_same_J3 false
def l24_same_B18129 (a0 : Sl Prune_state) (a1 : Sl Held) (a2 : Sl Affidavitref24_State) (a3 : Sl Held) (y18043 : (Sl Held)) (p18076 : Sl Int) (k18129 : (Int × Int) → Option Bool) (x18129 : Int × Int) : Option Bool :=
  if iLt x18129.2 (y18043.l.length : Int) = true then (idxL y18043.l x18129.2).bind fun y18131 => k18129 (iAdd .i64 x18129.1 y18131.Size, iAdd .i64 x18129.2 1) else l24_same_J2 a0 a1 a2 a3 y18043 p18076 x18129.1
def l24_same_J1 (a0 : Sl Prune_state) (a1 : Sl Held) (a2 : Sl Affidavitref24_State) (a3 : Sl Held) (y18043 : (Sl Held)) (p18076 : Sl Int) : Option Bool :=
  loopN (l24_same_B18129 a0 a1 a2 a3 y18043 p18076) FUEL (0, 0)
def l24_same_B18158 (a0 : Sl Prune_state) (a1 : Sl Held) (a2 : Sl Affidavitref24_State) (a3 : Sl Held) (y18043 : (Sl Held)) (k18158 : ((Sl Int) × Int) → Option Bool) (x18158 : (Sl Int) × Int) : Option Bool :=
  if iLt x18158.2 (a2.l.length : Int) = true then (idxL a2.l x18158.2).bind fun y18161 => (appL 8 x18158.1 (⟨false, true, [y18161.N]⟩ : Sl Int).l).bind fun y18162 => k18158 (y18162, iAdd .i64 x18158.2 1) else l24_same_J1 a0 a1 a2 a3 y18043 x18158.1
def l24_same (a0 : Sl Prune_state) (a1 : Sl Held) (a2 : Sl Affidavitref24_State) (a3 : Sl Held) : Option Bool :=
  (r24_Book_Held a2 a3).bind fun y18043 => loopN (l24_same_B18158 a0 a1 a2 a3 y18043) FUEL (⟨true, true, []⟩, 0)
theorem l24_same_ev {a0 : Sl Prune_state} {a1 : Sl Held} {a2 : Sl Affidavitref24_State} {a3 : Sl Held} {r : Bool} (hF : l24_same a0 a1 a2 a3 = some r) : EvCall Try.prog T G0 22 [.ptr 0 0, .ptr 2 0] [.cells ((cL cPrune_state) a0 ++ [rfv false a1 1 2]), rfb cHeld a1, .cells ((cL cAffidavitref24_State) a2 ++ (cL cHeld) a3)] (fun v H' => v = .bool r ∧ H' = [.cells ((cL cPrune_state) a0 ++ [rfv false a1 1 2]), rfb cHeld a1, .cells ((cL cAffidavitref24_State) a2 ++ (cL cHeld) a3)]) := by
 refine xc Try.func22 ?_
 refine xq ?_
 refine wh 1 ?_
 refine we ?_
 refine ng ?_
 refine xq ?_
 refine wh 1 ?_
 refine bind_elim hF (fun y18043 hy18043 hF => uOs [2] [2] (v := sl cHeld y18043) [.cells ((cL cAffidavitref24_State) a2 ++ (cL cHeld) a3)] (r24_Book_Held_ev hy18043) (by kernel_rfl) (pl (b' := .cells ((cL cAffidavitref24_State) a2 ++ (cL cHeld) a3)) (by kernel_rfl) (sb_cells (by kernel_rfl) (by kernel_rfl) (tights_app (tights_lows ((low_cL low_cAffidavitref24_State) _)) (tights_lows ((low_cL low_cHeld) _)))) pl_nil) (tight_sl low_cHeld) (sbs (sb_cells (by kernel_rfl) (by kernel_rfl) (tights_app (tights_lows ((low_cL low_cAffidavitref24_State) _)) (tights_lows ((low_cL low_cHeld) _)))) sbs_nil) ?_)
 refine wh 3 ?_
 refine we ?_
 refine ng ?_
 refine xq ?_
 refine wh 1 ?_
 refine we ?_
 refine ng ?_
 refine xq ?_
 refine wh 1 ?_
 refine we ?_
 refine ng ?_
 refine xj (fun fr H => ∃ (p18076 : Sl Int) (g18075 : Nat) (g18077 : Bool), fr = [.ptr 0 0, .ptr 2 0, .any, .any, .bool false, sl cHeld y18043, ownv (cI .i64) 3 g18075 1 p18076, .int .i64 0, .any, .any, .any, .any, .any, .any, .any, .any, .any, .any, .any, .any, .bool false, .any, .any, .any, .any, .any, .any, .any, .any, .any, .any, .any, .any, .any, .any, .any, .any, .any, .any, .any, .any, .any, .any, .any, .any, .any, .any, .any, .any, .any, .any, .any, .any, .any, .any, .any, .any, .any, .any, .any, .any, .any, .any, .any, .any, .any, .any, .any, .any, .any, .any, .any, .any, .any, .any, .any, .any, .any, .any, .any] ∧ H = [.cells ((cL cPrune_state) a0 ++ [rfv false a1 1 2]), rfb cHeld a1, .cells ((cL cAffidavitref24_State) a2 ++ (cL cHeld) a3), .room g18075 g18077] ∧ l24_same_J1 a0 a1 a2 a3 y18043 p18076 = some r) (fun fr H ⟨p18076, g18075, g18077, e1, e2, hF⟩ => ?_) (fun hJ1 => ?_)
 ·subst e1 e2
  refine xj (fun fr H => ∃ (p18091 : Int), fr = [.ptr 0 0, .ptr 2 0, .any, .any, .bool false, sl cHeld y18043, ownv (cI .i64) 3 g18075 1 p18076, .int .i64 p18091, .any, .any, .any, .any, .any, .any, .any, .any, .any, .any, .any, .any, .bool false, .any, .any, .any, .any, .any, .any, .any, .any, .any, .any, .any, .any, .any, .any, .any, .any, .bool false, .any, .any, .any, .any, .any, .any, .any, .any, .any, .any, .any, .any, .any, .any, .any, .any, .any, .any, .any, .any, .any, .any, .any, .any, .any, .any, .any, .any, .any, .any, .any, .any, .any, .any, .any, .any, .any, .any, .any, .any, .any, .any] ∧ H = [.cells ((cL cPrune_state) a0 ++ [rfv false a1 1 2]), rfb cHeld a1, .cells ((cL cAffidavitref24_State) a2 ++ (cL cHeld) a3), .room g18075 g18077] ∧ l24_same_J2 a0 a1 a2 a3 y18043 p18076 p18091 = some r) (fun fr H ⟨p18091, e1, e2, hF⟩ => ?_) (fun hJ2 => ?_)
  ·subst e1 e2
   refine xq ?_
   refine wh 1 ?_
   refine bind_elim hF (fun y18092 hy18092 hF => uOs [0, 1] [0, 1] (v := .tup [.int .i64 y18092.1, .int .i64 y18092.2]) [.cells ((cL cPrune_state) a0 ++ [rfv false a1 1 2]), rfb cHeld a1] (prune_Book_Used_ev hy18092) (by kernel_rfl) (pl (b' := .cells ((cL cPrune_state) a0 ++ [rfv false a1 1 2])) (by kernel_rfl) (sb_cells (by kernel_rfl) (by kernel_rfl) (tights_app (tights_lows ((low_cL low_cPrune_state) _)) (tights_cons rfl rfl))) (pl (b' := rfb cHeld a1) (by kernel_rfl) (sb_low (noref_rfb low_cHeld _)) pl_nil)) rfl (sbs (sb_cells (by kernel_rfl) (by kernel_rfl) (tights_app (tights_lows ((low_cL low_cPrune_state) _)) (tights_cons rfl rfl))) (sbs (sb_low (noref_rfb low_cHeld _)) sbs_nil)) ?_)
   refine wh 7 ?_
   refine we ?_
   refine ng ?_
   refine xj (fun fr H => ∃ (p18099 : Bool) (g18100 : Option Bool) (g18101 : Option Bool) (g18102 : Option Bool) (g18103 : Option Bool) (g18104 : Option Bool) (g18105 : Option Bool) (g18106 : Option Bool) (g18107 : Option Bool) (g18108 : Option Bool) (g18109 : Option Bool) (g18110 : Option Bool) (g18111 : Option Bool) (g18112 : Option Bool), fr = [.any, .any, .any, .any, .bool p18099, .any, .any, .any, .any, .any, .any, .any, .any, .any, .any, .any, .any, .any, .any, .any, .bool false, .any, .any, .any, .any, .any, .any, .any, .any, .any, .any, .any, .any, .any, .any, .any, .any, .bool false, .any, .any, .any, .any, .any, .any, .any, .any, .any, .any, .any, .any, .any, .any, .any, .any, .any, junkB g18100, junkB g18101, .any, .any, .any, junkB g18102, junkB g18103, junkB g18104, .any, .any, junkB g18105, junkB g18106, junkB g18107, .any, .any, .any, junkB g18108, junkB g18109, junkB g18110, .any, .any, .any, .any, junkB g18111, junkB g18112] ∧ H = [.cells ((cL cPrune_state) a0 ++ [rfv false a1 1 2]), rfb cHeld a1, .cells ((cL cAffidavitref24_State) a2 ++ (cL cHeld) a3)] ∧ l24_same_J3 p18099 = some r) (fun fr H ⟨p18099, g18100, g18101, g18102, g18103, g18104, g18105, g18106, g18107, g18108, g18109, g18110, g18111, g18112, e1, e2, hF⟩ => ?_) (fun hJ3 => ?_)
   ·subst e1 e2
    refine xt ?_
    have e := Option.some.inj hF
    subst e
    exact fS [0, 1, 2] (.inl rfl) rfl (shh (b0 := .cells ((cL cPrune_state) a0 ++ [rfv false a1 1 2])) (by kernel_rfl) (shb_cells (by kernel_rfl) (by kernel_rfl) (tights_app (tights_lows ((low_cL low_cPrune_state) _)) (tights_cons rfl rfl))) (shh (b0 := rfb cHeld a1) (by kernel_rfl) (NoRef.shb (noref_rfb low_cHeld _)) (shh (b0 := .cells ((cL cAffidavitref24_State) a2 ++ (cL cHeld) a3)) (by kernel_rfl) (shb_cells (by kernel_rfl) (by kernel_rfl) (tights_app (tights_lows ((low_cL low_cAffidavitref24_State) _)) (tights_lows ((low_cL low_cHeld) _)))) shh_nil))) ⟨rfl, rfl⟩
   refine xr ?_
   refine wh 1 ?_
   refine bind_elim hF (fun y18113 hy18113 hF => uOs [0, 1] [0, 1] (v := sl cHeld y18113) [.cells ((cL cPrune_state) a0 ++ [rfv false a1 1 2]), rfb cHeld a1] (prune_Book_Held_ev hy18113) (by kernel_rfl) (pl (b' := .cells ((cL cPrune_state) a0 ++ [rfv false a1 1 2])) (by kernel_rfl) (sb_cells (by kernel_rfl) (by kernel_rfl) (tights_app (tights_lows ((low_cL low_cPrune_state) _)) (tights_cons rfl rfl))) (pl (b' := rfb cHeld a1) (by kernel_rfl) (sb_low (noref_rfb low_cHeld _)) pl_nil)) (tight_sl low_cHeld) (sbs (sb_cells (by kernel_rfl) (by kernel_rfl) (tights_app (tights_lows ((low_cL low_cPrune_state) _)) (tights_cons rfl rfl))) (sbs (sb_low (noref_rfb low_cHeld _)) sbs_nil)) ?_)
   refine wh 3 ?_
   refine bind_elim hF (fun y18114 hy18114 hF => uC (r24_Same_ev hy18114) (lows_cons (low_sl low_cHeld) (lows_cons (low_sl low_cHeld) rfl)) rfl ?_)
   refine wh 5 ?_
   refine ite_elim hF (fun hc1 hF => ?_) (fun hc1 hF => ?_)
   ·refine wT 56 hc1 ?_
    refine wh 11 ?_
    refine ite_elim hF (fun hc2 hF => ?_) (fun hc2 hF => ?_)
    ·refine wT 62 hc2 ?_
     refine wh 16 ?_
     refine ite_elim hF (fun hc3 hF => ?_) (fun hc3 hF => ?_)
     ·refine wT 67 hc3 ?_
      refine wh 17 ?_
      refine bind_elim hF (fun y18115 hy18115 hF => uOs [0, 1] [0, 1] (v := sl (cI .i64) y18115) [.cells ((cL cPrune_state) a0 ++ [rfv false a1 1 2]), rfb cHeld a1] (prune_Book_States_ev hy18115) (by kernel_rfl) (pl (b' := .cells ((cL cPrune_state) a0 ++ [rfv false a1 1 2])) (by kernel_rfl) (sb_cells (by kernel_rfl) (by kernel_rfl) (tights_app (tights_lows ((low_cL low_cPrune_state) _)) (tights_cons rfl rfl))) (pl (b' := rfb cHeld a1) (by kernel_rfl) (sb_low (noref_rfb low_cHeld _)) pl_nil)) (tight_sl low_cI) (sbs (sb_cells (by kernel_rfl) (by kernel_rfl) (tights_app (tights_lows ((low_cL low_cPrune_state) _)) (tights_cons rfl rfl))) (sbs (sb_low (noref_rfb low_cHeld _)) sbs_nil)) ?_)
      refine wh 19 ?_
      refine bind_elim hF (fun y18116 hy18116 hF => uC (r01_Ints_ev hy18116) (lows_cons (low_sl low_cI) (lows_cons (low_sl low_cI) rfl)) rfl ?_)
      refine wh 22 ?_
      refine ite_elim hF (fun hc4 hF => ?_) (fun hc4 hF => ?_)
      ·refine wT 73 hc4 ?_
       refine wh 23 ?_
       refine bind_elim hF (fun y18117 hy18117 hF => uOs [0, 1] [0, 1] (v := .str y18117) [.cells ((cL cPrune_state) a0 ++ [rfv false a1 1 2]), rfb cHeld a1] (prune_Book_Bytes_ev hy18117) (by kernel_rfl) (pl (b' := .cells ((cL cPrune_state) a0 ++ [rfv false a1 1 2])) (by kernel_rfl) (sb_cells (by kernel_rfl) (by kernel_rfl) (tights_app (tights_lows ((low_cL low_cPrune_state) _)) (tights_cons rfl rfl))) (pl (b' := rfb cHeld a1) (by kernel_rfl) (sb_low (noref_rfb low_cHeld _)) pl_nil)) rfl (sbs (sb_cells (by kernel_rfl) (by kernel_rfl) (tights_app (tights_lows ((low_cL low_cPrune_state) _)) (tights_cons rfl rfl))) (sbs (sb_low (noref_rfb low_cHeld _)) sbs_nil)) ?_)
       refine wh 25 ?_
       refine bind_elim hF (fun y18118 hy18118 hF => uOs [2] [2] (v := .str y18118) [.cells ((cL cAffidavitref24_State) a2 ++ (cL cHeld) a3)] (r24_Book_Bytes_ev hy18118) (by kernel_rfl) (pl (b' := .cells ((cL cAffidavitref24_State) a2 ++ (cL cHeld) a3)) (by kernel_rfl) (sb_cells (by kernel_rfl) (by kernel_rfl) (tights_app (tights_lows ((low_cL low_cAffidavitref24_State) _)) (tights_lows ((low_cL low_cHeld) _)))) pl_nil) rfl (sbs (sb_cells (by kernel_rfl) (by kernel_rfl) (tights_app (tights_lows ((low_cL low_cAffidavitref24_State) _)) (tights_lows ((low_cL low_cHeld) _)))) sbs_nil) ?_)
       refine wh 29 ?_
       refine we ?_
       refine then_n ?_
       exact x_to hJ3 (VS.si [0, 1, 2] 1208925819614491734704111 (by kernel_rfl) (shh (b0 := .cells ((cL cPrune_state) a0 ++ [rfv false a1 1 2])) (by kernel_rfl) (shb_cells (by kernel_rfl) (by kernel_rfl) (tights_app (tights_lows ((low_cL low_cPrune_state) _)) (tights_cons rfl rfl))) (shh (b0 := rfb cHeld a1) (by kernel_rfl) (NoRef.shb (noref_rfb low_cHeld _)) (shh (b0 := .cells ((cL cAffidavitref24_State) a2 ++ (cL cHeld) a3)) (by kernel_rfl) (shb_cells (by kernel_rfl) (by kernel_rfl) (tights_app (tights_lows ((low_cL low_cAffidavitref24_State) _)) (tights_lows ((low_cL low_cHeld) _)))) shh_nil)))) ⟨(y18117 == y18118), (some y18114), (some true), (some (y18092.1 == (y18043.l.length : Int))), (some (y18092.1 == (y18043.l.length : Int))), (some true), (some (y18092.2 == p18091)), (some (y18092.2 == p18091)), (some true), (some y18116), (some y18116), (some true), (some (y18117 == y18118)), (some (y18117 == y18118)), rfl, rfl, hF⟩
      refine wF 73 hc4 ?_
      refine wh 29 ?_
      refine we ?_
      refine then_n ?_
      exact x_to hJ3 (VS.si [0, 1, 2] 1208925819614491734704111 (by kernel_rfl) (shh (b0 := .cells ((cL cPrune_state) a0 ++ [rfv false a1 1 2])) (by kernel_rfl) (shb_cells (by kernel_rfl) (by kernel_rfl) (tights_app (tights_lows ((low_cL low_cPrune_state) _)) (tights_cons rfl rfl))) (shh (b0 := rfb cHeld a1) (by kernel_rfl) (NoRef.shb (noref_rfb low_cHeld _)) (shh (b0 := .cells ((cL cAffidavitref24_State) a2 ++ (cL cHeld) a3)) (by kernel_rfl) (shb_cells (by kernel_rfl) (by kernel_rfl) (tights_app (tights_lows ((low_cL low_cAffidavitref24_State) _)) (tights_lows ((low_cL low_cHeld) _)))) shh_nil)))) ⟨false, (some y18114), (some true), (some (y18092.1 == (y18043.l.length : Int))), (some (y18092.1 == (y18043.l.length : Int))), (some true), (some (y18092.2 == p18091)), (some (y18092.2 == p18091)), (some true), (some y18116), (some y18116), (some false), none, (some false), rfl, rfl, hF⟩
     refine wF 67 hc3 ?_
     refine wh 29 ?_
     refine we ?_
     refine then_n ?_
     exact x_to hJ3 (VS.si [0, 1, 2] 1208925819614491734704111 (by kernel_rfl) (shh (b0 := .cells ((cL cPrune_state) a0 ++ [rfv false a1 1 2])) (by kernel_rfl) (shb_cells (by kernel_rfl) (by kernel_rfl) (tights_app (tights_lows ((low_cL low_cPrune_state) _)) (tights_cons rfl rfl))) (shh (b0 := rfb cHeld a1) (by kernel_rfl) (NoRef.shb (noref_rfb low_cHeld _)) (shh (b0 := .cells ((cL cAffidavitref24_State) a2 ++ (cL cHeld) a3)) (by kernel_rfl) (shb_cells (by kernel_rfl) (by kernel_rfl) (tights_app (tights_lows ((low_cL low_cAffidavitref24_State) _)) (tights_lows ((low_cL low_cHeld) _)))) shh_nil)))) ⟨false, (some y18114), (some true), (some (y18092.1 == (y18043.l.length : Int))), (some (y18092.1 == (y18043.l.length : Int))), (some true), (some (y18092.2 == p18091)), (some (y18092.2 == p18091)), (some false), none, (some false), (some false), none, (some false), rfl, rfl, hF⟩
    refine wF 62 hc2 ?_
    refine wh 29 ?_
    refine we ?_
    refine then_n ?_
    exact x_to hJ3 (VS.si [0, 1, 2] 1208925819614491734704111 (by kernel_rfl) (shh (b0 := .cells ((cL cPrune_state) a0 ++ [rfv false a1 1 2])) (by kernel_rfl) (shb_cells (by kernel_rfl) (by kernel_rfl) (tights_app (tights_lows ((low_cL low_cPrune_state) _)) (tights_cons rfl rfl))) (shh (b0 := rfb cHeld a1) (by kernel_rfl) (NoRef.shb (noref_rfb low_cHeld _)) (shh (b0 := .cells ((cL cAffidavitref24_State) a2 ++ (cL cHeld) a3)) (by kernel_rfl) (shb_cells (by kernel_rfl) (by kernel_rfl) (tights_app (tights_lows ((low_cL low_cAffidavitref24_State) _)) (tights_lows ((low_cL low_cHeld) _)))) shh_nil)))) ⟨false, (some y18114), (some true), (some (y18092.1 == (y18043.l.length : Int))), (some (y18092.1 == (y18043.l.length : Int))), (some false), none, (some false), (some false), none, (some false), (some false), none, (some false), rfl, rfl, hF⟩
   refine wF 56 hc1 ?_
   refine wh 29 ?_
   refine we ?_
   refine then_n ?_
   exact x_to hJ3 (VS.si [0, 1, 2] 1208925819614491734704111 (by kernel_rfl) (shh (b0 := .cells ((cL cPrune_state) a0 ++ [rfv false a1 1 2])) (by kernel_rfl) (shb_cells (by kernel_rfl) (by kernel_rfl) (tights_app (tights_lows ((low_cL low_cPrune_state) _)) (tights_cons rfl rfl))) (shh (b0 := rfb cHeld a1) (by kernel_rfl) (NoRef.shb (noref_rfb low_cHeld _)) (shh (b0 := .cells ((cL cAffidavitref24_State) a2 ++ (cL cHeld) a3)) (by kernel_rfl) (shb_cells (by kernel_rfl) (by kernel_rfl) (tights_app (tights_lows ((low_cL low_cAffidavitref24_State) _)) (tights_lows ((low_cL low_cHeld) _)))) shh_nil)))) ⟨false, (some y18114), (some false), none, (some false), (some false), none, (some false), (some false), none, (some false), (some false), none, (some false), rfl, rfl, hF⟩
  refine xq ?_
  refine wh 1 ?_
  refine we ?_
  refine ng ?_
  refine xb ?_
  refine x_loop (fun d fr H => ∃ (x18129 : Int × Int) (g18123 : Option Bool), fr = [.ptr 0 0, .ptr 2 0, .any, .any, .bool false, sl cHeld y18043, ownv (cI .i64) 3 g18075 1 p18076, .int .i64 x18129.1, .any, .int .i64 x18129.2, .any, .any, .any, .any, .any, .any, .any, .any, .any, .any, .bool false, .any, .any, .any, .any, .any, .any, .any, .any, .any, .any, .any, .any, .any, .any, .any, .any, junkB g18123, .any, .any, .any, .any, .any, .any, .any, .any, .any, .any, .any, .any, .any, .any, .any, .any, .any, .any, .any, .any, .any, .any, .any, .any, .any, .any, .any, .any, .any, .any, .any, .any, .any, .any, .any, .any, .any, .any, .any, .any, .any, .any] ∧ H = [.cells ((cL cPrune_state) a0 ++ [rfv false a1 1 2]), rfb cHeld a1, .cells ((cL cAffidavitref24_State) a2 ++ (cL cHeld) a3), .room g18075 g18077] ∧ loopN (l24_same_B18129 a0 a1 a2 a3 y18043 p18076) d x18129 = some r) (by kernel_rfl) (fun fr H ⟨x18129, g18123, e1, e2, hF⟩ => loop_no hF) (fun d18129 fr H ⟨x18129, g18123, e1, e2, hF⟩ => ?_) (VS.sm 1208925819614629173656844) ⟨(0, 0), none, rfl, rfl, hF⟩
  subst e1 e2
  have hF := loop_in hF
  refine xs ?_
  refine xq ?_
  refine wh 4 ?_
  refine we ?_
  refine ng ?_
  refine ite_elim hF (fun hc5 hF => ?_) (fun hc5 hF => ?_)
  ·refine kT 37 hc5 ?_
   refine xT ?_
   refine xk ?_
   refine ng ?_
   refine xs ?_
   refine xb ?_
   refine xr ?_
   refine wh 3 ?_
   refine bind_elim hF (fun y18131 hy18131 hF => uI cHeld 2 hy18131 len_cHeld ?_)
   refine wh 5 ?_
   refine uE cHeld 1 (t := 3) (v := .int .i64 y18131.Size) 2 1 hy18131 len_cHeld ?_
   refine wh 8 ?_
   refine we ?_
   refine block_n ?_
   refine ng ?_
   refine xr ?_
   refine wh 3 ?_
   refine we ?_
   refine then_n ?_
   exact x_back (VS.sm 1208925819614629173656844) ⟨(iAdd .i64 x18129.1 y18131.Size, iAdd .i64 x18129.2 1), (some true), rfl, rfl, hF⟩
  refine kF 37 hc5 ?_
  refine xF ?_
  refine xe ?_
  refine then_e ?_
  refine then_e ?_
  refine block_e ?_
  refine then_n ?_
  exact x_to hJ2 (VS.sm 1208925819614491734703884) ⟨x18129.1, rfl, rfl, hF⟩
 refine xq ?_
 refine wh 1 ?_
 refine we ?_
 refine ng ?_
 refine xb ?_
 refine x_loop (fun d fr H => ∃ (x18158 : (Sl Int) × Int) (g18144 : Nat) (g18147 : Option Bool) (g18148 : Bool), fr = [.ptr 0 0, .ptr 2 0, .any, .any, .bool false, sl cHeld y18043, ownv (cI .i64) 3 g18144 1 x18158.1, .int .i64 0, .int .i64 x18158.2, .any, .any, .any, .any, .any, .any, .any, .any, .any, .any, .any, junkB g18147, .any, .any, .any, .any, .any, .any, .any, .any, .any, .any, .any, .any, .any, .any, .any, .any, .any, .any, .any, .any, .any, .any, .any, .any, .any, .any, .any, .any, .any, .any, .any, .any, .any, .any, .any, .any, .any, .any, .any, .any, .any, .any, .any, .any, .any, .any, .any, .any, .any, .any, .any, .any, .any, .any, .any, .any, .any, .any, .any] ∧ H = [.cells ((cL cPrune_state) a0 ++ [rfv false a1 1 2]), rfb cHeld a1, .cells ((cL cAffidavitref24_State) a2 ++ (cL cHeld) a3), .room g18144 g18148] ∧ loopN (l24_same_B18158 a0 a1 a2 a3 y18043) d x18158 = some r) (by kernel_rfl) (fun fr H ⟨x18158, g18144, g18147, g18148, e1, e2, hF⟩ => loop_no hF) (fun d18158 fr H ⟨x18158, g18144, g18147, g18148, e1, e2, hF⟩ => ?_) (VS.trans (VS.thaw (cI .i64) 6 1 ⟨true, true, []⟩ (by kernel_rfl) rfl (fun _ => rfl)) (VS.sm 1208925819614629174705676)) ⟨(⟨true, true, []⟩, 0), 1, none, false, rfl, rfl, hF⟩
 subst e1 e2
 have hF := loop_in hF
 refine xs ?_
 refine xq ?_
 refine wh 7 ?_
 refine we ?_
 refine ng ?_
 refine ite_elim hF (fun hc6 hF => ?_) (fun hc6 hF => ?_)
 ·refine kT 20 hc6 ?_
  refine xT ?_
  refine xk ?_
  refine ng ?_
  refine xs ?_
  refine xb ?_
  refine xr ?_
  refine wh 6 ?_
  refine bind_elim hF (fun y18161 hy18161 hF => uI cAffidavitref24_State 2 hy18161 len_cAffidavitref24_State ?_)
  refine wh 8 ?_
  refine uE cAffidavitref24_State 0 (t := 3) (v := .int .i64 y18161.N) 2 1 hy18161 len_cAffidavitref24_State ?_
  refine w_frz (v := sl (cI .i64) (⟨false, true, [y18161.N]⟩ : Sl Int)) (by kernel_rfl) ?_
  refine bind_elim hF (fun y18162 hy18162 hF => w_app (cI .i64) (e := 3) (sz := 1) (l0 := 3) (real := g18148) (ver := g18144) (x := x18158.1) (ys := (⟨false, true, [y18161.N]⟩ : Sl Int).l) hy18162 (by kernel_rfl) (by decide) (gives_sl (x := (⟨false, true, [y18161.N]⟩ : Sl Int)) (by kernel_rfl) (fun _ => rfl)) (room_at (by kernel_rfl)) ?_)
  refine wr 12 [.cells ((cL cPrune_state) a0 ++ [rfv false a1 1 2]), rfb cHeld a1, .cells ((cL cAffidavitref24_State) a2 ++ (cL cHeld) a3), .room (g18144 + 1) (g18148 || !((⟨false, true, [y18161.N]⟩ : Sl Int).l.length == 0))] ?_
  refine we ?_
  refine block_n ?_
  refine ng ?_
  refine xr ?_
  refine wh 3 ?_
  refine we ?_
  refine then_n ?_
  exact x_back (VS.sm 1208925819614629174705676) ⟨(y18162, iAdd .i64 x18158.2 1), (g18144 + 1), (some true), (g18148 || !((⟨false, true, [y18161.N]⟩ : Sl Int).l.length == 0)), rfl, rfl, hF⟩
 refine kF 20 hc6 ?_
 refine xF ?_
 refine xe ?_
 refine then_e ?_
 refine then_e ?_
 refine block_e ?_
 refine then_n ?_
 exact x_to hJ1 (VS.sm 1208925819614629173657356) ⟨x18158.1, g18144, g18148, rfl, rfl, hF⟩
def l24_PruneDoes_J10  : Option Bool :=
  some true
def l24_PruneDoes_J18 (k18122 : ((Sl Held) × Int × (Sl Prune_state) × (Sl Affidavitref24_State) × (Sl Held)) → Option Bool) (x18122 : (Sl Held) × Int × (Sl Prune_state) × (Sl Affidavitref24_State) × (Sl Held)) (p18153 : Sl Held) (p18165 : Sl Prune_state) (p18166 : Sl Affidavitref24_State) (p18167 : Sl Held) : Option Bool :=
  k18122 (p18153, iAdd .i64 x18122.2.1 1, p18165, p18166, p18167)
def l24_PruneDoes_J19 (k18122 : ((Sl Held) × Int × (Sl Prune_state) × (Sl Affidavitref24_State) × (Sl Held)) → Option Bool) (x18122 : (Sl Held) × Int × (Sl Prune_state) × (Sl Affidavitref24_State) × (Sl Held)) (p18179 : Sl Held) (p18187 : Sl Prune_state) (p18188 : Sl Affidavitref24_State) (p18189 : Sl Held) : Option Bool :=
  (l24_same p18187 p18179 p18188 p18189).bind fun y18190 => if y18190 = true then l24_PruneDoes_J18 k18122 x18122 p18179 p18187 p18188 p18189 else some false
def l24_PruneDoes_B18122 (a0 : Sl Affidavitlaw24_Act) (k18122 : ((Sl Held) × Int × (Sl Prune_state) × (Sl Affidavitref24_State) × (Sl Held)) → Option Bool) (x18122 : (Sl Held) × Int × (Sl Prune_state) × (Sl Affidavitref24_State) × (Sl Held)) : Option Bool :=
  if iLt x18122.2.1 (a0.l.length : Int) = true then if iLt x18122.2.1 30 = true then (idxL a0.l x18122.2.1).bind fun y18170 => (l24_few y18170.L).bind fun y18171 => if y18171 = true then (idxL a0.l x18122.2.1).bind fun y18191 => if (y18191.Kind == 6) = true then (prune_Book_Bytes x18122.2.2.1 x18122.1).bind fun y18192 => (prune_Read y18192).bind fun y18193 => Sum.elim (fun y18194 => if (y18194 != 0) = true then some false else some false) (fun y18195 => if (y18195.1 != 0) = true then some false else l24_PruneDoes_J19 k18122 x18122 y18195.2.2 y18195.2.1 x18122.2.2.2.1 x18122.2.2.2.2) y18193 else (idxL a0.l x18122.2.1).bind fun y18196 => (l24_do y18196 x18122.2.2.1 x18122.1 x18122.2.2.2.1 x18122.2.2.2.2).bind fun y18197 => if y18197.1 = true then l24_PruneDoes_J19 k18122 x18122 y18197.2.2.2.2 y18197.2.1 y18197.2.2.1 y18197.2.2.2.1 else some false else l24_PruneDoes_J18 k18122 x18122 x18122.1 x18122.2.2.1 x18122.2.2.2.1 x18122.2.2.2.2 else l24_PruneDoes_J10 else l24_PruneDoes_J10
def l24_PruneDoes (a0 : Sl Affidavitlaw24_Act) : Option Bool :=
  (prune_NewR).bind fun y17647 => (awakeF).bind fun y17651 => if y17651 = true then loopN (l24_PruneDoes_B18122 a0) FUEL ((⟨true, true, []⟩ : Sl Held), 0, (⟨true, true, []⟩ : Sl Prune_state), (⟨true, true, []⟩ : Sl Affidavitref24_State), (⟨true, true, []⟩ : Sl Held)) else some false
theorem l24_PruneDoes_ev {a0 : Sl Affidavitlaw24_Act} {r : Bool} (hF : l24_PruneDoes a0 = some r) : EvCall Try.prog T G0 6 [sl cAffidavitlaw24_Act a0] [] (fun v H' => v = .bool r ∧ H' = []) := by
 refine xc Try.func6 ?_
 refine xq ?_
 refine wh 1 ?_
 refine we ?_
 refine ng ?_
 refine xq ?_
 refine bind_elim hF (fun y17647 hy17647 hF => uO [] [0, 1] (v := .ptr 0 0) [.cells ((cL cPrune_state) (⟨true, true, []⟩ : Sl Prune_state) ++ [rfv false (⟨true, true, []⟩ : Sl Held) 1 2]), rfb cHeld (⟨true, true, []⟩ : Sl Held)] [.cells ((cL cPrune_state) (⟨true, true, []⟩ : Sl Prune_state) ++ [rfv false (⟨true, true, []⟩ : Sl Held) 1 2]), rfb cHeld (⟨true, true, []⟩ : Sl Held)] (prune_NewR_ev hy17647) (by kernel_rfl) pl_nil rfl (sbs (sb_cells (by kernel_rfl) (by kernel_rfl) (tights_app (tights_lows ((low_cL low_cPrune_state) _)) (tights_cons rfl rfl))) (sbs (sb_low (noref_rfb low_cHeld _)) sbs_nil)) ?_)
 refine wr 5 [.cells ((cL cPrune_state) (⟨true, true, []⟩ : Sl Prune_state) ++ [rfv false (⟨true, true, []⟩ : Sl Held) 1 2]), rfb cHeld (⟨true, true, []⟩ : Sl Held), .cells (cAffidavitref24_Book (⟨(⟨true, true, []⟩ : Sl Affidavitref24_State), (⟨true, true, []⟩ : Sl Held)⟩ : Affidavitref24_Book))] ?_
 refine we ?_
 refine ng ?_
 refine xs ?_
 refine xq ?_
 refine wh 3 ?_
 refine bind_elim hF (fun y17651 hy17651 hF => uC (awakeF_ev hy17651) rfl rfl ?_)
 refine wh 6 ?_
 refine we ?_
 refine ng ?_
 refine ite_elim hF (fun hc1 hF => ?_) (fun hc1 hF => ?_)
 ·refine kF 16 (show (!y17651) = false by rw [hc1]; rfl) ?_
  refine xF ?_
  refine xk ?_
  refine ng ?_
  refine xj (fun fr H => ∃ (g17918 : Option Bool) (g17919 : Option Bool) (g17920 : Option Bool) (g17921 : Option Bool) (g17922 : Option Bool) (g17923 : Option Bool) (g17924 : Option Bool) (g17925 : Option Bool) (g17926 : Option Bool) (g17927 : Option Bool) (g17928 : Option Bool) (g17929 : Option Bool) (g17930 : Option Bool) (g17931 : Option Bool), fr = [.any, .any, .bool false, .any, .any, .any, .any, .any, .any, .any, .any, .any, .bool false, .bool false, .bool y17651, .bool (!y17651), .bool false, .any, .any, .any, junkB g17918, junkB g17919, .any, junkB g17920, .bool false, .any, .any, .any, .any, .any, .any, .any, junkB g17921, junkB g17922, .any, .any, .any, .any, .any, junkB g17923, .any, .any, .any, .any, .any, .any, .any, junkB g17924, junkB g17925, .any, junkB g17926, junkB g17927, .any, .any, .any, .any, .any, .any, .any, junkB g17928, junkB g17929, .any, .any, junkB g17930, junkB g17931] ∧ H = [] ∧ l24_PruneDoes_J10 = some r) (fun fr H ⟨g17918, g17919, g17920, g17921, g17922, g17923, g17924, g17925, g17926, g17927, g17928, g17929, g17930, g17931, e1, e2, hF⟩ => ?_) (fun hJ10 => ?_)
  ·subst e1 e2
   refine xq ?_
   refine wh 1 ?_
   refine we ?_
   refine ng ?_
   refine xt ?_
   have e := Option.some.inj hF
   subst e
   exact fE [] (.inl rfl) rfl ⟨rfl, rfl⟩
  refine xq ?_
  refine wh 1 ?_
  refine we ?_
  refine ng ?_
  refine xb ?_
  refine x_loop (fun d fr H => ∃ (x18122 : (Sl Held) × Int × (Sl Prune_state) × (Sl Affidavitref24_State) × (Sl Held)) (g18009 : Option Bool) (g18010 : Option Bool) (g18011 : Option Bool) (g18012 : Option Bool) (g18013 : Option Bool) (g18014 : Option Bool) (g18015 : Option Bool) (g18016 : Option Bool) (g18017 : Option Bool) (g18018 : Option Bool) (g18019 : Option Bool) (g18020 : Option Bool) (g18021 : Option Bool) (g18022 : Option Bool) (g18023 : Option Bool), fr = [sl cAffidavitlaw24_Act a0, .any, .bool false, .ptr 0 0, .ptr 2 0, .int .i64 x18122.2.1, .any, .any, .any, .any, .any, .any, .bool false, .bool false, .bool y17651, .bool (!y17651), .bool false, .any, .any, .any, junkB g18009, junkB g18010, .any, junkB g18011, junkB g18012, .any, .any, .any, .any, .any, .any, .any, junkB g18013, junkB g18014, .any, .any, .any, .any, .any, junkB g18015, .any, .any, .any, .any, .any, .any, .any, junkB g18016, junkB g18017, .any, junkB g18018, junkB g18019, .any, .any, .any, .any, .any, .any, .any, junkB g18020, junkB g18021, .any, .any, junkB g18022, junkB g18023] ∧ H = [.cells ((cL cPrune_state) x18122.2.2.1 ++ [rfv false x18122.1 1 2]), rfb cHeld x18122.1, .cells ((cL cAffidavitref24_State) x18122.2.2.2.1 ++ (cL cHeld) x18122.2.2.2.2)] ∧ loopN (l24_PruneDoes_B18122 a0) d x18122 = some r) (by kernel_rfl) (fun fr H ⟨x18122, g18009, g18010, g18011, g18012, g18013, g18014, g18015, g18016, g18017, g18018, g18019, g18020, g18021, g18022, g18023, e1, e2, hF⟩ => loop_no hF) (fun d18122 fr H ⟨x18122, g18009, g18010, g18011, g18012, g18013, g18014, g18015, g18016, g18017, g18018, g18019, g18020, g18021, g18022, g18023, e1, e2, hF⟩ => ?_) (VS.sm 36893488147418976194) ⟨((⟨true, true, []⟩ : Sl Held), 0, (⟨true, true, []⟩ : Sl Prune_state), (⟨true, true, []⟩ : Sl Affidavitref24_State), (⟨true, true, []⟩ : Sl Held)), none, none, none, none, none, none, none, none, none, none, none, none, none, none, none, rfl, rfl, hF⟩
  subst e1 e2
  have hF := loop_in hF
  refine xs ?_
  refine xq ?_
  refine wh 5 ?_
  refine ite_elim hF (fun hc2 hF => ?_) (fun hc2 hF => ?_)
  ·refine wT 21 hc2 ?_
   refine wh 8 ?_
   refine we ?_
   refine ng ?_
   refine ite_elim hF (fun hc3 hF => ?_) (fun hc3 hF => ?_)
   ·refine kT 24 hc3 ?_
    refine xT ?_
    refine xk ?_
    refine ng ?_
    refine xj (fun fr H => ∃ (p18153 : Sl Held) (p18165 : Sl Prune_state) (p18166 : Sl Affidavitref24_State) (p18167 : Sl Held) (g18154 : Option Bool) (g18155 : Option Bool) (g18156 : Option Bool) (g18157 : Option Bool) (g18158 : Option Bool) (g18159 : Option Bool) (g18160 : Option Bool) (g18161 : Option Bool) (g18162 : Option Bool) (g18163 : Option Bool) (g18164 : Option Bool), fr = [sl cAffidavitlaw24_Act a0, .any, .bool false, .ptr 0 0, .ptr 2 0, .int .i64 x18122.2.1, .any, .any, .any, .any, .any, .any, .bool false, .bool false, .bool y17651, .bool (!y17651), .bool false, .any, .any, .any, .bool (iLt x18122.2.1 (a0.l.length : Int)), .bool true, .any, .bool (iLt x18122.2.1 30), .bool true, .any, .any, .any, .any, .any, .any, .any, junkB g18154, junkB g18155, .any, .any, .any, .any, .any, junkB g18156, .any, .any, .any, .any, .any, .any, .any, junkB g18157, junkB g18158, .any, junkB g18159, junkB g18160, .any, .any, .any, .any, .any, .any, .any, junkB g18161, junkB g18162, .any, .any, junkB g18163, junkB g18164] ∧ H = [.cells ((cL cPrune_state) p18165 ++ [rfv false p18153 1 2]), rfb cHeld p18153, .cells ((cL cAffidavitref24_State) p18166 ++ (cL cHeld) p18167)] ∧ l24_PruneDoes_J18 (loopN (l24_PruneDoes_B18122 a0) d18122) x18122 p18153 p18165 p18166 p18167 = some r) (fun fr H ⟨p18153, p18165, p18166, p18167, g18154, g18155, g18156, g18157, g18158, g18159, g18160, g18161, g18162, g18163, g18164, e1, e2, hF⟩ => ?_) (fun hJ18 => ?_)
    ·subst e1 e2
     refine xr ?_
     refine wh 3 ?_
     refine we ?_
     refine then_n ?_
     exact x_back (VS.sm 7490189305118068674) ⟨(p18153, iAdd .i64 x18122.2.1 1, p18165, p18166, p18167), (some (iLt x18122.2.1 (a0.l.length : Int))), (some true), (some (iLt x18122.2.1 30)), (some true), g18154, g18155, g18156, g18157, g18158, g18159, g18160, g18161, g18162, g18163, g18164, rfl, rfl, hF⟩
    refine xb ?_
    refine xs ?_
    refine xq ?_
    refine wh 2 ?_
    refine bind_elim hF (fun y18170 hy18170 hF => uI cAffidavitlaw24_Act 3 hy18170 len_cAffidavitlaw24_Act ?_)
    refine wh 4 ?_
    refine uE cAffidavitlaw24_Act 2 (t := 27) (v := sl cHeld y18170.L) 3 1 hy18170 len_cAffidavitlaw24_Act ?_
    refine bind_elim hF (fun y18171 hy18171 hF => uC (l24_few_ev hy18171) (lows_cons (low_sl low_cHeld) rfl) rfl ?_)
    refine wh 7 ?_
    refine we ?_
    refine ng ?_
    refine ite_elim hF (fun hc4 hF => ?_) (fun hc4 hF => ?_)
    ·refine kF 33 (show (!y18171) = false by rw [hc4]; rfl) ?_
     refine xF ?_
     refine xk ?_
     refine ng ?_
     refine xj (fun fr H => ∃ (p18179 : Sl Held) (p18187 : Sl Prune_state) (p18188 : Sl Affidavitref24_State) (p18189 : Sl Held) (g18180 : Option Bool) (g18181 : Option Bool) (g18182 : Option Bool) (g18183 : Option Bool) (g18184 : Option Bool) (g18185 : Option Bool) (g18186 : Option Bool), fr = [sl cAffidavitlaw24_Act a0, .any, .bool false, .ptr 0 0, .ptr 2 0, .int .i64 x18122.2.1, .any, .any, .any, .any, .any, .any, .bool false, .bool false, .bool y17651, .bool (!y17651), .bool false, .any, .any, .any, .bool (iLt x18122.2.1 (a0.l.length : Int)), .bool true, .any, .bool (iLt x18122.2.1 30), .bool true, .any, .any, .any, .any, .any, .any, .any, .bool y18171, .bool false, .any, .any, .any, .any, .any, junkB g18180, .any, .any, .any, .any, .any, .any, .any, junkB g18181, junkB g18182, .any, junkB g18183, junkB g18184, .any, .any, .any, .any, .any, .any, .any, junkB g18185, junkB g18186, .any, .any, junkB g18022, junkB g18023] ∧ H = [.cells ((cL cPrune_state) p18187 ++ [rfv false p18179 1 2]), rfb cHeld p18179, .cells ((cL cAffidavitref24_State) p18188 ++ (cL cHeld) p18189)] ∧ l24_PruneDoes_J19 (loopN (l24_PruneDoes_B18122 a0) d18122) x18122 p18179 p18187 p18188 p18189 = some r) (fun fr H ⟨p18179, p18187, p18188, p18189, g18180, g18181, g18182, g18183, g18184, g18185, g18186, e1, e2, hF⟩ => ?_) (fun hJ19 => ?_)
     ·subst e1 e2
      refine xq ?_
      refine wh 2 ?_
      refine bind_elim hF (fun y18190 hy18190 hF => uOs [0, 1, 2] [0, 1, 2] (v := .bool y18190) [.cells ((cL cPrune_state) p18187 ++ [rfv false p18179 1 2]), rfb cHeld p18179, .cells ((cL cAffidavitref24_State) p18188 ++ (cL cHeld) p18189)] (l24_same_ev hy18190) (by kernel_rfl) (pl (b' := .cells ((cL cPrune_state) p18187 ++ [rfv false p18179 1 2])) (by kernel_rfl) (sb_cells (by kernel_rfl) (by kernel_rfl) (tights_app (tights_lows ((low_cL low_cPrune_state) _)) (tights_cons rfl rfl))) (pl (b' := rfb cHeld p18179) (by kernel_rfl) (sb_low (noref_rfb low_cHeld _)) (pl (b' := .cells ((cL cAffidavitref24_State) p18188 ++ (cL cHeld) p18189)) (by kernel_rfl) (sb_cells (by kernel_rfl) (by kernel_rfl) (tights_app (tights_lows ((low_cL low_cAffidavitref24_State) _)) (tights_lows ((low_cL low_cHeld) _)))) pl_nil))) rfl (sbs (sb_cells (by kernel_rfl) (by kernel_rfl) (tights_app (tights_lows ((low_cL low_cPrune_state) _)) (tights_cons rfl rfl))) (sbs (sb_low (noref_rfb low_cHeld _)) (sbs (sb_cells (by kernel_rfl) (by kernel_rfl) (tights_app (tights_lows ((low_cL low_cAffidavitref24_State) _)) (tights_lows ((low_cL low_cHeld) _)))) sbs_nil))) ?_)
      refine wh 4 ?_
      refine we ?_
      refine ng ?_
      refine ite_elim hF (fun hc5 hF => ?_) (fun hc5 hF => ?_)
      ·refine kF 64 (show (!y18190) = false by rw [hc5]; rfl) ?_
       refine xF ?_
       refine xk ?_
       refine block_n ?_
       refine then_n ?_
       exact x_to hJ18 (VS.sm 35160305428538986434) ⟨p18179, p18187, p18188, p18189, (some y18171), (some false), g18180, g18181, g18182, g18183, g18184, g18185, g18186, (some y18190), (some false), rfl, rfl, hF⟩
      refine kT 64 (show (!y18190) = true by rw [hc5]; rfl) ?_
      refine xT ?_
      refine xq ?_
      refine wh 1 ?_
      refine we ?_
      refine ng ?_
      refine xt ?_
      refine block_r ?_
      refine then_r ?_
      refine then_r ?_
      refine block_r ?_
      refine then_r ?_
      have e := Option.some.inj hF
      subst e
      exact fE [] (.inl rfl) rfl ⟨rfl, rfl⟩
     refine xq ?_
     refine wh 2 ?_
     refine bind_elim hF (fun y18191 hy18191 hF => uI cAffidavitlaw24_Act 3 hy18191 len_cAffidavitlaw24_Act ?_)
     refine wh 4 ?_
     refine uE cAffidavitlaw24_Act 0 (t := 3) (v := .int .i64 y18191.Kind) 3 1 hy18191 len_cAffidavitlaw24_Act ?_
     refine wh 6 ?_
     refine we ?_
     refine ng ?_
     refine ite_elim hF (fun hc6 hF => ?_) (fun hc6 hF => ?_)
     ·refine kT 39 hc6 ?_
      refine xT ?_
      refine xq ?_
      refine wh 1 ?_
      refine bind_elim hF (fun y18192 hy18192 hF => uOs [0, 1] [0, 1] (v := .str y18192) [.cells ((cL cPrune_state) x18122.2.2.1 ++ [rfv false x18122.1 1 2]), rfb cHeld x18122.1] (prune_Book_Bytes_ev hy18192) (by kernel_rfl) (pl (b' := .cells ((cL cPrune_state) x18122.2.2.1 ++ [rfv false x18122.1 1 2])) (by kernel_rfl) (sb_cells (by kernel_rfl) (by kernel_rfl) (tights_app (tights_lows ((low_cL low_cPrune_state) _)) (tights_cons rfl rfl))) (pl (b' := rfb cHeld x18122.1) (by kernel_rfl) (sb_low (noref_rfb low_cHeld _)) pl_nil)) rfl (sbs (sb_cells (by kernel_rfl) (by kernel_rfl) (tights_app (tights_lows ((low_cL low_cPrune_state) _)) (tights_cons rfl rfl))) (sbs (sb_low (noref_rfb low_cHeld _)) sbs_nil)) ?_)
      refine bind_elim hF (fun y18193 hy18193 hF => ?_)
      rcases y18193 with y18194 | y18195
      ·have hF := sum_l hF
       refine uOs [] [] (v := .tup [.nilptr, .int .i64 y18194]) [] (prune_Read_ev1 hy18193) (by kernel_rfl) pl_nil rfl sbs_nil ?_
       refine wh 8 ?_
       refine we ?_
       refine ng ?_
       refine xs ?_
       refine xq ?_
       refine wh 3 ?_
       refine ite_elim hF (fun hc7 hF => ?_) (fun hc7 hF => ?_)
       ·refine wT 48 hc7 ?_
        refine wh 6 ?_
        refine we ?_
        refine ng ?_
        refine xT ?_
        refine xq ?_
        refine wh 1 ?_
        refine we ?_
        refine ng ?_
        refine xt ?_
        refine then_r ?_
        refine then_r ?_
        refine block_r ?_
        refine then_r ?_
        refine then_r ?_
        refine block_r ?_
        refine then_r ?_
        have e := Option.some.inj hF
        subst e
        exact fE [] (.inl rfl) rfl ⟨rfl, rfl⟩
       refine wF 48 hc7 ?_
       refine wh 6 ?_
       refine we ?_
       refine ng ?_
       refine xT ?_
       refine xq ?_
       refine wh 1 ?_
       refine we ?_
       refine ng ?_
       refine xt ?_
       refine then_r ?_
       refine then_r ?_
       refine block_r ?_
       refine then_r ?_
       refine then_r ?_
       refine block_r ?_
       refine then_r ?_
       have e := Option.some.inj hF
       subst e
       exact fE [] (.inl rfl) rfl ⟨rfl, rfl⟩
      have hF := sum_r hF
      refine uO [] [3, 4] (v := .tup [.ptr 3 0, .int .i64 y18195.1]) [.cells ((cL cPrune_state) y18195.2.1 ++ [rfv false y18195.2.2 4 2]), rfb cHeld y18195.2.2] [.cells ((cL cPrune_state) x18122.2.2.1 ++ [rfv false x18122.1 1 2]), rfb cHeld x18122.1, .cells ((cL cAffidavitref24_State) x18122.2.2.2.1 ++ (cL cHeld) x18122.2.2.2.2), .cells ((cL cPrune_state) y18195.2.1 ++ [rfv false y18195.2.2 4 2]), rfb cHeld y18195.2.2] (prune_Read_ev2 hy18193) (by kernel_rfl) pl_nil rfl (sbs (sb_cells (by kernel_rfl) (by kernel_rfl) (tights_app (tights_lows ((low_cL low_cPrune_state) _)) (tights_cons rfl rfl))) (sbs (sb_low (noref_rfb low_cHeld _)) sbs_nil)) ?_
      refine wh 8 ?_
      refine we ?_
      refine ng ?_
      refine xs ?_
      refine xq ?_
      refine wh 3 ?_
      refine ite_elim hF (fun hc8 hF => ?_) (fun hc8 hF => ?_)
      ·refine wT 48 hc8 ?_
       refine wh 6 ?_
       refine we ?_
       refine ng ?_
       refine xT ?_
       refine xq ?_
       refine wh 1 ?_
       refine we ?_
       refine ng ?_
       refine xt ?_
       refine then_r ?_
       refine then_r ?_
       refine block_r ?_
       refine then_r ?_
       refine then_r ?_
       refine block_r ?_
       refine then_r ?_
       have e := Option.some.inj hF
       subst e
       exact fE [] (.inl rfl) rfl ⟨rfl, rfl⟩
      refine wF 48 hc8 ?_
      refine wh 6 ?_
      refine we ?_
      refine ng ?_
      refine xF ?_
      refine xk ?_
      refine ng ?_
      refine xr ?_
      refine wh 2 ?_
      refine we ?_
      refine then_n ?_
      exact x_to hJ19 (VS.shX [3, 4, 2] 7493989767031164866 [59, 60, 63, 64] (by kernel_rfl) (by kernel_rfl) (by kernel_rfl) (by exact ⟨low_junk g18020, low_junk g18021, low_junk g18022, low_junk g18023, trivial⟩) (tights_at [0, 59, 60, 63, 64] (by kernel_rfl) (by exact ⟨(tight_sl low_cAffidavitlaw24_Act), (tight_junk g18020), (tight_junk g18021), (tight_junk g18022), (tight_junk g18023), trivial⟩)) (shh (b0 := .cells ((cL cPrune_state) y18195.2.1 ++ [rfv false y18195.2.2 4 2])) (by kernel_rfl) (shb_cells (by kernel_rfl) (by kernel_rfl) (tights_app (tights_lows ((low_cL low_cPrune_state) _)) (tights_cons rfl rfl))) (shh (b0 := rfb cHeld y18195.2.2) (by kernel_rfl) (NoRef.shb (noref_rfb low_cHeld _)) (shh (b0 := .cells ((cL cAffidavitref24_State) x18122.2.2.2.1 ++ (cL cHeld) x18122.2.2.2.2)) (by kernel_rfl) (shb_cells (by kernel_rfl) (by kernel_rfl) (tights_app (tights_lows ((low_cL low_cAffidavitref24_State) _)) (tights_lows ((low_cL low_cHeld) _)))) shh_nil)))) ⟨y18195.2.2, y18195.2.1, x18122.2.2.2.1, x18122.2.2.2.2, (some true), (some (y18195.1 != 0)), (some false), (some false), (some false), g18020, g18021, rfl, rfl, hF⟩
     refine kF 39 hc6 ?_
     refine xF ?_
     refine xq ?_
     refine wh 4 ?_
     refine bind_elim hF (fun y18196 hy18196 hF => uI cAffidavitlaw24_Act 3 hy18196 len_cAffidavitlaw24_Act ?_)
     refine uE cAffidavitlaw24_Act 0 (t := 33) (v := .agg (cAffidavitlaw24_Act y18196)) 3 3 hy18196 len_cAffidavitlaw24_Act ?_
     refine bind_elim hF (fun y18197 hy18197 hF => uO [0, 1, 2] [0, 1, 2, 3] (v := .bool y18197.1) [.cells ((cL cPrune_state) y18197.2.1 ++ [rfv false y18197.2.2.2.2 3 2]), .dead, .cells ((cL cAffidavitref24_State) y18197.2.2.1 ++ (cL cHeld) y18197.2.2.2.1), rfb cHeld y18197.2.2.2.2] [.cells ((cL cPrune_state) y18197.2.1 ++ [rfv false y18197.2.2.2.2 3 2]), .dead, .cells ((cL cAffidavitref24_State) y18197.2.2.1 ++ (cL cHeld) y18197.2.2.2.1), rfb cHeld y18197.2.2.2.2] (l24_do_ev hy18197) (tights_cons rfl (tights_cons rfl (tights_cons (tight_agg (tights_lows (low_cAffidavitlaw24_Act _))) rfl))) (pl (b' := .cells ((cL cPrune_state) x18122.2.2.1 ++ [rfv false x18122.1 1 2])) (by kernel_rfl) (sb_cells (by kernel_rfl) (by kernel_rfl) (tights_app (tights_lows ((low_cL low_cPrune_state) _)) (tights_cons rfl rfl))) (pl (b' := rfb cHeld x18122.1) (by kernel_rfl) (sb_low (noref_rfb low_cHeld _)) (pl (b' := .cells ((cL cAffidavitref24_State) x18122.2.2.2.1 ++ (cL cHeld) x18122.2.2.2.2)) (by kernel_rfl) (sb_cells (by kernel_rfl) (by kernel_rfl) (tights_app (tights_lows ((low_cL low_cAffidavitref24_State) _)) (tights_lows ((low_cL low_cHeld) _)))) pl_nil))) rfl (sbs (sb_cells (by kernel_rfl) (by kernel_rfl) (tights_app (tights_lows ((low_cL low_cPrune_state) _)) (tights_cons rfl rfl))) (sbs sb_dead (sbs (sb_cells (by kernel_rfl) (by kernel_rfl) (tights_app (tights_lows ((low_cL low_cAffidavitref24_State) _)) (tights_lows ((low_cL low_cHeld) _)))) (sbs (sb_low (noref_rfb low_cHeld _)) sbs_nil)))) ?_)
     refine wh 8 ?_
     refine we ?_
     refine ng ?_
     refine ite_elim hF (fun hc9 hF => ?_) (fun hc9 hF => ?_)
     ·refine kF 60 (show (!y18197.1) = false by rw [hc9]; rfl) ?_
      refine xF ?_
      refine xk ?_
      refine then_n ?_
      exact x_to hJ19 (VS.shX [0, 3, 2] 9219572111755841474 [47, 48, 50, 51, 63, 64] (by kernel_rfl) (by kernel_rfl) (by kernel_rfl) (by exact ⟨low_junk g18016, low_junk g18017, low_junk g18018, low_junk g18019, low_junk g18022, low_junk g18023, trivial⟩) (tights_at [0, 47, 48, 50, 51, 63, 64] (by kernel_rfl) (by exact ⟨(tight_sl low_cAffidavitlaw24_Act), (tight_junk g18016), (tight_junk g18017), (tight_junk g18018), (tight_junk g18019), (tight_junk g18022), (tight_junk g18023), trivial⟩)) (shh (b0 := .cells ((cL cPrune_state) y18197.2.1 ++ [rfv false y18197.2.2.2.2 3 2])) (by kernel_rfl) (shb_cells (by kernel_rfl) (by kernel_rfl) (tights_app (tights_lows ((low_cL low_cPrune_state) _)) (tights_cons rfl rfl))) (shh (b0 := rfb cHeld y18197.2.2.2.2) (by kernel_rfl) (NoRef.shb (noref_rfb low_cHeld _)) (shh (b0 := .cells ((cL cAffidavitref24_State) y18197.2.2.1 ++ (cL cHeld) y18197.2.2.2.1)) (by kernel_rfl) (shb_cells (by kernel_rfl) (by kernel_rfl) (tights_app (tights_lows ((low_cL low_cAffidavitref24_State) _)) (tights_lows ((low_cL low_cHeld) _)))) shh_nil)))) ⟨y18197.2.2.2.2, y18197.2.1, y18197.2.2.1, y18197.2.2.2.1, (some false), g18016, g18017, g18018, g18019, (some y18197.1), (some false), rfl, rfl, hF⟩
     refine kT 60 (show (!y18197.1) = true by rw [hc9]; rfl) ?_
     refine xT ?_
     refine xq ?_
     refine wh 1 ?_
     refine we ?_
     refine ng ?_
     refine xt ?_
     refine then_r ?_
     refine block_r ?_
     refine then_r ?_
     refine then_r ?_
     refine block_r ?_
     refine then_r ?_
     have e := Option.some.inj hF
     subst e
     exact fE [] (.inl rfl) rfl ⟨rfl, rfl⟩
    refine kT 33 (show (!y18171) = true by rw [hc4]; rfl) ?_
    refine xT ?_
    refine xe ?_
    refine then_e ?_
    refine block_e ?_
    refine then_n ?_
    exact x_to hJ18 (VS.sm 7490189317974659010) ⟨x18122.1, x18122.2.2.1, x18122.2.2.2.1, x18122.2.2.2.2, (some y18171), (some true), g18015, g18016, g18017, g18018, g18019, g18020, g18021, g18022, g18023, rfl, rfl, hF⟩
   refine kF 24 hc3 ?_
   refine xF ?_
   refine xe ?_
   refine then_e ?_
   refine then_e ?_
   refine block_e ?_
   refine then_n ?_
   exact x_to hJ10 (VS.shX [] 7490189305101291515 [32, 33, 39, 47, 48, 50, 51, 59, 60, 63, 64] (by kernel_rfl) (by kernel_rfl) (by kernel_rfl) (by exact ⟨low_junk g18013, low_junk g18014, low_junk g18015, low_junk g18016, low_junk g18017, low_junk g18018, low_junk g18019, low_junk g18020, low_junk g18021, low_junk g18022, low_junk g18023, trivial⟩) (tights_at [32, 33, 39, 47, 48, 50, 51, 59, 60, 63, 64] (by kernel_rfl) (by exact ⟨(tight_junk g18013), (tight_junk g18014), (tight_junk g18015), (tight_junk g18016), (tight_junk g18017), (tight_junk g18018), (tight_junk g18019), (tight_junk g18020), (tight_junk g18021), (tight_junk g18022), (tight_junk g18023), trivial⟩)) shh_nil) ⟨(some (iLt x18122.2.1 (a0.l.length : Int))), (some true), (some (iLt x18122.2.1 30)), g18013, g18014, g18015, g18016, g18017, g18018, g18019, g18020, g18021, g18022, g18023, rfl, rfl, hF⟩
  refine wF 21 hc2 ?_
  refine wh 8 ?_
  refine we ?_
  refine ng ?_
  refine xF ?_
  refine xe ?_
  refine then_e ?_
  refine then_e ?_
  refine block_e ?_
  refine then_n ?_
  exact x_to hJ10 (VS.shX [] 7490189305101291515 [32, 33, 39, 47, 48, 50, 51, 59, 60, 63, 64] (by kernel_rfl) (by kernel_rfl) (by kernel_rfl) (by exact ⟨low_junk g18013, low_junk g18014, low_junk g18015, low_junk g18016, low_junk g18017, low_junk g18018, low_junk g18019, low_junk g18020, low_junk g18021, low_junk g18022, low_junk g18023, trivial⟩) (tights_at [32, 33, 39, 47, 48, 50, 51, 59, 60, 63, 64] (by kernel_rfl) (by exact ⟨(tight_junk g18013), (tight_junk g18014), (tight_junk g18015), (tight_junk g18016), (tight_junk g18017), (tight_junk g18018), (tight_junk g18019), (tight_junk g18020), (tight_junk g18021), (tight_junk g18022), (tight_junk g18023), trivial⟩)) shh_nil) ⟨(some (iLt x18122.2.1 (a0.l.length : Int))), (some false), none, g18013, g18014, g18015, g18016, g18017, g18018, g18019, g18020, g18021, g18022, g18023, rfl, rfl, hF⟩
 refine kT 16 (show (!y17651) = true by rw [hc1]; rfl) ?_
 refine xT ?_
 refine xq ?_
 refine wh 1 ?_
 refine we ?_
 refine ng ?_
 refine xt ?_
 refine then_r ?_
 have e := Option.some.inj hF
 subst e
 exact fE [] (.inl rfl) rfl ⟨rfl, rfl⟩
end Go.Proofs.Ytbdomlbmbcnaeaa
