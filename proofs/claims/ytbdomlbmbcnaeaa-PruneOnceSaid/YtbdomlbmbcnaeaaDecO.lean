/- What each function of these laws comes to. Printed by main.py; no conditions. -/
import Derived.Test.YtbdomlbmbcnaeaaSort
import Derived.Test.YtbdomlbmbcnaeaaAwk
import Derived.Test.YtbdomlbmbcnaeaaDecA
import Derived.Test.YtbdomlbmbcnaeaaComp
namespace Go.Proofs.Ytbdomlbmbcnaeaa
open Go.Abs
set_option maxRecDepth 100000
attribute [local irreducible] ev evAt evW evList evOp evRes EvCall VS aop aload astore AX.then AX.inBlock kRun kRunQ aput evRows
set_option linter.unusedVariables false
def l24_apart_J4 (a1 : Sl Int) : Option Bool :=
 some (iLe (a1.l.length : Int) 64)
def l24_apart_J7 (k4076 : Int → Option Bool) (x4076 : Int) : Option Bool :=
 k4076 (iAdd .i64 x4076 1)
def l24_apart_B4131 (a0 : Sl Int) (a1 : Sl Int) (k4076 : Int → Option Bool) (x4076 : Int) (k4131 : Int → Option Bool) (x4131 : Int) : Option Bool :=
 if iLt x4131 (a0.l.length : Int) = true then (idxL a0.l x4131).bind fun y4138 => (idxL a1.l x4076).bind fun y4139 => if (y4138 == y4139) = true then some false else k4131 (iAdd .i64 x4131 1) else l24_apart_J7 k4076 x4076
def l24_apart_B4076 (a0 : Sl Int) (a1 : Sl Int) (k4076 : Int → Option Bool) (x4076 : Int) : Option Bool :=
 if iLt x4076 (a1.l.length : Int) = true then loopN (l24_apart_B4131 a0 a1 k4076 x4076) FUEL 0 else l24_apart_J4 a1
def l24_apart (a0 : Sl Int) (a1 : Sl Int) : Option Bool :=
 loopN (l24_apart_B4076 a0 a1) FUEL 0
theorem l24_apart_ev {a0 : Sl Int} {a1 : Sl Int} {r : Bool} (hF : l24_apart a0 a1 = some r) : EvCall Try.prog T G0 15 [sl (cI .i64) a0, sl (cI .i64) a1] [] (fun v H' => v = .bool r ∧ H' = []) := by
 refine x_call Try.func15 (by kernel_rfl) (by kernel_rfl) rfl ?_
 refine x_seq (by kernel_rfl) ?_
 refine x_region (by kernel_rfl) ?_
 refine w_run 1 [] rfl (by kernel_rfl) ?_
 refine w_end (by kernel_rfl) ?_
 refine then_n ?_
 refine go_same ?_
 refine x_join (fun fr H => ∃ (g3940 : Option Bool) (g3941 : Option Bool), fr = [.any, sl (cI .i64) a1, .any, .any, .bool false, .any, .any, .any, .any, .any, .bool false, .any, .any, .any, .any, .any, junkB g3940, .any, .any, .any, .any, .any, .any, .any, .any, .any, .any, junkB g3941, .any, .any, .any] ∧ H = [] ∧ l24_apart_J4 a1 = some r) (by kernel_rfl) (fun fr H ⟨g3940, g3941, e1, e2, hF⟩ => ?_) (fun hJ4 => ?_)
 ·subst e1 e2
  refine x_seq (by kernel_rfl) ?_
  refine x_region (by kernel_rfl) ?_
  refine w_run 4 [] rfl (by kernel_rfl) ?_
  refine w_end (by kernel_rfl) ?_
  refine then_n ?_
  refine go_same ?_
  refine x_ret (by kernel_rfl) ?_
  have e := Option.some.inj hF
  subst e
  exact fin_end (.inl rfl) (by kernel_rfl) (by kernel_rfl) (Nat.zero_le _) rfl (by kernel_rfl) ⟨rfl, rfl⟩
 ·refine x_seq (by kernel_rfl) ?_
  refine x_region (by kernel_rfl) ?_
  refine w_run 1 [] rfl (by kernel_rfl) ?_
  refine w_end (by kernel_rfl) ?_
  refine then_n ?_
  refine go_same ?_
  refine x_block (by kernel_rfl) ?_
  refine x_loop (fun d fr H => ∃ (x4076 : Int) (g4006 : Option Bool) (g4007 : Option Bool) (g4008 : Option Bool), fr = [sl (cI .i64) a0, sl (cI .i64) a1, .any, .any, .bool false, .int .i64 x4076, .any, .any, .any, .any, junkB g4006, .any, .any, .any, .any, .any, junkB g4007, .any, .any, .any, .any, .any, .any, .any, .any, .any, .any, junkB g4008, .any, .any, .any] ∧ H = [] ∧ loopN (l24_apart_B4076 a0 a1) d x4076 = some r) (by kernel_rfl) (fun fr H ⟨x4076, g4006, g4007, g4008, e1, e2, hF⟩ => loop_no hF) (fun d4076 fr H ⟨x4076, g4006, g4007, g4008, e1, e2, hF⟩ => ?_) (VS.same2 2147483596 (by kernel_rfl) (by kernel_rfl)) ⟨0, none, none, none, rfl, rfl, hF⟩
  subst e1 e2
  have hF := loop_in hF
  refine x_seq (by kernel_rfl) ?_
  refine x_seq (by kernel_rfl) ?_
  refine x_region (by kernel_rfl) ?_
  refine w_run 4 [] rfl (by kernel_rfl) ?_
  refine w_end (by kernel_rfl) ?_
  refine then_n ?_
  refine go_same ?_
  refine ite_elim hF (fun hc1 hF => ?_) (fun hc1 hF => ?_)
  ·refine x_set 10 (b := true) (by kernel_rfl) hc1 ?_
   refine x_cond (b0 := true) (by kernel_rfl) (by kernel_rfl) ?_
   refine x_skip (.inl (by kernel_rfl)) ?_
   refine then_n ?_
   refine go_same ?_
   refine x_join (fun fr H => ∃ (g4108 : Option Bool), fr = [sl (cI .i64) a0, sl (cI .i64) a1, .any, .any, .bool false, .int .i64 x4076, .any, .any, .any, .any, .bool true, .any, .any, .any, .any, .any, .bool false, .any, .any, .any, .any, .any, .any, .any, .any, .any, .any, junkB g4108, .any, .any, .any] ∧ H = [] ∧ l24_apart_J7 (loopN (l24_apart_B4076 a0 a1) d4076) x4076 = some r) (by kernel_rfl) (fun fr H ⟨g4108, e1, e2, hF⟩ => ?_) (fun hJ7 => ?_)
   ·subst e1 e2
    refine x_region (by kernel_rfl) ?_
    refine w_run 3 [] rfl (by kernel_rfl) ?_
    refine w_end (by kernel_rfl) ?_
    refine then_n ?_
    exact x_back (VS.same2 2013265868 (by kernel_rfl) (by kernel_rfl)) ⟨iAdd .i64 x4076 1, (some true), (some false), g4108, rfl, rfl, hF⟩
   ·refine x_block (by kernel_rfl) ?_
    refine x_seq (by kernel_rfl) ?_
    refine x_region (by kernel_rfl) ?_
    refine w_run 1 [] rfl (by kernel_rfl) ?_
    refine w_end (by kernel_rfl) ?_
    refine then_n ?_
    refine go_same ?_
    refine x_block (by kernel_rfl) ?_
    refine x_loop (fun d fr H => ∃ (x4131 : Int) (g4118 : Option Bool) (g4119 : Option Bool), fr = [sl (cI .i64) a0, sl (cI .i64) a1, .any, .any, .bool false, .int .i64 x4076, .int .i64 x4131, .any, .any, .any, .bool true, .any, .any, .any, .any, .any, junkB g4118, .any, .any, .any, .any, .any, .any, .any, .any, .any, .any, junkB g4119, .any, .any, .any] ∧ H = [] ∧ loopN (l24_apart_B4131 a0 a1 (loopN (l24_apart_B4076 a0 a1) d4076) x4076) d x4131 = some r) (by kernel_rfl) (fun fr H ⟨x4131, g4118, g4119, e1, e2, hF⟩ => loop_no hF) (fun d4131 fr H ⟨x4131, g4118, g4119, e1, e2, hF⟩ => ?_) (VS.same2 2013199244 (by kernel_rfl) (by kernel_rfl)) ⟨0, g4007, g4008, rfl, rfl, hF⟩
    subst e1 e2
    have hF := loop_in hF
    refine x_seq (by kernel_rfl) ?_
    refine x_seq (by kernel_rfl) ?_
    refine x_region (by kernel_rfl) ?_
    refine w_run 4 [] rfl (by kernel_rfl) ?_
    refine w_end (by kernel_rfl) ?_
    refine then_n ?_
    refine go_same ?_
    refine ite_elim hF (fun hc2 hF => ?_) (fun hc2 hF => ?_)
    ·refine x_set 16 (b := true) (by kernel_rfl) hc2 ?_
     refine x_cond (b0 := true) (by kernel_rfl) (by kernel_rfl) ?_
     refine x_skip (.inl (by kernel_rfl)) ?_
     refine then_n ?_
     refine go_same ?_
     refine x_seq (by kernel_rfl) ?_
     refine x_block (by kernel_rfl) ?_
     refine x_seq (by kernel_rfl) ?_
     refine x_drawn 0 call_ends callMono (by kernel_rfl) (by kernel_rfl) ?_
     refine w_pure 2 rfl (by kernel_rfl) ?_
     refine bind_elim hF (fun y4138 hy4138 hF => w_iaddr (cI .i64) (sz := 1) hy4138 (by kernel_rfl) (by decide) (fun _ => rfl) ?_)
     refine w_elem (cI .i64) 0 (t := 3) (v := .int .i64 y4138) (sz := 1) (z := 1) hy4138 (by kernel_rfl) (by kernel_rfl) (fun _ => rfl) (by decide) (by decide) ?_
     refine w_pure 6 rfl (by kernel_rfl) ?_
     refine bind_elim hF (fun y4139 hy4139 hF => w_iaddr (cI .i64) (sz := 1) hy4139 (by kernel_rfl) (by decide) (fun _ => rfl) ?_)
     refine w_elem (cI .i64) 0 (t := 3) (v := .int .i64 y4139) (sz := 1) (z := 1) hy4139 (by kernel_rfl) (by kernel_rfl) (fun _ => rfl) (by decide) (by decide) ?_
     refine w_pure 9 rfl (by kernel_rfl) ?_
     refine w_end (by kernel_rfl) ?_
     refine ⟨_, _, VS.refl _ _ _, ?_⟩
     refine then_n ?_
     refine go_same ?_
     refine ite_elim hF (fun hc3 hF => ?_) (fun hc3 hF => ?_)
     ·refine x_set 27 (b := true) (by kernel_rfl) hc3 ?_
      refine x_cond (b0 := true) (by kernel_rfl) (by kernel_rfl) ?_
      refine x_seq (by kernel_rfl) ?_
      refine x_region (by kernel_rfl) ?_
      refine w_run 1 [] rfl (by kernel_rfl) ?_
      refine w_end (by kernel_rfl) ?_
      refine then_n ?_
      refine go_same ?_
      refine x_ret (by kernel_rfl) ?_
      refine block_r ?_
      refine then_r ?_
      refine then_r ?_
      refine block_r ?_
      refine block_r ?_
      refine then_r ?_
      refine then_r ?_
      refine block_r ?_
      refine then_r ?_
      have e := Option.some.inj hF
      subst e
      exact fin_end (.inl rfl) (by kernel_rfl) (by kernel_rfl) (Nat.zero_le _) rfl (by kernel_rfl) ⟨rfl, rfl⟩
     ·refine x_set 27 (b := false) (by kernel_rfl) hc3 ?_
      refine x_cond (b0 := false) (by kernel_rfl) (by kernel_rfl) ?_
      refine x_skip (.inl (by kernel_rfl)) ?_
      refine block_n ?_
      refine then_n ?_
      refine go_same ?_
      refine x_region (by kernel_rfl) ?_
      refine w_run 3 [] rfl (by kernel_rfl) ?_
      refine w_end (by kernel_rfl) ?_
      refine then_n ?_
      exact x_back (VS.same2 2147482508 (by kernel_rfl) (by kernel_rfl)) ⟨iAdd .i64 x4131 1, (some true), (some false), rfl, rfl, hF⟩
    ·refine x_set 16 (b := false) (by kernel_rfl) hc2 ?_
     refine x_cond (b0 := false) (by kernel_rfl) (by kernel_rfl) ?_
     refine x_exit (by kernel_rfl) ?_
     refine then_e ?_
     refine then_e ?_
     refine block_e ?_
     refine block_n ?_
     refine then_n ?_
     exact x_to hJ7 (VS.same2 2013199308 (by kernel_rfl) (by kernel_rfl)) ⟨g4119, rfl, rfl, hF⟩
  ·refine x_set 10 (b := false) (by kernel_rfl) hc1 ?_
   refine x_cond (b0 := false) (by kernel_rfl) (by kernel_rfl) ?_
   refine x_exit (by kernel_rfl) ?_
   refine then_e ?_
   refine then_e ?_
   refine block_e ?_
   refine then_n ?_
   exact x_to hJ4 (VS.same2 2013199341 (by kernel_rfl) (by kernel_rfl)) ⟨g4007, g4008, rfl, rfl, hF⟩
def prune_Book_Held_J1 (p11125 : Sl Held) : Option (Sl Held) :=
 (sortHeld p11125).bind fun y11126 => (compactHeld y11126).bind fun y11127 => some y11127
def prune_Book_Held_B11142 (a0 : Sl Prune_state) (k11142 : ((Sl Held) × Int) → Option (Sl Held)) (x11142 : (Sl Held) × Int) : Option (Sl Held) :=
 if iLt x11142.2 (a0.l.length : Int) = true then (idxL a0.l x11142.2).bind fun y11145 => (appL 16 x11142.1 y11145.l.l).bind fun y11146 => k11142 (y11146, iAdd .i64 x11142.2 1) else prune_Book_Held_J1 x11142.1
def prune_Book_Held (a0 : Sl Prune_state) (a1 : Sl Held) : Option (Sl Held) :=
 (appL 16 (⟨false, true, []⟩ : Sl Held) a1.l).bind fun y11105 => loopN (prune_Book_Held_B11142 a0) FUEL (y11105, 0)
theorem prune_Book_Held_ev {a0 : Sl Prune_state} {a1 : Sl Held} {r : (Sl Held)} (hF : prune_Book_Held a0 a1 = some r) : EvCall Try.prog T G0 16 [.ptr 0 0] [.cells ((cL cPrune_state) a0 ++ [rfv false a1 1 2]), rfb cHeld a1] (fun v H' => v = sl cHeld r ∧ H' = [.cells ((cL cPrune_state) a0 ++ [rfv false a1 1 2]), rfb cHeld a1]) := by
 refine x_call Try.func16 (by kernel_rfl) (by kernel_rfl) rfl ?_
 refine x_seq (by kernel_rfl) ?_
 refine x_region (by kernel_rfl) ?_
 refine w_run 1 [.cells ((cL cPrune_state) a0 ++ [rfv false a1 1 2]), rfb cHeld a1] rfl (by kernel_rfl) ?_
 refine w_end (by kernel_rfl) ?_
 refine then_n ?_
 refine go_same ?_
 refine x_seq (by kernel_rfl) ?_
 refine x_seq (by kernel_rfl) ?_
 refine x_region (by kernel_rfl) ?_
 refine w_run 2 [.cells ((cL cPrune_state) a0 ++ [rfv false a1 1 2]), rfb cHeld a1] rfl (by kernel_rfl) ?_
 refine w_end (by kernel_rfl) ?_
 refine then_n ?_
 refine go_same ?_
 refine x_cond (b0 := false) (by kernel_rfl) (by kernel_rfl) ?_
 refine x_skip (.inl (by kernel_rfl)) ?_
 refine then_n ?_
 refine go_same ?_
 refine x_seq (by kernel_rfl) ?_
 refine x_region (by kernel_rfl) ?_
 refine w_run 5 [.cells ((cL cPrune_state) a0 ++ [rfv false a1 1 2]), rfb cHeld a1, rfb cHeld (⟨false, true, []⟩ : Sl Held)] rfl (by kernel_rfl) ?_
 refine bind_elim hF (fun y11105 hy11105 hF => w_rapp cHeld (e := 41) (l := 2) (ex := true) (y := rfv false a1 1 2) (sz := 2) (x := (⟨false, true, []⟩ : Sl Held)) (ys := a1.l) hy11105 (by kernel_rfl) (by decide) len_cHeld (by kernel_rfl) (gives_rf (by kernel_rfl) rfl rfl len_cHeld (by kernel_rfl)) ?_)
 refine w_run 7 [.cells ((cL cPrune_state) a0 ++ [rfv false a1 1 2]), rfb cHeld a1, .dead, rfb cHeld y11105] rfl (by kernel_rfl) ?_
 refine w_end (by kernel_rfl) ?_
 refine then_n ?_
 refine go_same ?_
 refine x_join (fun fr H => ∃ (p11125 : Sl Held), fr = [.any, .any, .any, rfv false p11125 2 2, .any, .any, .any, .bool false, .any, .any, .any, .any, .any, .any, .any, .any, .any, .any, .any, .any, .bool false, .any, .any, .any, .any, .any, .any, .any, .any, .any, .any, .any] ∧ H = [.cells ((cL cPrune_state) a0 ++ [rfv false a1 1 2]), rfb cHeld a1, rfb cHeld p11125] ∧ prune_Book_Held_J1 p11125 = some r) (by kernel_rfl) (fun fr H ⟨p11125, e1, e2, hF⟩ => ?_) (fun hJ1 => ?_)
 ·subst e1 e2
  refine x_seq (by kernel_rfl) ?_
  refine x_region (by kernel_rfl) ?_
  refine w_run 1 [.cells ((cL cPrune_state) a0 ++ [rfv false a1 1 2]), rfb cHeld a1, rfb cHeld p11125] rfl (by kernel_rfl) ?_
  refine bind_elim hF (fun y11126 hy11126 hF => w_ocall [2] [2] (ga := [rfv false p11125 2 2, .fn 29 [] []]) (as0 := [rfv false p11125 0 2, .fn 29 [] []]) (h0 := [rfb cHeld p11125]) (h1 := [rfb cHeld y11126]) (h2 := [rfb cHeld y11126]) (H2 := [.cells ((cL cPrune_state) a0 ++ [rfv false a1 1 2]), rfb cHeld a1, rfb cHeld y11126]) (v0 := .tup []) (v := .tup []) (sortHeld_ev hy11126) (by kernel_rfl) (by kernel_rfl) (by kernel_rfl) (by kernel_rfl) (pl (b' := rfb cHeld p11125) (by kernel_rfl) (sb_low (noref_rfb low_cHeld _)) pl_nil) (by kernel_rfl) rfl (sbs (sb_low (noref_rfb low_cHeld _)) sbs_nil) (by kernel_rfl) (fun e => by cases e) ?_)
  refine w_end (by kernel_rfl) ?_
  refine then_n ?_
  refine go_same ?_
  refine x_seq (by kernel_rfl) ?_
  refine x_region (by kernel_rfl) ?_
  refine w_run 1 [.cells ((cL cPrune_state) a0 ++ [rfv false a1 1 2]), rfb cHeld a1, rfb cHeld y11126] rfl (by kernel_rfl) ?_
  refine bind_elim hF (fun y11127 hy11127 hF => w_ocall [2] [2] (ga := [rfv false p11125 2 2]) (as0 := [rfv false p11125 0 2]) (h0 := [rfb cHeld y11126]) (h1 := [.dead]) (h2 := [.dead]) (H2 := [.cells ((cL cPrune_state) a0 ++ [rfv false a1 1 2]), rfb cHeld a1, .dead]) (v0 := sl cHeld y11127) (v := sl cHeld y11127) (compactHeld_ev (sortHeld_len hy11126) (sortHeld_nl hy11126) hy11127) (by kernel_rfl) (by kernel_rfl) (by kernel_rfl) (by kernel_rfl) (pl (b' := rfb cHeld y11126) (by kernel_rfl) (sb_low (noref_rfb low_cHeld _)) pl_nil) (by kernel_rfl) (tight_sl low_cHeld) (sbs sb_dead sbs_nil) (by kernel_rfl) (fun e => by cases e) ?_)
  refine w_run 3 [.cells ((cL cPrune_state) a0 ++ [rfv false a1 1 2]), rfb cHeld a1, .dead] rfl (by kernel_rfl) ?_
  refine w_end (by kernel_rfl) ?_
  refine then_n ?_
  refine go_same ?_
  refine x_ret (by kernel_rfl) ?_
  have e := Option.some.inj hF
  subst e
  exact fin_sh [0, 1] (.inl rfl) (by kernel_rfl) (by kernel_rfl) (by kernel_rfl) (by kernel_rfl) (tight_sl low_cHeld) (shh (b0 := .cells ((cL cPrune_state) a0 ++ [rfv false a1 1 2])) (by kernel_rfl) (shb_cells (by kernel_rfl) (by kernel_rfl) (tights_app (tights_lows ((low_cL low_cPrune_state) _)) (tights_cons rfl rfl))) (shh (b0 := rfb cHeld a1) (by kernel_rfl) (NoRef.shb (noref_rfb low_cHeld _)) shh_nil)) (And.intro rfl rfl)
 ·refine x_seq (by kernel_rfl) ?_
  refine x_region (by kernel_rfl) ?_
  refine w_run 6 [.cells ((cL cPrune_state) a0 ++ [rfv false a1 1 2]), rfb cHeld a1, .dead, rfb cHeld y11105] rfl (by kernel_rfl) ?_
  refine w_end (by kernel_rfl) ?_
  refine then_n ?_
  refine go_same ?_
  refine x_block (by kernel_rfl) ?_
  refine x_loop (fun d fr H => ∃ (x11142 : (Sl Held) × Int) (g11134 : Option Bool), fr = [.any, .any, .any, rfv false x11142.1 2 2, .any, .any, .any, .bool false, .any, .any, .any, .any, .any, .any, .any, .any, .any, sl cPrune_state a0, .int .i64 (a0.l.length : Int), .int .i64 x11142.2, junkB g11134, .any, .any, .any, .any, .any, .any, .any, .any, .any, .any, .any] ∧ H = [.cells ((cL cPrune_state) a0 ++ [rfv false a1 1 2]), rfb cHeld a1, rfb cHeld x11142.1] ∧ loopN (prune_Book_Held_B11142 a0) d x11142 = some r) (by kernel_rfl) (fun fr H ⟨x11142, g11134, e1, e2, hF⟩ => loop_no hF) (fun d11142 fr H ⟨x11142, g11134, e1, e2, hF⟩ => ?_) (VS.sh [0, 1, 3] 4294049655 (by kernel_rfl) (by kernel_rfl) (by kernel_rfl) (tights_at [17] (by kernel_rfl) (by exact ⟨(tight_sl low_cPrune_state), trivial⟩)) (shh (b0 := .cells ((cL cPrune_state) a0 ++ [rfv false a1 1 2])) (by kernel_rfl) (shb_cells (by kernel_rfl) (by kernel_rfl) (tights_app (tights_lows ((low_cL low_cPrune_state) _)) (tights_cons rfl rfl))) (shh (b0 := rfb cHeld a1) (by kernel_rfl) (NoRef.shb (noref_rfb low_cHeld _)) (shh (b0 := rfb cHeld y11105) (by kernel_rfl) (NoRef.shb (noref_rfb low_cHeld _)) shh_nil)))) ⟨(y11105, 0), none, rfl, rfl, hF⟩
  subst e1 e2
  have hF := loop_in hF
  refine x_seq (by kernel_rfl) ?_
  refine x_region (by kernel_rfl) ?_
  refine w_run 1 [.cells ((cL cPrune_state) a0 ++ [rfv false a1 1 2]), rfb cHeld a1, rfb cHeld x11142.1] rfl (by kernel_rfl) ?_
  refine w_end (by kernel_rfl) ?_
  refine then_n ?_
  refine go_same ?_
  refine x_seq (by kernel_rfl) ?_
  refine ite_elim hF (fun hc1 hF => ?_) (fun hc1 hF => ?_)
  ·refine x_set 20 (b := true) (by kernel_rfl) hc1 ?_
   refine x_cond (b0 := true) (by kernel_rfl) (by kernel_rfl) ?_
   refine x_skip (.inl (by kernel_rfl)) ?_
   refine then_n ?_
   refine go_same ?_
   refine x_seq (by kernel_rfl) ?_
   refine x_block (by kernel_rfl) ?_
   refine x_seq (by kernel_rfl) ?_
   refine x_region (by kernel_rfl) ?_
   refine bind_elim hF (fun y11145 hy11145 hF => w_iaddr cPrune_state (sz := 2) hy11145 (by kernel_rfl) (by decide) len_cPrune_state ?_)
   refine w_elem cPrune_state 0 (t := 63) (v := .agg (cPrune_state y11145)) (sz := 2) (z := 2) hy11145 (by kernel_rfl) (by kernel_rfl) len_cPrune_state (by decide) (by decide) ?_
   refine w_run 4 [.cells ((cL cPrune_state) a0 ++ [rfv false a1 1 2]), rfb cHeld a1, rfb cHeld x11142.1, .cells (cPrune_state y11145)] rfl (by kernel_rfl) ?_
   refine w_end (by kernel_rfl) ?_
   refine then_n ?_
   refine go_same ?_
   refine x_region (by kernel_rfl) ?_
   refine w_run 3 [.cells ((cL cPrune_state) a0 ++ [rfv false a1 1 2]), rfb cHeld a1, rfb cHeld x11142.1, .cells (cPrune_state y11145)] rfl (by kernel_rfl) ?_
   refine bind_elim hF (fun y11146 hy11146 hF => w_rapp cHeld (e := 41) (l := 2) (ex := false) (y := sl cHeld y11145.l) (sz := 2) (x := x11142.1) (ys := y11145.l.l) hy11146 (by kernel_rfl) (by decide) len_cHeld (by kernel_rfl) (gives_sl (x := y11145.l) (by kernel_rfl) len_cHeld) ?_)
   refine w_run 5 [.cells ((cL cPrune_state) a0 ++ [rfv false a1 1 2]), rfb cHeld a1, .dead, .cells (cPrune_state y11145), rfb cHeld y11146] rfl (by kernel_rfl) ?_
   refine w_end (by kernel_rfl) ?_
   refine block_n ?_
   refine then_n ?_
   refine go_same ?_
   refine x_region (by kernel_rfl) ?_
   refine w_run 2 [.cells ((cL cPrune_state) a0 ++ [rfv false a1 1 2]), rfb cHeld a1, .dead, .cells (cPrune_state y11145), rfb cHeld y11146] rfl (by kernel_rfl) ?_
   refine w_end (by kernel_rfl) ?_
   refine then_n ?_
   exact x_back (VS.sh [0, 1, 4] 4294049655 (by kernel_rfl) (by kernel_rfl) (by kernel_rfl) (tights_at [17] (by kernel_rfl) (by exact ⟨(tight_sl low_cPrune_state), trivial⟩)) (shh (b0 := .cells ((cL cPrune_state) a0 ++ [rfv false a1 1 2])) (by kernel_rfl) (shb_cells (by kernel_rfl) (by kernel_rfl) (tights_app (tights_lows ((low_cL low_cPrune_state) _)) (tights_cons rfl rfl))) (shh (b0 := rfb cHeld a1) (by kernel_rfl) (NoRef.shb (noref_rfb low_cHeld _)) (shh (b0 := rfb cHeld y11146) (by kernel_rfl) (NoRef.shb (noref_rfb low_cHeld _)) shh_nil)))) ⟨(y11146, iAdd .i64 x11142.2 1), (some true), rfl, rfl, hF⟩
  ·refine x_set 20 (b := false) (by kernel_rfl) hc1 ?_
   refine x_cond (b0 := false) (by kernel_rfl) (by kernel_rfl) ?_
   refine x_exit (by kernel_rfl) ?_
   refine then_e ?_
   refine then_e ?_
   refine block_e ?_
   refine then_n ?_
   exact x_to hJ1 (VS.same2 4293918583 (by kernel_rfl) (by kernel_rfl)) ⟨x11142.1, rfl, rfl, hF⟩
def r24_Same_J1  : Option Bool :=
 some true
def r24_Same_B11205 (a0 : Sl Held) (a1 : Sl Held) (k11205 : Int → Option Bool) (x11205 : Int) : Option Bool :=
 if iLt x11205 (a0.l.length : Int) = true then (idxL a0.l x11205).bind fun y11212 => (idxL a1.l x11205).bind fun y11213 => if eqHeld y11212 y11213 = true then k11205 (iAdd .i64 x11205 1) else some false else r24_Same_J1
def r24_Same (a0 : Sl Held) (a1 : Sl Held) : Option Bool :=
 if ((a0.l.length : Int) != (a1.l.length : Int)) = true then some false else loopN (r24_Same_B11205 a0 a1) FUEL 0
theorem r24_Same_ev {a0 : Sl Held} {a1 : Sl Held} {r : Bool} (hF : r24_Same a0 a1 = some r) : EvCall Try.prog T G0 17 [sl cHeld a0, sl cHeld a1] [] (fun v H' => v = .bool r ∧ H' = []) := by
 refine x_call Try.func17 (by kernel_rfl) (by kernel_rfl) rfl ?_
 refine x_seq (by kernel_rfl) ?_
 refine x_region (by kernel_rfl) ?_
 refine w_run 1 [] rfl (by kernel_rfl) ?_
 refine w_end (by kernel_rfl) ?_
 refine then_n ?_
 refine go_same ?_
 refine x_seq (by kernel_rfl) ?_
 refine x_seq (by kernel_rfl) ?_
 refine x_region (by kernel_rfl) ?_
 refine w_run 5 [] rfl (by kernel_rfl) ?_
 refine w_end (by kernel_rfl) ?_
 refine then_n ?_
 refine go_same ?_
 refine ite_elim hF (fun hc1 hF => ?_) (fun hc1 hF => ?_)
 ·refine x_set 10 (b := true) (by kernel_rfl) hc1 ?_
  refine x_cond (b0 := true) (by kernel_rfl) (by kernel_rfl) ?_
  refine x_seq (by kernel_rfl) ?_
  refine x_region (by kernel_rfl) ?_
  refine w_run 1 [] rfl (by kernel_rfl) ?_
  refine w_end (by kernel_rfl) ?_
  refine then_n ?_
  refine go_same ?_
  refine x_ret (by kernel_rfl) ?_
  refine then_r ?_
  have e := Option.some.inj hF
  subst e
  exact fin_end (.inl rfl) (by kernel_rfl) (by kernel_rfl) (Nat.zero_le _) rfl (by kernel_rfl) ⟨rfl, rfl⟩
 ·refine x_set 10 (b := false) (by kernel_rfl) hc1 ?_
  refine x_cond (b0 := false) (by kernel_rfl) (by kernel_rfl) ?_
  refine x_skip (.inl (by kernel_rfl)) ?_
  refine then_n ?_
  refine go_same ?_
  refine x_join (fun fr H => ∃ (g11182 : Option Bool), fr = [.any, .any, .any, .any, .bool false, .any, .any, .any, .any, .any, .bool false, .any, .any, .any, .bool false, .any, .any, .any, .any, .any, .any, .any, .any, .any, .any, junkB g11182] ∧ H = [] ∧ r24_Same_J1 = some r) (by kernel_rfl) (fun fr H ⟨g11182, e1, e2, hF⟩ => ?_) (fun hJ1 => ?_)
  ·subst e1 e2
   refine x_seq (by kernel_rfl) ?_
   refine x_region (by kernel_rfl) ?_
   refine w_run 1 [] rfl (by kernel_rfl) ?_
   refine w_end (by kernel_rfl) ?_
   refine then_n ?_
   refine go_same ?_
   refine x_ret (by kernel_rfl) ?_
   have e := Option.some.inj hF
   subst e
   exact fin_end (.inl rfl) (by kernel_rfl) (by kernel_rfl) (Nat.zero_le _) rfl (by kernel_rfl) ⟨rfl, rfl⟩
  ·refine x_seq (by kernel_rfl) ?_
   refine x_region (by kernel_rfl) ?_
   refine w_run 1 [] rfl (by kernel_rfl) ?_
   refine w_end (by kernel_rfl) ?_
   refine then_n ?_
   refine go_same ?_
   refine x_block (by kernel_rfl) ?_
   refine x_loop (fun d fr H => ∃ (x11205 : Int) (g11192 : Option Bool) (g11193 : Option Bool), fr = [sl cHeld a0, sl cHeld a1, .any, .any, .bool false, .int .i64 x11205, .any, .any, .any, .any, .bool false, .any, .any, .any, junkB g11192, .any, .any, .any, .any, .any, .any, .any, .any, .any, .any, junkB g11193] ∧ H = [] ∧ loopN (r24_Same_B11205 a0 a1) d x11205 = some r) (by kernel_rfl) (fun fr H ⟨x11205, g11192, g11193, e1, e2, hF⟩ => loop_no hF) (fun d11205 fr H ⟨x11205, g11192, g11193, e1, e2, hF⟩ => ?_) (VS.same2 67107788 (by kernel_rfl) (by kernel_rfl)) ⟨0, none, none, rfl, rfl, hF⟩
   subst e1 e2
   have hF := loop_in hF
   refine x_seq (by kernel_rfl) ?_
   refine x_seq (by kernel_rfl) ?_
   refine x_region (by kernel_rfl) ?_
   refine w_run 4 [] rfl (by kernel_rfl) ?_
   refine w_end (by kernel_rfl) ?_
   refine then_n ?_
   refine go_same ?_
   refine ite_elim hF (fun hc2 hF => ?_) (fun hc2 hF => ?_)
   ·refine x_set 14 (b := true) (by kernel_rfl) hc2 ?_
    refine x_cond (b0 := true) (by kernel_rfl) (by kernel_rfl) ?_
    refine x_skip (.inl (by kernel_rfl)) ?_
    refine then_n ?_
    refine go_same ?_
    refine x_seq (by kernel_rfl) ?_
    refine x_block (by kernel_rfl) ?_
    refine x_seq (by kernel_rfl) ?_
    refine x_drawn 0 call_ends callMono (by kernel_rfl) (by kernel_rfl) ?_
    refine w_pure 2 rfl (by kernel_rfl) ?_
    refine bind_elim hF (fun y11212 hy11212 hF => w_iaddr cHeld (sz := 2) hy11212 (by kernel_rfl) (by decide) len_cHeld ?_)
    refine w_elem cHeld 0 (t := 41) (v := .agg (cHeld y11212)) (sz := 2) (z := 2) hy11212 (by kernel_rfl) (by kernel_rfl) len_cHeld (by decide) (by decide) ?_
    refine w_pure 6 rfl (by kernel_rfl) ?_
    refine bind_elim hF (fun y11213 hy11213 hF => w_iaddr cHeld (sz := 2) hy11213 (by kernel_rfl) (by decide) len_cHeld ?_)
    refine w_elem cHeld 0 (t := 41) (v := .agg (cHeld y11213)) (sz := 2) (z := 2) hy11213 (by kernel_rfl) (by kernel_rfl) len_cHeld (by decide) (by decide) ?_
    refine w_neq (b := eqHeld y11212 y11213) (by kernel_rfl) ?_
    refine w_end (by kernel_rfl) ?_
    refine ⟨_, _, VS.refl _ _ _, ?_⟩
    refine then_n ?_
    refine go_same ?_
    refine ite_elim hF (fun hc3 hF => ?_) (fun hc3 hF => ?_)
    ·refine x_set 25 (b := false) (by kernel_rfl) (show (!(eqHeld y11212 y11213)) = false by rw [hc3]; rfl) ?_
     refine x_cond (b0 := false) (by kernel_rfl) (by kernel_rfl) ?_
     refine x_skip (.inl (by kernel_rfl)) ?_
     refine block_n ?_
     refine then_n ?_
     refine go_same ?_
     refine x_region (by kernel_rfl) ?_
     refine w_run 3 [] rfl (by kernel_rfl) ?_
     refine w_end (by kernel_rfl) ?_
     refine then_n ?_
     exact x_back (VS.same2 67107788 (by kernel_rfl) (by kernel_rfl)) ⟨iAdd .i64 x11205 1, (some true), (some false), rfl, rfl, hF⟩
    ·refine x_set 25 (b := true) (by kernel_rfl) (show (!(eqHeld y11212 y11213)) = true by rw [hc3]; rfl) ?_
     refine x_cond (b0 := true) (by kernel_rfl) (by kernel_rfl) ?_
     refine x_seq (by kernel_rfl) ?_
     refine x_region (by kernel_rfl) ?_
     refine w_run 1 [] rfl (by kernel_rfl) ?_
     refine w_end (by kernel_rfl) ?_
     refine then_n ?_
     refine go_same ?_
     refine x_ret (by kernel_rfl) ?_
     refine block_r ?_
     refine then_r ?_
     refine then_r ?_
     refine block_r ?_
     refine then_r ?_
     have e := Option.some.inj hF
     subst e
     exact fin_end (.inl rfl) (by kernel_rfl) (by kernel_rfl) (Nat.zero_le _) rfl (by kernel_rfl) ⟨rfl, rfl⟩
   ·refine x_set 14 (b := false) (by kernel_rfl) hc2 ?_
    refine x_cond (b0 := false) (by kernel_rfl) (by kernel_rfl) ?_
    refine x_exit (by kernel_rfl) ?_
    refine then_e ?_
    refine then_e ?_
    refine block_e ?_
    refine then_n ?_
    exact x_to hJ1 (VS.same2 33537007 (by kernel_rfl) (by kernel_rfl)) ⟨g11193, rfl, rfl, hF⟩
def l24_PruneOnce_J318 (p10657 : Sl Affidavitref24_State) (p10703 : Sl Held) (p10706 : Sl Prune_state) : Option Bool :=
 if ((p10657.l.length : Int) == 0) = true then (prune_Book_Held p10706 p10703).bind fun y10708 => some ((y10708.l.length : Int) == 0) else (prune_Book_Held p10706 p10703).bind fun y10712 => (idxL p10657.l (iSub .i64 (p10657.l.length : Int) 1)).bind fun y10713 => (r24_Same y10712 y10713.L).bind fun y10714 => some y10714
def l24_PruneOnce_B10749 (p10657 : Sl Affidavitref24_State) (k10749 : ((Sl Held) × (Sl Int) × Int × (Sl Prune_state)) → Option Bool) (x10749 : (Sl Held) × (Sl Int) × Int × (Sl Prune_state)) : Option Bool :=
 if iLt x10749.2.2.1 200 = true then (prune_Book_Prune 512 x10749.2.2.2 x10749.1).bind fun y10754 => (l24_apart x10749.2.1.weak y10754.1).bind fun y10756 => if y10756 = true then (appL 8 x10749.2.1 y10754.1.l).bind fun y10757 => k10749 (y10754.2.2, y10757, iAdd .i64 x10749.2.2.1 1, y10754.2.1) else some false else l24_PruneOnce_J318 p10657 x10749.1 x10749.2.2.2
def l24_PruneOnce_J317 (p10628 : Sl Held) (p10630 : Sl Int) (p10656 : Sl Prune_state) (p10657 : Sl Affidavitref24_State) (p10658 : Sl Held) : Option Bool :=
 loopN (l24_PruneOnce_B10749 p10657) FUEL (p10628, p10630, 0, p10656)
def l24_PruneOnce_J595 (k15949 : ((Sl Held) × (Sl Int) × Int × (Sl Prune_state) × (Sl Affidavitref24_State) × (Sl Held)) → Option Bool) (x15949 : (Sl Held) × (Sl Int) × Int × (Sl Prune_state) × (Sl Affidavitref24_State) × (Sl Held)) (p16784 : Sl Held) (p16786 : Sl Int) (p16809 : Sl Prune_state) (p16810 : Sl Affidavitref24_State) (p16811 : Sl Held) : Option Bool :=
 k15949 (p16784, p16786, iAdd .i64 x15949.2.2.1 1, p16809, p16810, p16811)
def l24_PruneOnce_J615 (k15949 : ((Sl Held) × (Sl Int) × Int × (Sl Prune_state) × (Sl Affidavitref24_State) × (Sl Held)) → Option Bool) (x15949 : (Sl Held) × (Sl Int) × Int × (Sl Prune_state) × (Sl Affidavitref24_State) × (Sl Held)) (y16813 : Affidavitlaw24_Act) (p17236 : Bool) : Option Bool :=
 (l24_few y16813.L).bind fun y17243 => if y17243 = true then if (y16813.Kind != 6) = true then if p17236 = true then l24_PruneOnce_J595 k15949 x15949 x15949.1 x15949.2.1 x15949.2.2.2.1 x15949.2.2.2.2.1 x15949.2.2.2.2.2 else (l24_do y16813 x15949.2.2.2.1 x15949.1 x15949.2.2.2.2.1 x15949.2.2.2.2.2).bind fun y17244 => l24_PruneOnce_J595 k15949 x15949 y17244.2.2.2.2 x15949.2.1 y17244.2.1 y17244.2.2.1 y17244.2.2.2.1 else l24_PruneOnce_J595 k15949 x15949 x15949.1 x15949.2.1 x15949.2.2.2.1 x15949.2.2.2.2.1 x15949.2.2.2.2.2 else l24_PruneOnce_J595 k15949 x15949 x15949.1 x15949.2.1 x15949.2.2.2.1 x15949.2.2.2.2.1 x15949.2.2.2.2.2
def l24_PruneOnce_J631 (k17515 : (Bool × Int) → Option Bool) (x17515 : Bool × Int) (p17579 : Bool) : Option Bool :=
 k17515 (p17579, iAdd .i64 x17515.2 1)
def l24_PruneOnce_J634 (k17630 : (Bool × Int) → Option Bool) (x17630 : Bool × Int) (p17637 : Bool) : Option Bool :=
 k17630 (p17637, iAdd .i64 x17630.2 1)
def l24_PruneOnce_B17630 (x15949 : (Sl Held) × (Sl Int) × Int × (Sl Prune_state) × (Sl Affidavitref24_State) × (Sl Held)) (y16813 : Affidavitlaw24_Act) (k17515 : (Bool × Int) → Option Bool) (x17515 : Bool × Int) (k17630 : (Bool × Int) → Option Bool) (x17630 : Bool × Int) : Option Bool :=
 if iLt x17630.2 (x15949.2.1.l.length : Int) = true then if x17630.1 = true then l24_PruneOnce_J634 k17630 x17630 true else (idxL x15949.2.1.l x17630.2).bind fun y17645 => (idxL y16813.L.l x17515.2).bind fun y17646 => l24_PruneOnce_J634 k17630 x17630 (y17645 == y17646.Number) else l24_PruneOnce_J631 k17515 x17515 x17630.1
def l24_PruneOnce_B17515 (k15949 : ((Sl Held) × (Sl Int) × Int × (Sl Prune_state) × (Sl Affidavitref24_State) × (Sl Held)) → Option Bool) (x15949 : (Sl Held) × (Sl Int) × Int × (Sl Prune_state) × (Sl Affidavitref24_State) × (Sl Held)) (y16813 : Affidavitlaw24_Act) (k17515 : (Bool × Int) → Option Bool) (x17515 : Bool × Int) : Option Bool :=
 if iLt x17515.2 (y16813.L.l.length : Int) = true then loopN (l24_PruneOnce_B17630 x15949 y16813 k17515 x17515) FUEL (x17515.1, 0) else l24_PruneOnce_J615 k15949 x15949 y16813 x17515.1
def l24_PruneOnce_B15949 (a0 : Sl Affidavitlaw24_Act) (k15949 : ((Sl Held) × (Sl Int) × Int × (Sl Prune_state) × (Sl Affidavitref24_State) × (Sl Held)) → Option Bool) (x15949 : (Sl Held) × (Sl Int) × Int × (Sl Prune_state) × (Sl Affidavitref24_State) × (Sl Held)) : Option Bool :=
 if iLt x15949.2.2.1 (a0.l.length : Int) = true then if iLt x15949.2.2.1 30 = true then (idxL a0.l x15949.2.2.1).bind fun y16813 => if (y16813.Kind == 4) = true then (r24_Book_Prune y16813.N x15949.2.2.2.2.1 x15949.2.2.2.2.2).bind fun y16824 => (prune_Book_Prune y16813.N x15949.2.2.2.1 x15949.1).bind fun y16825 => (l24_apart x15949.2.1.weak y16825.1).bind fun y16827 => if y16827 = true then (appL 8 x15949.2.1 y16825.1.l).bind fun y16828 => l24_PruneOnce_J595 k15949 x15949 y16825.2.2 y16828 y16825.2.1 y16824.2.1 y16824.2.2 else some false else if (y16813.Kind == 5) = true then (r24_Book_Prune y16813.N x15949.2.2.2.2.1 x15949.2.2.2.2.2).bind fun y16829 => (prune_Book_Prune y16813.N x15949.2.2.2.1 x15949.1).bind fun y16830 => (l24_apart x15949.2.1.weak y16830.1).bind fun y16832 => if y16832 = true then (appL 8 x15949.2.1 y16830.1.l).bind fun y16833 => l24_PruneOnce_J595 k15949 x15949 y16830.2.2 y16833 y16830.2.1 y16829.2.1 y16829.2.2 else some false else loopN (l24_PruneOnce_B17515 k15949 x15949 y16813) FUEL (false, 0) else l24_PruneOnce_J317 x15949.1 x15949.2.1 x15949.2.2.2.1 x15949.2.2.2.2.1 x15949.2.2.2.2.2 else l24_PruneOnce_J317 x15949.1 x15949.2.1 x15949.2.2.2.1 x15949.2.2.2.2.1 x15949.2.2.2.2.2
def l24_PruneOnce (a0 : Sl Affidavitlaw24_Act) : Option Bool :=
 (prune_NewR).bind fun y3734 => (awakeF).bind fun y3738 => if y3738 = true then loopN (l24_PruneOnce_B15949 a0) FUEL ((⟨true, true, []⟩ : Sl Held), ⟨true, true, []⟩, 0, (⟨true, true, []⟩ : Sl Prune_state), (⟨true, true, []⟩ : Sl Affidavitref24_State), (⟨true, true, []⟩ : Sl Held)) else some false
theorem l24_PruneOnce_ev {a0 : Sl Affidavitlaw24_Act} {r : Bool} (hF : l24_PruneOnce a0 = some r) : EvCall Try.prog T G0 4 [sl cAffidavitlaw24_Act a0] [] (fun v H' => v = .bool r ∧ H' = []) := by
 refine x_call Try.func4 (by kernel_rfl) (by kernel_rfl) rfl ?_
 refine x_seq (by kernel_rfl) ?_
 refine x_region (by kernel_rfl) ?_
 refine w_run 1 [] rfl (by kernel_rfl) ?_
 refine w_end (by kernel_rfl) ?_
 refine then_n ?_
 refine go_same ?_
 refine x_seq (by kernel_rfl) ?_
 refine x_region (by kernel_rfl) ?_
 refine bind_elim hF (fun y3734 hy3734 hF => w_ocall [] [0, 1] (ga := []) (as0 := []) (h0 := []) (h1 := [.cells ((cL cPrune_state) (⟨true, true, []⟩ : Sl Prune_state) ++ [rfv false (⟨true, true, []⟩ : Sl Held) 1 2]), rfb cHeld (⟨true, true, []⟩ : Sl Held)]) (h2 := [.cells ((cL cPrune_state) (⟨true, true, []⟩ : Sl Prune_state) ++ [rfv false (⟨true, true, []⟩ : Sl Held) 1 2]), rfb cHeld (⟨true, true, []⟩ : Sl Held)]) (H2 := [.cells ((cL cPrune_state) (⟨true, true, []⟩ : Sl Prune_state) ++ [rfv false (⟨true, true, []⟩ : Sl Held) 1 2]), rfb cHeld (⟨true, true, []⟩ : Sl Held)]) (v0 := .ptr 0 0) (v := .ptr 0 0) (prune_NewR_ev hy3734) (by kernel_rfl) (by kernel_rfl) (by kernel_rfl) (by kernel_rfl) pl_nil (by kernel_rfl) rfl (sbs (sb_cells (by kernel_rfl) (by kernel_rfl) (tights_app (tights_lows ((low_cL low_cPrune_state) _)) (tights_cons rfl rfl))) (sbs (sb_low (noref_rfb low_cHeld _)) sbs_nil)) (by kernel_rfl) (fun e => by cases e) ?_)
 refine w_run 5 [.cells ((cL cPrune_state) (⟨true, true, []⟩ : Sl Prune_state) ++ [rfv false (⟨true, true, []⟩ : Sl Held) 1 2]), rfb cHeld (⟨true, true, []⟩ : Sl Held), .cells (cAffidavitref24_Book (⟨(⟨true, true, []⟩ : Sl Affidavitref24_State), (⟨true, true, []⟩ : Sl Held)⟩ : Affidavitref24_Book))] rfl (by kernel_rfl) ?_
 refine w_end (by kernel_rfl) ?_
 refine then_n ?_
 refine go_same ?_
 refine x_seq (by kernel_rfl) ?_
 refine x_seq (by kernel_rfl) ?_
 refine x_region (by kernel_rfl) ?_
 refine w_run 3 [.cells ((cL cPrune_state) (⟨true, true, []⟩ : Sl Prune_state) ++ [rfv false (⟨true, true, []⟩ : Sl Held) 1 2]), rfb cHeld (⟨true, true, []⟩ : Sl Held), .cells (cAffidavitref24_Book (⟨(⟨true, true, []⟩ : Sl Affidavitref24_State), (⟨true, true, []⟩ : Sl Held)⟩ : Affidavitref24_Book))] rfl (by kernel_rfl) ?_
 refine bind_elim hF (fun y3738 hy3738 hF => w_pcallW (awakeF_ev hy3738) (by kernel_rfl) rfl rfl ?_)
 refine w_run 6 [.cells ((cL cPrune_state) (⟨true, true, []⟩ : Sl Prune_state) ++ [rfv false (⟨true, true, []⟩ : Sl Held) 1 2]), rfb cHeld (⟨true, true, []⟩ : Sl Held), .cells (cAffidavitref24_Book (⟨(⟨true, true, []⟩ : Sl Affidavitref24_State), (⟨true, true, []⟩ : Sl Held)⟩ : Affidavitref24_Book))] rfl (by kernel_rfl) ?_
 refine w_end (by kernel_rfl) ?_
 refine then_n ?_
 refine go_same ?_
 refine ite_elim hF (fun hc1 hF => ?_) (fun hc1 hF => ?_)
 ·refine x_set 22 (b := false) (by kernel_rfl) (show (!y3738) = false by rw [hc1]; rfl) ?_
  refine x_cond (b0 := false) (by kernel_rfl) (by kernel_rfl) ?_
  refine x_skip (.inl (by kernel_rfl)) ?_
  refine then_n ?_
  refine go_same ?_
  refine x_seq (by kernel_rfl) ?_
  refine x_region (by kernel_rfl) ?_
  refine w_run 1 [.cells ((cL cPrune_state) (⟨true, true, []⟩ : Sl Prune_state) ++ [rfv false (⟨true, true, []⟩ : Sl Held) 1 2]), rfb cHeld (⟨true, true, []⟩ : Sl Held), .cells (cAffidavitref24_Book (⟨(⟨true, true, []⟩ : Sl Affidavitref24_State), (⟨true, true, []⟩ : Sl Held)⟩ : Affidavitref24_Book))] rfl (by kernel_rfl) ?_
  refine w_end (by kernel_rfl) ?_
  refine then_n ?_
  refine go_same ?_
  refine x_join (fun fr H => ∃ (p10628 : Sl Held) (p10630 : Sl Int) (p10656 : Sl Prune_state) (p10657 : Sl Affidavitref24_State) (p10658 : Sl Held) (g10629 : Nat) (g10631 : Option Bool) (g10632 : Option Bool) (g10633 : Option Bool) (g10634 : Option Bool) (g10635 : Option Bool) (g10636 : Option Bool) (g10637 : Option Bool) (g10638 : Option Bool) (g10639 : Option Bool) (g10640 : Option Bool) (g10641 : Option Bool) (g10642 : Option Bool) (g10643 : Option Bool) (g10644 : Option Bool) (g10645 : Option Bool) (g10646 : Option Bool) (g10647 : Option Bool) (g10648 : Option Bool) (g10649 : Option Bool) (g10650 : Option Bool) (g10651 : Option Bool) (g10652 : Option Bool) (g10653 : Option Bool) (g10654 : Option Bool) (g10655 : Option Bool) (g10659 : Bool), fr = [.any, .any, .bool false, .ptr 0 0, .ptr 2 0, ownv (cI .i64) 3 g10629 1 p10630, .any, .any, .any, junkB g10631, .any, .any, .any, .any, .any, .any, .any, .any, .bool false, .bool false, .bool y3738, .bool (!y3738), .bool false, .any, .any, .any, junkB g10632, junkB g10633, .any, junkB g10634, .bool false, .any, .any, .any, .any, .any, .any, .any, .any, junkB g10635, junkB g10636, .any, .any, junkB g10637, junkB g10638, .any, .any, .any, .any, .any, .any, .any, .any, .any, .any, junkB g10639, junkB g10640, .any, .any, .any, .any, .any, .any, .any, junkB g10641, .any, .any, .any, .any, .any, junkB g10642, .any, .any, junkB g10643, junkB g10644, .any, .any, .any, .any, .any, .any, .any, .any, .any, .any, junkB g10645, junkB g10646, .any, .any, junkB g10647, junkB g10648, .any, .any, junkB g10649, junkB g10650, junkB g10651, junkB g10652, junkB g10653, junkB g10654, .any, .any, .any, junkB g10655, .any, .any, .any, .any, .any, .any, .any, .any, .any, .any, .any, .any, .any, .any, .any, .any, .any, .any, .any, .any, .any, .any, .any, .any, .any, .any, .any, .any, .any, .any, .any, .any, .any, .any, .any, .any, .any, .any, .any] ∧ H = [.cells ((cL cPrune_state) p10656 ++ [rfv false p10628 1 2]), rfb cHeld p10628, .cells ((cL cAffidavitref24_State) p10657 ++ (cL cHeld) p10658), .room g10629 g10659] ∧ l24_PruneOnce_J317 p10628 p10630 p10656 p10657 p10658 = some r) (by kernel_rfl) (fun fr H ⟨p10628, p10630, p10656, p10657, p10658, g10629, g10631, g10632, g10633, g10634, g10635, g10636, g10637, g10638, g10639, g10640, g10641, g10642, g10643, g10644, g10645, g10646, g10647, g10648, g10649, g10650, g10651, g10652, g10653, g10654, g10655, g10659, e1, e2, hF⟩ => ?_) (fun hJ317 => ?_)
  ·subst e1 e2
   refine x_join (fun fr H => ∃ (p10703 : Sl Held) (p10706 : Sl Prune_state) (g10704 : Option Bool) (g10705 : Option Bool), fr = [.any, .any, .bool false, .ptr 0 0, .ptr 2 0, .any, .any, .any, .any, junkB g10631, .any, .any, .any, .any, .any, .any, .any, .any, .bool false, .bool false, .bool y3738, .bool (!y3738), .bool false, .any, .any, .any, junkB g10632, junkB g10633, .any, junkB g10634, .bool false, .any, .any, .any, .any, .any, .any, .any, .any, junkB g10635, junkB g10636, .any, .any, junkB g10637, junkB g10638, .any, .any, .any, .any, .any, .any, .any, .any, .any, .any, junkB g10639, junkB g10640, .any, .any, .any, .any, .any, .any, .any, junkB g10641, .any, .any, .any, .any, .any, junkB g10642, .any, .any, junkB g10643, junkB g10644, .any, .any, .any, .any, .any, .any, .any, .any, .any, .any, junkB g10645, junkB g10646, .any, .any, junkB g10647, junkB g10648, .any, .any, junkB g10649, junkB g10650, junkB g10651, junkB g10652, junkB g10653, junkB g10654, .any, .any, .any, junkB g10655, .any, .bool false, .any, .any, .any, .any, .any, .any, junkB g10704, junkB g10705, .any, .any, .any, .any, .any, .any, .any, .any, .any, .any, .any, .any, .any, .any, .any, .any, .any, .any, .any, .any, .any, .any, .any, .any, .any, .any, .any, .any, .any] ∧ H = [.cells ((cL cPrune_state) p10706 ++ [rfv false p10703 1 2]), rfb cHeld p10703, .cells ((cL cAffidavitref24_State) p10657 ++ (cL cHeld) p10658)] ∧ l24_PruneOnce_J318 p10657 p10703 p10706 = some r) (by kernel_rfl) (fun fr H ⟨p10703, p10706, g10704, g10705, e1, e2, hF⟩ => ?_) (fun hJ318 => ?_)
   ·subst e1 e2
    refine x_seq (by kernel_rfl) ?_
    refine x_seq (by kernel_rfl) ?_
    refine x_region (by kernel_rfl) ?_
    refine w_run 6 [.cells ((cL cPrune_state) p10706 ++ [rfv false p10703 1 2]), rfb cHeld p10703, .cells ((cL cAffidavitref24_State) p10657 ++ (cL cHeld) p10658)] rfl (by kernel_rfl) ?_
    refine w_end (by kernel_rfl) ?_
    refine then_n ?_
    refine go_same ?_
    refine ite_elim hF (fun hc2 hF => ?_) (fun hc2 hF => ?_)
    ·refine x_set 121 (b := true) (by kernel_rfl) hc2 ?_
     refine x_cond (b0 := true) (by kernel_rfl) (by kernel_rfl) ?_
     refine x_seq (by kernel_rfl) ?_
     refine x_region (by kernel_rfl) ?_
     refine w_run 1 [.cells ((cL cPrune_state) p10706 ++ [rfv false p10703 1 2]), rfb cHeld p10703, .cells ((cL cAffidavitref24_State) p10657 ++ (cL cHeld) p10658)] rfl (by kernel_rfl) ?_
     refine bind_elim hF (fun y10708 hy10708 hF => w_ocall [0, 1] [0, 1] (ga := [.ptr 0 0]) (as0 := [.ptr 0 0]) (h0 := [.cells ((cL cPrune_state) p10706 ++ [rfv false p10703 1 2]), rfb cHeld p10703]) (h1 := [.cells ((cL cPrune_state) p10706 ++ [rfv false p10703 1 2]), rfb cHeld p10703]) (h2 := [.cells ((cL cPrune_state) p10706 ++ [rfv false p10703 1 2]), rfb cHeld p10703]) (H2 := [.cells ((cL cPrune_state) p10706 ++ [rfv false p10703 1 2]), rfb cHeld p10703, .cells ((cL cAffidavitref24_State) p10657 ++ (cL cHeld) p10658)]) (v0 := sl cHeld y10708) (v := sl cHeld y10708) (prune_Book_Held_ev hy10708) (by kernel_rfl) (by kernel_rfl) (by kernel_rfl) (by kernel_rfl) (pl (b' := .cells ((cL cPrune_state) p10706 ++ [rfv false p10703 1 2])) (by kernel_rfl) (sb_cells (by kernel_rfl) (by kernel_rfl) (tights_app (tights_lows ((low_cL low_cPrune_state) _)) (tights_cons rfl rfl))) (pl (b' := rfb cHeld p10703) (by kernel_rfl) (sb_low (noref_rfb low_cHeld _)) pl_nil)) (by kernel_rfl) (tight_sl low_cHeld) (sbs (sb_cells (by kernel_rfl) (by kernel_rfl) (tights_app (tights_lows ((low_cL low_cPrune_state) _)) (tights_cons rfl rfl))) (sbs (sb_low (noref_rfb low_cHeld _)) sbs_nil)) (by kernel_rfl) (fun _ => rfl) ?_)
     refine w_run 5 [.cells ((cL cPrune_state) p10706 ++ [rfv false p10703 1 2]), rfb cHeld p10703, .cells ((cL cAffidavitref24_State) p10657 ++ (cL cHeld) p10658)] rfl (by kernel_rfl) ?_
     refine w_end (by kernel_rfl) ?_
     refine then_n ?_
     refine go_same ?_
     refine x_ret (by kernel_rfl) ?_
     refine then_r ?_
     have e := Option.some.inj hF
     subst e
     exact fin_end (.inl rfl) (by kernel_rfl) (by kernel_rfl) (Nat.zero_le _) rfl (by kernel_rfl) ⟨rfl, rfl⟩
    ·refine x_set 121 (b := false) (by kernel_rfl) hc2 ?_
     refine x_cond (b0 := false) (by kernel_rfl) (by kernel_rfl) ?_
     refine x_skip (.inl (by kernel_rfl)) ?_
     refine then_n ?_
     refine go_same ?_
     refine x_seq (by kernel_rfl) ?_
     refine x_drawn 0 call_ends callMono (by kernel_rfl) (by kernel_rfl) ?_
     refine w_pure 1 rfl (by kernel_rfl) ?_
     refine bind_elim hF (fun y10712 hy10712 hF => w_ocall [0, 1] [0, 1] (ga := [.ptr 0 0]) (as0 := [.ptr 0 0]) (h0 := [.cells ((cL cPrune_state) p10706 ++ [rfv false p10703 1 2]), rfb cHeld p10703]) (h1 := [.cells ((cL cPrune_state) p10706 ++ [rfv false p10703 1 2]), rfb cHeld p10703]) (h2 := [.cells ((cL cPrune_state) p10706 ++ [rfv false p10703 1 2]), rfb cHeld p10703]) (H2 := [.cells ((cL cPrune_state) p10706 ++ [rfv false p10703 1 2]), rfb cHeld p10703, .cells ((cL cAffidavitref24_State) p10657 ++ (cL cHeld) p10658)]) (v0 := sl cHeld y10712) (v := sl cHeld y10712) (prune_Book_Held_ev hy10712) (by kernel_rfl) (by kernel_rfl) (by kernel_rfl) (by kernel_rfl) (pl (b' := .cells ((cL cPrune_state) p10706 ++ [rfv false p10703 1 2])) (by kernel_rfl) (sb_cells (by kernel_rfl) (by kernel_rfl) (tights_app (tights_lows ((low_cL low_cPrune_state) _)) (tights_cons rfl rfl))) (pl (b' := rfb cHeld p10703) (by kernel_rfl) (sb_low (noref_rfb low_cHeld _)) pl_nil)) (by kernel_rfl) (tight_sl low_cHeld) (sbs (sb_cells (by kernel_rfl) (by kernel_rfl) (tights_app (tights_lows ((low_cL low_cPrune_state) _)) (tights_cons rfl rfl))) (sbs (sb_low (noref_rfb low_cHeld _)) sbs_nil)) (by kernel_rfl) (fun _ => rfl) ?_)
     refine w_pure 12 rfl (by kernel_rfl) ?_
     refine bind_elim hF (fun y10713 hy10713 hF => w_iaddr cAffidavitref24_State (sz := 2) hy10713 (by kernel_rfl) (by decide) len_cAffidavitref24_State ?_)
     refine w_pure 14 rfl (by kernel_rfl) ?_
     refine w_elem cAffidavitref24_State 1 (t := 27) (v := sl cHeld y10713.L) (sz := 2) (z := 1) hy10713 (by kernel_rfl) (by kernel_rfl) len_cAffidavitref24_State (by decide) (by decide) ?_
     refine bind_elim hF (fun y10714 hy10714 hF => w_pcallW (r24_Same_ev hy10714) (by kernel_rfl) (lows_cons (low_sl low_cHeld) (lows_cons (low_sl low_cHeld) rfl)) rfl ?_)
     refine w_pure 17 rfl (by kernel_rfl) ?_
     refine w_end (by kernel_rfl) ?_
     refine ⟨_, _, VS.refl _ _ _, ?_⟩
     refine then_n ?_
     refine go_same ?_
     refine x_ret (by kernel_rfl) ?_
     have e := Option.some.inj hF
     subst e
     exact fin_end (.inl rfl) (by kernel_rfl) (by kernel_rfl) (Nat.zero_le _) rfl (by kernel_rfl) ⟨rfl, rfl⟩
   ·refine x_seq (by kernel_rfl) ?_
    refine x_region (by kernel_rfl) ?_
    refine w_run 1 [.cells ((cL cPrune_state) p10656 ++ [rfv false p10628 1 2]), rfb cHeld p10628, .cells ((cL cAffidavitref24_State) p10657 ++ (cL cHeld) p10658), .room g10629 g10659] rfl (by kernel_rfl) ?_
    refine w_end (by kernel_rfl) ?_
    refine then_n ?_
    refine go_same ?_
    refine x_block (by kernel_rfl) ?_
    refine x_loop (fun d fr H => ∃ (x10749 : (Sl Held) × (Sl Int) × Int × (Sl Prune_state)) (g10724 : Nat) (g10727 : Option Bool) (g10728 : Option Bool) (g10729 : Option Bool) (g10731 : Bool), fr = [.any, .any, .bool false, .ptr 0 0, .ptr 2 0, ownv (cI .i64) 3 g10724 1 x10749.2.1, .any, .any, .any, junkB g10631, .any, .any, .int .i64 x10749.2.2.1, .any, .any, .any, .any, .any, .bool false, .bool false, .bool y3738, .bool (!y3738), .bool false, .any, .any, .any, junkB g10632, junkB g10633, .any, junkB g10634, .bool false, .any, .any, .any, .any, .any, .any, .any, .any, junkB g10635, junkB g10636, .any, .any, junkB g10637, junkB g10638, .any, .any, .any, .any, .any, .any, .any, .any, .any, .any, junkB g10639, junkB g10640, .any, .any, .any, .any, .any, .any, .any, junkB g10641, .any, .any, .any, .any, .any, junkB g10642, .any, .any, junkB g10643, junkB g10644, .any, .any, .any, .any, .any, .any, .any, .any, .any, .any, junkB g10645, junkB g10646, .any, .any, junkB g10647, junkB g10648, .any, .any, junkB g10649, junkB g10650, junkB g10651, junkB g10652, junkB g10653, junkB g10654, .any, .any, .any, junkB g10655, .any, junkB g10727, .any, .any, .any, .any, .any, .any, junkB g10728, junkB g10729, .any, .any, .any, .any, .any, .any, .any, .any, .any, .any, .any, .any, .any, .any, .any, .any, .any, .any, .any, .any, .any, .any, .any, .any, .any, .any, .any, .any, .any] ∧ H = [.cells ((cL cPrune_state) x10749.2.2.2 ++ [rfv false x10749.1 1 2]), rfb cHeld x10749.1, .cells ((cL cAffidavitref24_State) p10657 ++ (cL cHeld) p10658), .room g10724 g10731] ∧ loopN (l24_PruneOnce_B10749 p10657) d x10749 = some r) (by kernel_rfl) (fun fr H ⟨x10749, g10724, g10727, g10728, g10729, g10731, e1, e2, hF⟩ => loop_no hF) (fun d10749 fr H ⟨x10749, g10724, g10727, g10728, g10729, g10731, e1, e2, hF⟩ => ?_) (VS.same2 5575186299626959288206745862446301868977603 (by kernel_rfl) (by kernel_rfl)) ⟨(p10628, p10630, 0, p10656), g10629, none, none, none, g10659, rfl, rfl, hF⟩
    subst e1 e2
    have hF := loop_in hF
    refine x_seq (by kernel_rfl) ?_
    refine x_seq (by kernel_rfl) ?_
    refine x_region (by kernel_rfl) ?_
    refine w_run 2 [.cells ((cL cPrune_state) x10749.2.2.2 ++ [rfv false x10749.1 1 2]), rfb cHeld x10749.1, .cells ((cL cAffidavitref24_State) p10657 ++ (cL cHeld) p10658), .room g10724 g10731] rfl (by kernel_rfl) ?_
    refine w_end (by kernel_rfl) ?_
    refine then_n ?_
    refine go_same ?_
    refine ite_elim hF (fun hc3 hF => ?_) (fun hc3 hF => ?_)
    ·refine x_set 104 (b := true) (by kernel_rfl) hc3 ?_
     refine x_cond (b0 := true) (by kernel_rfl) (by kernel_rfl) ?_
     refine x_skip (.inl (by kernel_rfl)) ?_
     refine then_n ?_
     refine go_same ?_
     refine x_seq (by kernel_rfl) ?_
     refine x_block (by kernel_rfl) ?_
     refine x_seq (by kernel_rfl) ?_
     refine x_region (by kernel_rfl) ?_
     refine w_run 1 [.cells ((cL cPrune_state) x10749.2.2.2 ++ [rfv false x10749.1 1 2]), rfb cHeld x10749.1, .cells ((cL cAffidavitref24_State) p10657 ++ (cL cHeld) p10658), .room g10724 g10731] rfl (by kernel_rfl) ?_
     refine bind_elim hF (fun y10754 hy10754 hF => w_ocall [0, 1] [0, 1, 4] (ga := [.ptr 0 0, .int .i64 512]) (as0 := [.ptr 0 0, .int .i64 512]) (h0 := [.cells ((cL cPrune_state) x10749.2.2.2 ++ [rfv false x10749.1 1 2]), rfb cHeld x10749.1]) (h1 := [.cells ((cL cPrune_state) y10754.2.1 ++ [rfv false y10754.2.2 2 2]), .dead, rfb cHeld y10754.2.2]) (h2 := [.cells ((cL cPrune_state) y10754.2.1 ++ [rfv false y10754.2.2 4 2]), .dead, rfb cHeld y10754.2.2]) (H2 := [.cells ((cL cPrune_state) y10754.2.1 ++ [rfv false y10754.2.2 4 2]), .dead, .cells ((cL cAffidavitref24_State) p10657 ++ (cL cHeld) p10658), .room g10724 g10731, rfb cHeld y10754.2.2]) (v0 := sl (cI .i64) y10754.1) (v := sl (cI .i64) y10754.1) (prune_Book_Prune_ev hy10754) (by kernel_rfl) (by kernel_rfl) (by kernel_rfl) (by kernel_rfl) (pl (b' := .cells ((cL cPrune_state) x10749.2.2.2 ++ [rfv false x10749.1 1 2])) (by kernel_rfl) (sb_cells (by kernel_rfl) (by kernel_rfl) (tights_app (tights_lows ((low_cL low_cPrune_state) _)) (tights_cons rfl rfl))) (pl (b' := rfb cHeld x10749.1) (by kernel_rfl) (sb_low (noref_rfb low_cHeld _)) pl_nil)) (by kernel_rfl) (tight_sl low_cI) (sbs (sb_cells (by kernel_rfl) (by kernel_rfl) (tights_app (tights_lows ((low_cL low_cPrune_state) _)) (tights_cons rfl rfl))) (sbs sb_dead (sbs (sb_low (noref_rfb low_cHeld _)) sbs_nil))) (by kernel_rfl) (fun e => by cases e) ?_)
     refine w_run 3 [.cells ((cL cPrune_state) y10754.2.1 ++ [rfv false y10754.2.2 4 2]), .dead, .cells ((cL cAffidavitref24_State) p10657 ++ (cL cHeld) p10658), .room g10724 g10731, rfb cHeld y10754.2.2] rfl (by kernel_rfl) ?_
     refine w_end (by kernel_rfl) ?_
     refine then_n ?_
     refine go_same ?_
     refine x_seq (by kernel_rfl) ?_
     refine x_seq (by kernel_rfl) ?_
     refine x_region (by kernel_rfl) ?_
     refine w_run 2 [.cells ((cL cPrune_state) y10754.2.1 ++ [rfv false y10754.2.2 4 2]), .dead, .cells ((cL cAffidavitref24_State) p10657 ++ (cL cHeld) p10658), .room g10724 g10731, rfb cHeld y10754.2.2] rfl (by kernel_rfl) ?_
     refine bind_elim hF (fun y10756 hy10756 hF => w_pcallW (l24_apart_ev hy10756) (by kernel_rfl) (lows_cons (low_sl low_cI) (lows_cons (low_sl low_cI) rfl)) rfl ?_)
     refine w_run 4 [.cells ((cL cPrune_state) y10754.2.1 ++ [rfv false y10754.2.2 4 2]), .dead, .cells ((cL cAffidavitref24_State) p10657 ++ (cL cHeld) p10658), .room g10724 g10731, rfb cHeld y10754.2.2] rfl (by kernel_rfl) ?_
     refine w_end (by kernel_rfl) ?_
     refine then_n ?_
     refine go_same ?_
     refine ite_elim hF (fun hc4 hF => ?_) (fun hc4 hF => ?_)
     ·refine x_set 112 (b := false) (by kernel_rfl) (show (!y10756) = false by rw [hc4]; rfl) ?_
      refine x_cond (b0 := false) (by kernel_rfl) (by kernel_rfl) ?_
      refine x_skip (.inl (by kernel_rfl)) ?_
      refine then_n ?_
      refine go_same ?_
      refine x_region (by kernel_rfl) ?_
      refine w_run 2 [.cells ((cL cPrune_state) y10754.2.1 ++ [rfv false y10754.2.2 4 2]), .dead, .cells ((cL cAffidavitref24_State) p10657 ++ (cL cHeld) p10658), .room g10724 g10731, rfb cHeld y10754.2.2] rfl (by kernel_rfl) ?_
      refine bind_elim hF (fun y10757 hy10757 hF => w_app (cI .i64) (e := 3) (sz := 1) (l0 := 3) (real := g10731) (ver := g10724) (x := x10749.2.1) (ys := y10754.1.l) hy10757 (by kernel_rfl) (by decide) (gives_sl (x := y10754.1) (by kernel_rfl) (fun _ => rfl)) (room_at (by kernel_rfl)) ?_)
      refine w_run 4 [.cells ((cL cPrune_state) y10754.2.1 ++ [rfv false y10754.2.2 4 2]), .dead, .cells ((cL cAffidavitref24_State) p10657 ++ (cL cHeld) p10658), .room (g10724 + 1) (g10731 || !(y10754.1.l.length == 0)), rfb cHeld y10754.2.2] rfl (by kernel_rfl) ?_
      refine w_end (by kernel_rfl) ?_
      refine block_n ?_
      refine then_n ?_
      refine go_same ?_
      refine x_region (by kernel_rfl) ?_
      refine w_run 3 [.cells ((cL cPrune_state) y10754.2.1 ++ [rfv false y10754.2.2 4 2]), .dead, .cells ((cL cAffidavitref24_State) p10657 ++ (cL cHeld) p10658), .room (g10724 + 1) (g10731 || !(y10754.1.l.length == 0)), rfb cHeld y10754.2.2] rfl (by kernel_rfl) ?_
      refine w_end (by kernel_rfl) ?_
      refine then_n ?_
      exact x_back (VS.shX [0, 4, 2, 3] 5575186299626959288206745862446301868977603 [9, 26, 27, 29, 39, 40, 43, 44, 55, 56, 64, 70, 73, 74, 85, 86, 89, 90, 93, 94, 95, 96, 97, 98, 102] (by kernel_rfl) (by kernel_rfl) (by kernel_rfl) (by exact ⟨low_junk g10631, low_junk g10632, low_junk g10633, low_junk g10634, low_junk g10635, low_junk g10636, low_junk g10637, low_junk g10638, low_junk g10639, low_junk g10640, low_junk g10641, low_junk g10642, low_junk g10643, low_junk g10644, low_junk g10645, low_junk g10646, low_junk g10647, low_junk g10648, low_junk g10649, low_junk g10650, low_junk g10651, low_junk g10652, low_junk g10653, low_junk g10654, low_junk g10655, trivial⟩) (tights_at [5, 9, 26, 27, 29, 39, 40, 43, 44, 55, 56, 64, 70, 73, 74, 85, 86, 89, 90, 93, 94, 95, 96, 97, 98, 102] (by kernel_rfl) (by exact ⟨(tight_own low_cI), (tight_junk g10631), (tight_junk g10632), (tight_junk g10633), (tight_junk g10634), (tight_junk g10635), (tight_junk g10636), (tight_junk g10637), (tight_junk g10638), (tight_junk g10639), (tight_junk g10640), (tight_junk g10641), (tight_junk g10642), (tight_junk g10643), (tight_junk g10644), (tight_junk g10645), (tight_junk g10646), (tight_junk g10647), (tight_junk g10648), (tight_junk g10649), (tight_junk g10650), (tight_junk g10651), (tight_junk g10652), (tight_junk g10653), (tight_junk g10654), (tight_junk g10655), trivial⟩)) (shh (b0 := .cells ((cL cPrune_state) y10754.2.1 ++ [rfv false y10754.2.2 4 2])) (by kernel_rfl) (shb_cells (by kernel_rfl) (by kernel_rfl) (tights_app (tights_lows ((low_cL low_cPrune_state) _)) (tights_cons rfl rfl))) (shh (b0 := rfb cHeld y10754.2.2) (by kernel_rfl) (NoRef.shb (noref_rfb low_cHeld _)) (shh (b0 := .cells ((cL cAffidavitref24_State) p10657 ++ (cL cHeld) p10658)) (by kernel_rfl) (shb_cells (by kernel_rfl) (by kernel_rfl) (tights_app (tights_lows ((low_cL low_cAffidavitref24_State) _)) (tights_lows ((low_cL low_cHeld) _)))) (shh (b0 := .room (g10724 + 1) (g10731 || !(y10754.1.l.length == 0))) (by kernel_rfl) shb_room shh_nil))))) ⟨(y10754.2.2, y10757, iAdd .i64 x10749.2.2.1 1, y10754.2.1), (g10724 + 1), (some true), (some y10756), (some false), (g10731 || !(y10754.1.l.length == 0)), rfl, rfl, hF⟩
     ·refine x_set 112 (b := true) (by kernel_rfl) (show (!y10756) = true by rw [hc4]; rfl) ?_
      refine x_cond (b0 := true) (by kernel_rfl) (by kernel_rfl) ?_
      refine x_seq (by kernel_rfl) ?_
      refine x_region (by kernel_rfl) ?_
      refine w_run 1 [.cells ((cL cPrune_state) y10754.2.1 ++ [rfv false y10754.2.2 4 2]), .dead, .cells ((cL cAffidavitref24_State) p10657 ++ (cL cHeld) p10658), .room g10724 g10731, rfb cHeld y10754.2.2] rfl (by kernel_rfl) ?_
      refine w_end (by kernel_rfl) ?_
      refine then_n ?_
      refine go_same ?_
      refine x_ret (by kernel_rfl) ?_
      refine then_r ?_
      refine block_r ?_
      refine then_r ?_
      refine then_r ?_
      refine block_r ?_
      refine then_r ?_
      have e := Option.some.inj hF
      subst e
      exact fin_end (.inl rfl) (by kernel_rfl) (by kernel_rfl) (Nat.zero_le _) rfl (by kernel_rfl) ⟨rfl, rfl⟩
    ·refine x_set 104 (b := false) (by kernel_rfl) hc3 ?_
     refine x_cond (b0 := false) (by kernel_rfl) (by kernel_rfl) ?_
     refine x_exit (by kernel_rfl) ?_
     refine then_e ?_
     refine then_e ?_
     refine block_e ?_
     refine then_n ?_
     exact x_to hJ318 (VS.shX [0, 1, 2] 5575186291818231590800852749226610123865571 [9, 26, 27, 29, 39, 40, 43, 44, 55, 56, 64, 70, 73, 74, 85, 86, 89, 90, 93, 94, 95, 96, 97, 98, 102, 111, 112] (by kernel_rfl) (by kernel_rfl) (by kernel_rfl) (by exact ⟨low_junk g10631, low_junk g10632, low_junk g10633, low_junk g10634, low_junk g10635, low_junk g10636, low_junk g10637, low_junk g10638, low_junk g10639, low_junk g10640, low_junk g10641, low_junk g10642, low_junk g10643, low_junk g10644, low_junk g10645, low_junk g10646, low_junk g10647, low_junk g10648, low_junk g10649, low_junk g10650, low_junk g10651, low_junk g10652, low_junk g10653, low_junk g10654, low_junk g10655, low_junk g10728, low_junk g10729, trivial⟩) (tights_at [9, 26, 27, 29, 39, 40, 43, 44, 55, 56, 64, 70, 73, 74, 85, 86, 89, 90, 93, 94, 95, 96, 97, 98, 102, 111, 112] (by kernel_rfl) (by exact ⟨(tight_junk g10631), (tight_junk g10632), (tight_junk g10633), (tight_junk g10634), (tight_junk g10635), (tight_junk g10636), (tight_junk g10637), (tight_junk g10638), (tight_junk g10639), (tight_junk g10640), (tight_junk g10641), (tight_junk g10642), (tight_junk g10643), (tight_junk g10644), (tight_junk g10645), (tight_junk g10646), (tight_junk g10647), (tight_junk g10648), (tight_junk g10649), (tight_junk g10650), (tight_junk g10651), (tight_junk g10652), (tight_junk g10653), (tight_junk g10654), (tight_junk g10655), (tight_junk g10728), (tight_junk g10729), trivial⟩)) (shh (b0 := .cells ((cL cPrune_state) x10749.2.2.2 ++ [rfv false x10749.1 1 2])) (by kernel_rfl) (shb_cells (by kernel_rfl) (by kernel_rfl) (tights_app (tights_lows ((low_cL low_cPrune_state) _)) (tights_cons rfl rfl))) (shh (b0 := rfb cHeld x10749.1) (by kernel_rfl) (NoRef.shb (noref_rfb low_cHeld _)) (shh (b0 := .cells ((cL cAffidavitref24_State) p10657 ++ (cL cHeld) p10658)) (by kernel_rfl) (shb_cells (by kernel_rfl) (by kernel_rfl) (tights_app (tights_lows ((low_cL low_cAffidavitref24_State) _)) (tights_lows ((low_cL low_cHeld) _)))) shh_nil)))) ⟨x10749.1, x10749.2.2.2, g10728, g10729, rfl, rfl, hF⟩
  ·refine x_seq (by kernel_rfl) ?_
   refine x_region (by kernel_rfl) ?_
   refine w_run 1 [.cells ((cL cPrune_state) (⟨true, true, []⟩ : Sl Prune_state) ++ [rfv false (⟨true, true, []⟩ : Sl Held) 1 2]), rfb cHeld (⟨true, true, []⟩ : Sl Held), .cells (cAffidavitref24_Book (⟨(⟨true, true, []⟩ : Sl Affidavitref24_State), (⟨true, true, []⟩ : Sl Held)⟩ : Affidavitref24_Book))] rfl (by kernel_rfl) ?_
   refine w_end (by kernel_rfl) ?_
   refine then_n ?_
   refine go_same ?_
   refine x_block (by kernel_rfl) ?_
   refine x_loop (fun d fr H => ∃ (x15949 : (Sl Held) × (Sl Int) × Int × (Sl Prune_state) × (Sl Affidavitref24_State) × (Sl Held)) (g14185 : Nat) (g14188 : Option Bool) (g14189 : Option Bool) (g14190 : Option Bool) (g14191 : Option Bool) (g14192 : Option Bool) (g14193 : Option Bool) (g14194 : Option Bool) (g14195 : Option Bool) (g14196 : Option Bool) (g14197 : Option Bool) (g14198 : Option Bool) (g14199 : Option Bool) (g14200 : Option Bool) (g14201 : Option Bool) (g14202 : Option Bool) (g14203 : Option Bool) (g14204 : Option Bool) (g14205 : Option Bool) (g14206 : Option Bool) (g14207 : Option Bool) (g14208 : Option Bool) (g14209 : Option Bool) (g14210 : Option Bool) (g14211 : Option Bool) (g14212 : Option Bool) (g14213 : Option Bool) (g14217 : Bool), fr = [sl cAffidavitlaw24_Act a0, .any, .bool false, .ptr 0 0, .ptr 2 0, ownv (cI .i64) 3 g14185 1 x15949.2.1, .int .i64 x15949.2.2.1, .any, .any, junkB g14188, .any, .any, .any, .any, .any, .any, .any, .any, .bool false, .bool false, .bool y3738, .bool (!y3738), .bool false, .any, .any, .any, junkB g14189, junkB g14190, .any, junkB g14191, junkB g14192, .any, .any, .any, .any, .any, .any, .any, .any, junkB g14193, junkB g14194, .any, .any, junkB g14195, junkB g14196, .any, .any, .any, .any, .any, .any, .any, .any, .any, .any, junkB g14197, junkB g14198, .any, .any, .any, .any, .any, .any, .any, junkB g14199, .any, .any, .any, .any, .any, junkB g14200, .any, .any, junkB g14201, junkB g14202, .any, .any, .any, .any, .any, .any, .any, .any, .any, .any, junkB g14203, junkB g14204, .any, .any, junkB g14205, junkB g14206, .any, .any, junkB g14207, junkB g14208, junkB g14209, junkB g14210, junkB g14211, junkB g14212, .any, .any, .any, junkB g14213, .any, .any, .any, .any, .any, .any, .any, .any, .any, .any, .any, .any, .any, .any, .any, .any, .any, .any, .any, .any, .any, .any, .any, .any, .any, .any, .any, .any, .any, .any, .any, .any, .any, .any, .any, .any, .any, .any, .any] ∧ H = [.cells ((cL cPrune_state) x15949.2.2.2.1 ++ [rfv false x15949.1 1 2]), rfb cHeld x15949.1, .cells ((cL cAffidavitref24_State) x15949.2.2.2.2.1 ++ (cL cHeld) x15949.2.2.2.2.2), .room g14185 g14217] ∧ loopN (l24_PruneOnce_B15949 a0) d x15949 = some r) (by kernel_rfl) (fun fr H ⟨x15949, g14185, g14188, g14189, g14190, g14191, g14192, g14193, g14194, g14195, g14196, g14197, g14198, g14199, g14200, g14201, g14202, g14203, g14204, g14205, g14206, g14207, g14208, g14209, g14210, g14211, g14212, g14213, g14217, e1, e2, hF⟩ => loop_no hF) (fun d15949 fr H ⟨x15949, g14185, g14188, g14189, g14190, g14191, g14192, g14193, g14194, g14195, g14196, g14197, g14198, g14199, g14200, g14201, g14202, g14203, g14204, g14205, g14206, g14207, g14208, g14209, g14210, g14211, g14212, g14213, g14217, e1, e2, hF⟩ => ?_) (VS.trans (VS.thaw (cI .i64) 5 1 ⟨true, true, []⟩ (by kernel_rfl) rfl (fun _ => rfl)) (VS.same2 5575186299632655785383929568162090368368514 (by kernel_rfl) (by kernel_rfl))) ⟨((⟨true, true, []⟩ : Sl Held), ⟨true, true, []⟩, 0, (⟨true, true, []⟩ : Sl Prune_state), (⟨true, true, []⟩ : Sl Affidavitref24_State), (⟨true, true, []⟩ : Sl Held)), 1, none, none, none, none, none, none, none, none, none, none, none, none, none, none, none, none, none, none, none, none, none, none, none, none, none, none, false, rfl, rfl, hF⟩
   subst e1 e2
   have hF := loop_in hF
   refine x_seq (by kernel_rfl) ?_
   refine x_seq (by kernel_rfl) ?_
   refine x_region (by kernel_rfl) ?_
   refine w_run 5 [.cells ((cL cPrune_state) x15949.2.2.2.1 ++ [rfv false x15949.1 1 2]), rfb cHeld x15949.1, .cells ((cL cAffidavitref24_State) x15949.2.2.2.2.1 ++ (cL cHeld) x15949.2.2.2.2.2), .room g14185 g14217] rfl (by kernel_rfl) ?_
   refine ite_elim hF (fun hc5 hF => ?_) (fun hc5 hF => ?_)
   ·refine w_set 27 (b := true) (by kernel_rfl) hc5 ?_
    refine w_run 8 [.cells ((cL cPrune_state) x15949.2.2.2.1 ++ [rfv false x15949.1 1 2]), rfb cHeld x15949.1, .cells ((cL cAffidavitref24_State) x15949.2.2.2.2.1 ++ (cL cHeld) x15949.2.2.2.2.2), .room g14185 g14217] rfl (by kernel_rfl) ?_
    refine w_end (by kernel_rfl) ?_
    refine then_n ?_
    refine go_same ?_
    refine ite_elim hF (fun hc6 hF => ?_) (fun hc6 hF => ?_)
    ·refine x_set 30 (b := true) (by kernel_rfl) hc6 ?_
     refine x_cond (b0 := true) (by kernel_rfl) (by kernel_rfl) ?_
     refine x_skip (.inl (by kernel_rfl)) ?_
     refine then_n ?_
     refine go_same ?_
     refine x_join (fun fr H => ∃ (p16784 : Sl Held) (p16786 : Sl Int) (p16809 : Sl Prune_state) (p16810 : Sl Affidavitref24_State) (p16811 : Sl Held) (g16785 : Nat) (g16787 : Option Bool) (g16788 : Option Bool) (g16789 : Option Bool) (g16790 : Option Bool) (g16791 : Option Bool) (g16792 : Option Bool) (g16793 : Option Bool) (g16794 : Option Bool) (g16795 : Option Bool) (g16796 : Option Bool) (g16797 : Option Bool) (g16798 : Option Bool) (g16799 : Option Bool) (g16800 : Option Bool) (g16801 : Option Bool) (g16802 : Option Bool) (g16803 : Option Bool) (g16804 : Option Bool) (g16805 : Option Bool) (g16806 : Option Bool) (g16807 : Option Bool) (g16808 : Option Bool) (g16812 : Bool), fr = [sl cAffidavitlaw24_Act a0, .any, .bool false, .ptr 0 0, .ptr 2 0, ownv (cI .i64) 3 g16785 1 p16786, .int .i64 x15949.2.2.1, .any, .any, junkB g16787, .any, .any, .any, .any, .any, .any, .any, .any, .bool false, .bool false, .bool y3738, .bool (!y3738), .bool false, .any, .any, .any, .bool (iLt x15949.2.2.1 (a0.l.length : Int)), .bool true, .any, .bool (iLt x15949.2.2.1 30), .bool true, .any, .any, .any, .any, .any, .any, .any, .any, junkB g16788, junkB g16789, .any, .any, junkB g16790, junkB g16791, .any, .any, .any, .any, .any, .any, .any, .any, .any, .any, junkB g16792, junkB g16793, .any, .any, .any, .any, .any, .any, .any, junkB g16794, .any, .any, .any, .any, .any, junkB g16795, .any, .any, junkB g16796, junkB g16797, .any, .any, .any, .any, .any, .any, .any, .any, .any, .any, junkB g16798, junkB g16799, .any, .any, junkB g16800, junkB g16801, .any, .any, junkB g16802, junkB g16803, junkB g16804, junkB g16805, junkB g16806, junkB g16807, .any, .any, .any, junkB g16808, .any, .any, .any, .any, .any, .any, .any, .any, .any, .any, .any, .any, .any, .any, .any, .any, .any, .any, .any, .any, .any, .any, .any, .any, .any, .any, .any, .any, .any, .any, .any, .any, .any, .any, .any, .any, .any, .any, .any] ∧ H = [.cells ((cL cPrune_state) p16809 ++ [rfv false p16784 1 2]), rfb cHeld p16784, .cells ((cL cAffidavitref24_State) p16810 ++ (cL cHeld) p16811), .room g16785 g16812] ∧ l24_PruneOnce_J595 (loopN (l24_PruneOnce_B15949 a0) d15949) x15949 p16784 p16786 p16809 p16810 p16811 = some r) (by kernel_rfl) (fun fr H ⟨p16784, p16786, p16809, p16810, p16811, g16785, g16787, g16788, g16789, g16790, g16791, g16792, g16793, g16794, g16795, g16796, g16797, g16798, g16799, g16800, g16801, g16802, g16803, g16804, g16805, g16806, g16807, g16808, g16812, e1, e2, hF⟩ => ?_) (fun hJ595 => ?_)
     ·subst e1 e2
      refine x_region (by kernel_rfl) ?_
      refine w_run 3 [.cells ((cL cPrune_state) p16809 ++ [rfv false p16784 1 2]), rfb cHeld p16784, .cells ((cL cAffidavitref24_State) p16810 ++ (cL cHeld) p16811), .room g16785 g16812] rfl (by kernel_rfl) ?_
      refine w_end (by kernel_rfl) ?_
      refine then_n ?_
      exact x_back (VS.same2 5575186299626959288206745862446303680920962 (by kernel_rfl) (by kernel_rfl)) ⟨(p16784, p16786, iAdd .i64 x15949.2.2.1 1, p16809, p16810, p16811), g16785, g16787, (some (iLt x15949.2.2.1 (a0.l.length : Int))), (some true), (some (iLt x15949.2.2.1 30)), (some true), g16788, g16789, g16790, g16791, g16792, g16793, g16794, g16795, g16796, g16797, g16798, g16799, g16800, g16801, g16802, g16803, g16804, g16805, g16806, g16807, g16808, g16812, rfl, rfl, hF⟩
     ·refine x_block (by kernel_rfl) ?_
      refine x_seq (by kernel_rfl) ?_
      refine x_region (by kernel_rfl) ?_
      refine w_run 2 [.cells ((cL cPrune_state) x15949.2.2.2.1 ++ [rfv false x15949.1 1 2]), rfb cHeld x15949.1, .cells ((cL cAffidavitref24_State) x15949.2.2.2.2.1 ++ (cL cHeld) x15949.2.2.2.2.2), .room g14185 g14217] rfl (by kernel_rfl) ?_
      refine bind_elim hF (fun y16813 hy16813 hF => w_iaddr cAffidavitlaw24_Act (sz := 3) hy16813 (by kernel_rfl) (by decide) len_cAffidavitlaw24_Act ?_)
      refine w_elem cAffidavitlaw24_Act 0 (t := 33) (v := .agg (cAffidavitlaw24_Act y16813)) (sz := 3) (z := 3) hy16813 (by kernel_rfl) (by kernel_rfl) len_cAffidavitlaw24_Act (by decide) (by decide) ?_
      refine w_run 6 [.cells ((cL cPrune_state) x15949.2.2.2.1 ++ [rfv false x15949.1 1 2]), rfb cHeld x15949.1, .cells ((cL cAffidavitref24_State) x15949.2.2.2.2.1 ++ (cL cHeld) x15949.2.2.2.2.2), .room g14185 g14217, .cells (cAffidavitlaw24_Act y16813)] rfl (by kernel_rfl) ?_
      refine w_end (by kernel_rfl) ?_
      refine then_n ?_
      refine go_same ?_
      refine x_seq (by kernel_rfl) ?_
      refine x_seq (by kernel_rfl) ?_
      refine x_region (by kernel_rfl) ?_
      refine w_run 4 [.cells ((cL cPrune_state) x15949.2.2.2.1 ++ [rfv false x15949.1 1 2]), rfb cHeld x15949.1, .cells ((cL cAffidavitref24_State) x15949.2.2.2.2.1 ++ (cL cHeld) x15949.2.2.2.2.2), .room g14185 g14217, .cells (cAffidavitlaw24_Act y16813)] rfl (by kernel_rfl) ?_
      refine ite_elim hF (fun hc7 hF => ?_) (fun hc7 hF => ?_)
      ·refine w_set 40 (b := true) (by kernel_rfl) hc7 ?_
       refine w_run 8 [.cells ((cL cPrune_state) x15949.2.2.2.1 ++ [rfv false x15949.1 1 2]), rfb cHeld x15949.1, .cells ((cL cAffidavitref24_State) x15949.2.2.2.2.1 ++ (cL cHeld) x15949.2.2.2.2.2), .room g14185 g14217, .cells (cAffidavitlaw24_Act y16813)] rfl (by kernel_rfl) ?_
       refine w_end (by kernel_rfl) ?_
       refine then_n ?_
       refine go_same ?_
       refine x_cond (b0 := true) (by kernel_rfl) (by kernel_rfl) ?_
       refine x_seq (by kernel_rfl) ?_
       refine x_region (by kernel_rfl) ?_
       refine w_run 3 [.cells ((cL cPrune_state) x15949.2.2.2.1 ++ [rfv false x15949.1 1 2]), rfb cHeld x15949.1, .cells ((cL cAffidavitref24_State) x15949.2.2.2.2.1 ++ (cL cHeld) x15949.2.2.2.2.2), .room g14185 g14217, .cells (cAffidavitlaw24_Act y16813)] rfl (by kernel_rfl) ?_
       refine bind_elim hF (fun y16824 hy16824 hF => w_ocall [2] [2] (ga := [.ptr 2 0, .int .i64 y16813.N]) (as0 := [.ptr 0 0, .int .i64 y16813.N]) (h0 := [.cells ((cL cAffidavitref24_State) x15949.2.2.2.2.1 ++ (cL cHeld) x15949.2.2.2.2.2)]) (h1 := [.cells ((cL cAffidavitref24_State) y16824.2.1 ++ (cL cHeld) y16824.2.2)]) (h2 := [.cells ((cL cAffidavitref24_State) y16824.2.1 ++ (cL cHeld) y16824.2.2)]) (H2 := [.cells ((cL cPrune_state) x15949.2.2.2.1 ++ [rfv false x15949.1 1 2]), rfb cHeld x15949.1, .cells ((cL cAffidavitref24_State) y16824.2.1 ++ (cL cHeld) y16824.2.2), .room g14185 g14217, .cells (cAffidavitlaw24_Act y16813)]) (v0 := sl (cI .i64) y16824.1) (v := sl (cI .i64) y16824.1) (r24_Book_Prune_ev hy16824) (by kernel_rfl) (by kernel_rfl) (by kernel_rfl) (by kernel_rfl) (pl (b' := .cells ((cL cAffidavitref24_State) x15949.2.2.2.2.1 ++ (cL cHeld) x15949.2.2.2.2.2)) (by kernel_rfl) (sb_cells (by kernel_rfl) (by kernel_rfl) (tights_app (tights_lows ((low_cL low_cAffidavitref24_State) _)) (tights_lows ((low_cL low_cHeld) _)))) pl_nil) (by kernel_rfl) (tight_sl low_cI) (sbs (sb_cells (by kernel_rfl) (by kernel_rfl) (tights_app (tights_lows ((low_cL low_cAffidavitref24_State) _)) (tights_lows ((low_cL low_cHeld) _)))) sbs_nil) (by kernel_rfl) (fun e => by cases e) ?_)
       refine w_end (by kernel_rfl) ?_
       refine then_n ?_
       refine go_same ?_
       refine x_seq (by kernel_rfl) ?_
       refine x_region (by kernel_rfl) ?_
       refine w_run 3 [.cells ((cL cPrune_state) x15949.2.2.2.1 ++ [rfv false x15949.1 1 2]), rfb cHeld x15949.1, .cells ((cL cAffidavitref24_State) y16824.2.1 ++ (cL cHeld) y16824.2.2), .room g14185 g14217, .cells (cAffidavitlaw24_Act y16813)] rfl (by kernel_rfl) ?_
       refine bind_elim hF (fun y16825 hy16825 hF => w_ocall [0, 1] [0, 1, 5] (ga := [.ptr 0 0, .int .i64 y16813.N]) (as0 := [.ptr 0 0, .int .i64 y16813.N]) (h0 := [.cells ((cL cPrune_state) x15949.2.2.2.1 ++ [rfv false x15949.1 1 2]), rfb cHeld x15949.1]) (h1 := [.cells ((cL cPrune_state) y16825.2.1 ++ [rfv false y16825.2.2 2 2]), .dead, rfb cHeld y16825.2.2]) (h2 := [.cells ((cL cPrune_state) y16825.2.1 ++ [rfv false y16825.2.2 5 2]), .dead, rfb cHeld y16825.2.2]) (H2 := [.cells ((cL cPrune_state) y16825.2.1 ++ [rfv false y16825.2.2 5 2]), .dead, .cells ((cL cAffidavitref24_State) y16824.2.1 ++ (cL cHeld) y16824.2.2), .room g14185 g14217, .cells (cAffidavitlaw24_Act y16813), rfb cHeld y16825.2.2]) (v0 := sl (cI .i64) y16825.1) (v := sl (cI .i64) y16825.1) (prune_Book_Prune_ev hy16825) (by kernel_rfl) (by kernel_rfl) (by kernel_rfl) (by kernel_rfl) (pl (b' := .cells ((cL cPrune_state) x15949.2.2.2.1 ++ [rfv false x15949.1 1 2])) (by kernel_rfl) (sb_cells (by kernel_rfl) (by kernel_rfl) (tights_app (tights_lows ((low_cL low_cPrune_state) _)) (tights_cons rfl rfl))) (pl (b' := rfb cHeld x15949.1) (by kernel_rfl) (sb_low (noref_rfb low_cHeld _)) pl_nil)) (by kernel_rfl) (tight_sl low_cI) (sbs (sb_cells (by kernel_rfl) (by kernel_rfl) (tights_app (tights_lows ((low_cL low_cPrune_state) _)) (tights_cons rfl rfl))) (sbs sb_dead (sbs (sb_low (noref_rfb low_cHeld _)) sbs_nil))) (by kernel_rfl) (fun e => by cases e) ?_)
       refine w_run 5 [.cells ((cL cPrune_state) y16825.2.1 ++ [rfv false y16825.2.2 5 2]), .dead, .cells ((cL cAffidavitref24_State) y16824.2.1 ++ (cL cHeld) y16824.2.2), .room g14185 g14217, .cells (cAffidavitlaw24_Act y16813), rfb cHeld y16825.2.2] rfl (by kernel_rfl) ?_
       refine w_end (by kernel_rfl) ?_
       refine then_n ?_
       refine go_same ?_
       refine x_seq (by kernel_rfl) ?_
       refine x_seq (by kernel_rfl) ?_
       refine x_region (by kernel_rfl) ?_
       refine w_run 2 [.cells ((cL cPrune_state) y16825.2.1 ++ [rfv false y16825.2.2 5 2]), .dead, .cells ((cL cAffidavitref24_State) y16824.2.1 ++ (cL cHeld) y16824.2.2), .room g14185 g14217, .cells (cAffidavitlaw24_Act y16813), rfb cHeld y16825.2.2] rfl (by kernel_rfl) ?_
       refine bind_elim hF (fun y16827 hy16827 hF => w_pcallW (l24_apart_ev hy16827) (by kernel_rfl) (lows_cons (low_sl low_cI) (lows_cons (low_sl low_cI) rfl)) rfl ?_)
       refine w_run 4 [.cells ((cL cPrune_state) y16825.2.1 ++ [rfv false y16825.2.2 5 2]), .dead, .cells ((cL cAffidavitref24_State) y16824.2.1 ++ (cL cHeld) y16824.2.2), .room g14185 g14217, .cells (cAffidavitlaw24_Act y16813), rfb cHeld y16825.2.2] rfl (by kernel_rfl) ?_
       refine w_end (by kernel_rfl) ?_
       refine then_n ?_
       refine go_same ?_
       refine ite_elim hF (fun hc8 hF => ?_) (fun hc8 hF => ?_)
       ·refine x_set 56 (b := false) (by kernel_rfl) (show (!y16827) = false by rw [hc8]; rfl) ?_
        refine x_cond (b0 := false) (by kernel_rfl) (by kernel_rfl) ?_
        refine x_skip (.inl (by kernel_rfl)) ?_
        refine then_n ?_
        refine go_same ?_
        refine x_seq (by kernel_rfl) ?_
        refine x_region (by kernel_rfl) ?_
        refine w_run 2 [.cells ((cL cPrune_state) y16825.2.1 ++ [rfv false y16825.2.2 5 2]), .dead, .cells ((cL cAffidavitref24_State) y16824.2.1 ++ (cL cHeld) y16824.2.2), .room g14185 g14217, .cells (cAffidavitlaw24_Act y16813), rfb cHeld y16825.2.2] rfl (by kernel_rfl) ?_
        refine bind_elim hF (fun y16828 hy16828 hF => w_app (cI .i64) (e := 3) (sz := 1) (l0 := 3) (real := g14217) (ver := g14185) (x := x15949.2.1) (ys := y16825.1.l) hy16828 (by kernel_rfl) (by decide) (gives_sl (x := y16825.1) (by kernel_rfl) (fun _ => rfl)) (room_at (by kernel_rfl)) ?_)
        refine w_run 4 [.cells ((cL cPrune_state) y16825.2.1 ++ [rfv false y16825.2.2 5 2]), .dead, .cells ((cL cAffidavitref24_State) y16824.2.1 ++ (cL cHeld) y16824.2.2), .room (g14185 + 1) (g14217 || !(y16825.1.l.length == 0)), .cells (cAffidavitlaw24_Act y16813), rfb cHeld y16825.2.2] rfl (by kernel_rfl) ?_
        refine w_end (by kernel_rfl) ?_
        refine then_n ?_
        refine go_same ?_
        refine x_exit (by kernel_rfl) ?_
        refine then_e ?_
        refine block_e ?_
        refine then_n ?_
        exact x_to hJ595 (VS.shX [0, 5, 2, 3] 5575186299626959288206745970560730472381826 [9, 64, 70, 73, 74, 85, 86, 89, 90, 93, 94, 95, 96, 97, 98, 102] (by kernel_rfl) (by kernel_rfl) (by kernel_rfl) (by exact ⟨low_junk g14188, low_junk g14199, low_junk g14200, low_junk g14201, low_junk g14202, low_junk g14203, low_junk g14204, low_junk g14205, low_junk g14206, low_junk g14207, low_junk g14208, low_junk g14209, low_junk g14210, low_junk g14211, low_junk g14212, low_junk g14213, trivial⟩) (tights_at [0, 5, 9, 64, 70, 73, 74, 85, 86, 89, 90, 93, 94, 95, 96, 97, 98, 102] (by kernel_rfl) (by exact ⟨(tight_sl low_cAffidavitlaw24_Act), (tight_own low_cI), (tight_junk g14188), (tight_junk g14199), (tight_junk g14200), (tight_junk g14201), (tight_junk g14202), (tight_junk g14203), (tight_junk g14204), (tight_junk g14205), (tight_junk g14206), (tight_junk g14207), (tight_junk g14208), (tight_junk g14209), (tight_junk g14210), (tight_junk g14211), (tight_junk g14212), (tight_junk g14213), trivial⟩)) (shh (b0 := .cells ((cL cPrune_state) y16825.2.1 ++ [rfv false y16825.2.2 5 2])) (by kernel_rfl) (shb_cells (by kernel_rfl) (by kernel_rfl) (tights_app (tights_lows ((low_cL low_cPrune_state) _)) (tights_cons rfl rfl))) (shh (b0 := rfb cHeld y16825.2.2) (by kernel_rfl) (NoRef.shb (noref_rfb low_cHeld _)) (shh (b0 := .cells ((cL cAffidavitref24_State) y16824.2.1 ++ (cL cHeld) y16824.2.2)) (by kernel_rfl) (shb_cells (by kernel_rfl) (by kernel_rfl) (tights_app (tights_lows ((low_cL low_cAffidavitref24_State) _)) (tights_lows ((low_cL low_cHeld) _)))) (shh (b0 := .room (g14185 + 1) (g14217 || !(y16825.1.l.length == 0))) (by kernel_rfl) shb_room shh_nil))))) ⟨y16825.2.2, y16828, y16825.2.1, y16824.2.1, y16824.2.2, (g14185 + 1), g14188, (some (y16813.Kind == 4)), (some true), none, (some true), (some y16827), (some false), g14199, g14200, g14201, g14202, g14203, g14204, g14205, g14206, g14207, g14208, g14209, g14210, g14211, g14212, g14213, (g14217 || !(y16825.1.l.length == 0)), rfl, rfl, hF⟩
       ·refine x_set 56 (b := true) (by kernel_rfl) (show (!y16827) = true by rw [hc8]; rfl) ?_
        refine x_cond (b0 := true) (by kernel_rfl) (by kernel_rfl) ?_
        refine x_seq (by kernel_rfl) ?_
        refine x_region (by kernel_rfl) ?_
        refine w_run 1 [.cells ((cL cPrune_state) y16825.2.1 ++ [rfv false y16825.2.2 5 2]), .dead, .cells ((cL cAffidavitref24_State) y16824.2.1 ++ (cL cHeld) y16824.2.2), .room g14185 g14217, .cells (cAffidavitlaw24_Act y16813), rfb cHeld y16825.2.2] rfl (by kernel_rfl) ?_
        refine w_end (by kernel_rfl) ?_
        refine then_n ?_
        refine go_same ?_
        refine x_ret (by kernel_rfl) ?_
        refine then_r ?_
        refine then_r ?_
        refine block_r ?_
        refine then_r ?_
        refine then_r ?_
        refine block_r ?_
        refine then_r ?_
        have e := Option.some.inj hF
        subst e
        exact fin_end (.inl rfl) (by kernel_rfl) (by kernel_rfl) (Nat.zero_le _) rfl (by kernel_rfl) ⟨rfl, rfl⟩
      ·refine w_set 40 (b := false) (by kernel_rfl) hc7 ?_
       refine w_run 8 [.cells ((cL cPrune_state) x15949.2.2.2.1 ++ [rfv false x15949.1 1 2]), rfb cHeld x15949.1, .cells ((cL cAffidavitref24_State) x15949.2.2.2.2.1 ++ (cL cHeld) x15949.2.2.2.2.2), .room g14185 g14217, .cells (cAffidavitlaw24_Act y16813)] rfl (by kernel_rfl) ?_
       refine w_end (by kernel_rfl) ?_
       refine then_n ?_
       refine go_same ?_
       refine ite_elim hF (fun hc9 hF => ?_) (fun hc9 hF => ?_)
       ·refine x_set 44 (b := true) (by kernel_rfl) hc9 ?_
        refine x_cond (b0 := true) (by kernel_rfl) (by kernel_rfl) ?_
        refine x_seq (by kernel_rfl) ?_
        refine x_region (by kernel_rfl) ?_
        refine w_run 3 [.cells ((cL cPrune_state) x15949.2.2.2.1 ++ [rfv false x15949.1 1 2]), rfb cHeld x15949.1, .cells ((cL cAffidavitref24_State) x15949.2.2.2.2.1 ++ (cL cHeld) x15949.2.2.2.2.2), .room g14185 g14217, .cells (cAffidavitlaw24_Act y16813)] rfl (by kernel_rfl) ?_
        refine bind_elim hF (fun y16829 hy16829 hF => w_ocall [2] [2] (ga := [.ptr 2 0, .int .i64 y16813.N]) (as0 := [.ptr 0 0, .int .i64 y16813.N]) (h0 := [.cells ((cL cAffidavitref24_State) x15949.2.2.2.2.1 ++ (cL cHeld) x15949.2.2.2.2.2)]) (h1 := [.cells ((cL cAffidavitref24_State) y16829.2.1 ++ (cL cHeld) y16829.2.2)]) (h2 := [.cells ((cL cAffidavitref24_State) y16829.2.1 ++ (cL cHeld) y16829.2.2)]) (H2 := [.cells ((cL cPrune_state) x15949.2.2.2.1 ++ [rfv false x15949.1 1 2]), rfb cHeld x15949.1, .cells ((cL cAffidavitref24_State) y16829.2.1 ++ (cL cHeld) y16829.2.2), .room g14185 g14217, .cells (cAffidavitlaw24_Act y16813)]) (v0 := sl (cI .i64) y16829.1) (v := sl (cI .i64) y16829.1) (r24_Book_Prune_ev hy16829) (by kernel_rfl) (by kernel_rfl) (by kernel_rfl) (by kernel_rfl) (pl (b' := .cells ((cL cAffidavitref24_State) x15949.2.2.2.2.1 ++ (cL cHeld) x15949.2.2.2.2.2)) (by kernel_rfl) (sb_cells (by kernel_rfl) (by kernel_rfl) (tights_app (tights_lows ((low_cL low_cAffidavitref24_State) _)) (tights_lows ((low_cL low_cHeld) _)))) pl_nil) (by kernel_rfl) (tight_sl low_cI) (sbs (sb_cells (by kernel_rfl) (by kernel_rfl) (tights_app (tights_lows ((low_cL low_cAffidavitref24_State) _)) (tights_lows ((low_cL low_cHeld) _)))) sbs_nil) (by kernel_rfl) (fun e => by cases e) ?_)
        refine w_end (by kernel_rfl) ?_
        refine then_n ?_
        refine go_same ?_
        refine x_seq (by kernel_rfl) ?_
        refine x_region (by kernel_rfl) ?_
        refine w_run 3 [.cells ((cL cPrune_state) x15949.2.2.2.1 ++ [rfv false x15949.1 1 2]), rfb cHeld x15949.1, .cells ((cL cAffidavitref24_State) y16829.2.1 ++ (cL cHeld) y16829.2.2), .room g14185 g14217, .cells (cAffidavitlaw24_Act y16813)] rfl (by kernel_rfl) ?_
        refine bind_elim hF (fun y16830 hy16830 hF => w_ocall [0, 1] [0, 1, 5] (ga := [.ptr 0 0, .int .i64 y16813.N]) (as0 := [.ptr 0 0, .int .i64 y16813.N]) (h0 := [.cells ((cL cPrune_state) x15949.2.2.2.1 ++ [rfv false x15949.1 1 2]), rfb cHeld x15949.1]) (h1 := [.cells ((cL cPrune_state) y16830.2.1 ++ [rfv false y16830.2.2 2 2]), .dead, rfb cHeld y16830.2.2]) (h2 := [.cells ((cL cPrune_state) y16830.2.1 ++ [rfv false y16830.2.2 5 2]), .dead, rfb cHeld y16830.2.2]) (H2 := [.cells ((cL cPrune_state) y16830.2.1 ++ [rfv false y16830.2.2 5 2]), .dead, .cells ((cL cAffidavitref24_State) y16829.2.1 ++ (cL cHeld) y16829.2.2), .room g14185 g14217, .cells (cAffidavitlaw24_Act y16813), rfb cHeld y16830.2.2]) (v0 := sl (cI .i64) y16830.1) (v := sl (cI .i64) y16830.1) (prune_Book_Prune_ev hy16830) (by kernel_rfl) (by kernel_rfl) (by kernel_rfl) (by kernel_rfl) (pl (b' := .cells ((cL cPrune_state) x15949.2.2.2.1 ++ [rfv false x15949.1 1 2])) (by kernel_rfl) (sb_cells (by kernel_rfl) (by kernel_rfl) (tights_app (tights_lows ((low_cL low_cPrune_state) _)) (tights_cons rfl rfl))) (pl (b' := rfb cHeld x15949.1) (by kernel_rfl) (sb_low (noref_rfb low_cHeld _)) pl_nil)) (by kernel_rfl) (tight_sl low_cI) (sbs (sb_cells (by kernel_rfl) (by kernel_rfl) (tights_app (tights_lows ((low_cL low_cPrune_state) _)) (tights_cons rfl rfl))) (sbs sb_dead (sbs (sb_low (noref_rfb low_cHeld _)) sbs_nil))) (by kernel_rfl) (fun e => by cases e) ?_)
        refine w_run 5 [.cells ((cL cPrune_state) y16830.2.1 ++ [rfv false y16830.2.2 5 2]), .dead, .cells ((cL cAffidavitref24_State) y16829.2.1 ++ (cL cHeld) y16829.2.2), .room g14185 g14217, .cells (cAffidavitlaw24_Act y16813), rfb cHeld y16830.2.2] rfl (by kernel_rfl) ?_
        refine w_end (by kernel_rfl) ?_
        refine then_n ?_
        refine go_same ?_
        refine x_seq (by kernel_rfl) ?_
        refine x_seq (by kernel_rfl) ?_
        refine x_region (by kernel_rfl) ?_
        refine w_run 2 [.cells ((cL cPrune_state) y16830.2.1 ++ [rfv false y16830.2.2 5 2]), .dead, .cells ((cL cAffidavitref24_State) y16829.2.1 ++ (cL cHeld) y16829.2.2), .room g14185 g14217, .cells (cAffidavitlaw24_Act y16813), rfb cHeld y16830.2.2] rfl (by kernel_rfl) ?_
        refine bind_elim hF (fun y16832 hy16832 hF => w_pcallW (l24_apart_ev hy16832) (by kernel_rfl) (lows_cons (low_sl low_cI) (lows_cons (low_sl low_cI) rfl)) rfl ?_)
        refine w_run 4 [.cells ((cL cPrune_state) y16830.2.1 ++ [rfv false y16830.2.2 5 2]), .dead, .cells ((cL cAffidavitref24_State) y16829.2.1 ++ (cL cHeld) y16829.2.2), .room g14185 g14217, .cells (cAffidavitlaw24_Act y16813), rfb cHeld y16830.2.2] rfl (by kernel_rfl) ?_
        refine w_end (by kernel_rfl) ?_
        refine then_n ?_
        refine go_same ?_
        refine ite_elim hF (fun hc10 hF => ?_) (fun hc10 hF => ?_)
        ·refine x_set 56 (b := false) (by kernel_rfl) (show (!y16832) = false by rw [hc10]; rfl) ?_
         refine x_cond (b0 := false) (by kernel_rfl) (by kernel_rfl) ?_
         refine x_skip (.inl (by kernel_rfl)) ?_
         refine then_n ?_
         refine go_same ?_
         refine x_seq (by kernel_rfl) ?_
         refine x_region (by kernel_rfl) ?_
         refine w_run 2 [.cells ((cL cPrune_state) y16830.2.1 ++ [rfv false y16830.2.2 5 2]), .dead, .cells ((cL cAffidavitref24_State) y16829.2.1 ++ (cL cHeld) y16829.2.2), .room g14185 g14217, .cells (cAffidavitlaw24_Act y16813), rfb cHeld y16830.2.2] rfl (by kernel_rfl) ?_
         refine bind_elim hF (fun y16833 hy16833 hF => w_app (cI .i64) (e := 3) (sz := 1) (l0 := 3) (real := g14217) (ver := g14185) (x := x15949.2.1) (ys := y16830.1.l) hy16833 (by kernel_rfl) (by decide) (gives_sl (x := y16830.1) (by kernel_rfl) (fun _ => rfl)) (room_at (by kernel_rfl)) ?_)
         refine w_run 4 [.cells ((cL cPrune_state) y16830.2.1 ++ [rfv false y16830.2.2 5 2]), .dead, .cells ((cL cAffidavitref24_State) y16829.2.1 ++ (cL cHeld) y16829.2.2), .room (g14185 + 1) (g14217 || !(y16830.1.l.length == 0)), .cells (cAffidavitlaw24_Act y16813), rfb cHeld y16830.2.2] rfl (by kernel_rfl) ?_
         refine w_end (by kernel_rfl) ?_
         refine then_n ?_
         refine go_same ?_
         refine x_exit (by kernel_rfl) ?_
         refine then_e ?_
         refine block_e ?_
         refine then_n ?_
         exact x_to hJ595 (VS.shX [0, 5, 2, 3] 5575186299626959288206745970560730472381826 [9, 64, 70, 73, 74, 85, 86, 89, 90, 93, 94, 95, 96, 97, 98, 102] (by kernel_rfl) (by kernel_rfl) (by kernel_rfl) (by exact ⟨low_junk g14188, low_junk g14199, low_junk g14200, low_junk g14201, low_junk g14202, low_junk g14203, low_junk g14204, low_junk g14205, low_junk g14206, low_junk g14207, low_junk g14208, low_junk g14209, low_junk g14210, low_junk g14211, low_junk g14212, low_junk g14213, trivial⟩) (tights_at [0, 5, 9, 64, 70, 73, 74, 85, 86, 89, 90, 93, 94, 95, 96, 97, 98, 102] (by kernel_rfl) (by exact ⟨(tight_sl low_cAffidavitlaw24_Act), (tight_own low_cI), (tight_junk g14188), (tight_junk g14199), (tight_junk g14200), (tight_junk g14201), (tight_junk g14202), (tight_junk g14203), (tight_junk g14204), (tight_junk g14205), (tight_junk g14206), (tight_junk g14207), (tight_junk g14208), (tight_junk g14209), (tight_junk g14210), (tight_junk g14211), (tight_junk g14212), (tight_junk g14213), trivial⟩)) (shh (b0 := .cells ((cL cPrune_state) y16830.2.1 ++ [rfv false y16830.2.2 5 2])) (by kernel_rfl) (shb_cells (by kernel_rfl) (by kernel_rfl) (tights_app (tights_lows ((low_cL low_cPrune_state) _)) (tights_cons rfl rfl))) (shh (b0 := rfb cHeld y16830.2.2) (by kernel_rfl) (NoRef.shb (noref_rfb low_cHeld _)) (shh (b0 := .cells ((cL cAffidavitref24_State) y16829.2.1 ++ (cL cHeld) y16829.2.2)) (by kernel_rfl) (shb_cells (by kernel_rfl) (by kernel_rfl) (tights_app (tights_lows ((low_cL low_cAffidavitref24_State) _)) (tights_lows ((low_cL low_cHeld) _)))) (shh (b0 := .room (g14185 + 1) (g14217 || !(y16830.1.l.length == 0))) (by kernel_rfl) shb_room shh_nil))))) ⟨y16830.2.2, y16833, y16830.2.1, y16829.2.1, y16829.2.2, (g14185 + 1), g14188, (some (y16813.Kind == 4)), (some false), (some (y16813.Kind == 5)), (some true), (some y16832), (some false), g14199, g14200, g14201, g14202, g14203, g14204, g14205, g14206, g14207, g14208, g14209, g14210, g14211, g14212, g14213, (g14217 || !(y16830.1.l.length == 0)), rfl, rfl, hF⟩
        ·refine x_set 56 (b := true) (by kernel_rfl) (show (!y16832) = true by rw [hc10]; rfl) ?_
         refine x_cond (b0 := true) (by kernel_rfl) (by kernel_rfl) ?_
         refine x_seq (by kernel_rfl) ?_
         refine x_region (by kernel_rfl) ?_
         refine w_run 1 [.cells ((cL cPrune_state) y16830.2.1 ++ [rfv false y16830.2.2 5 2]), .dead, .cells ((cL cAffidavitref24_State) y16829.2.1 ++ (cL cHeld) y16829.2.2), .room g14185 g14217, .cells (cAffidavitlaw24_Act y16813), rfb cHeld y16830.2.2] rfl (by kernel_rfl) ?_
         refine w_end (by kernel_rfl) ?_
         refine then_n ?_
         refine go_same ?_
         refine x_ret (by kernel_rfl) ?_
         refine then_r ?_
         refine then_r ?_
         refine block_r ?_
         refine then_r ?_
         refine then_r ?_
         refine block_r ?_
         refine then_r ?_
         have e := Option.some.inj hF
         subst e
         exact fin_end (.inl rfl) (by kernel_rfl) (by kernel_rfl) (Nat.zero_le _) rfl (by kernel_rfl) ⟨rfl, rfl⟩
       ·refine x_set 44 (b := false) (by kernel_rfl) hc9 ?_
        refine x_cond (b0 := false) (by kernel_rfl) (by kernel_rfl) ?_
        refine x_skip (.inl (by kernel_rfl)) ?_
        refine then_n ?_
        refine go_same ?_
        refine x_seq (by kernel_rfl) ?_
        refine x_region (by kernel_rfl) ?_
        refine w_run 1 [.cells ((cL cPrune_state) x15949.2.2.2.1 ++ [rfv false x15949.1 1 2]), rfb cHeld x15949.1, .cells ((cL cAffidavitref24_State) x15949.2.2.2.2.1 ++ (cL cHeld) x15949.2.2.2.2.2), .room g14185 g14217, .cells (cAffidavitlaw24_Act y16813)] rfl (by kernel_rfl) ?_
        refine w_end (by kernel_rfl) ?_
        refine then_n ?_
        refine go_same ?_
        refine x_join (fun fr H => ∃ (p17236 : Bool) (g17237 : Option Bool) (g17238 : Option Bool) (g17239 : Option Bool) (g17240 : Option Bool) (g17241 : Option Bool), fr = [sl cAffidavitlaw24_Act a0, .any, .bool false, .ptr 0 0, .ptr 2 0, ownv (cI .i64) 3 g14185 1 x15949.2.1, .int .i64 x15949.2.2.1, .ptr 4 0, .any, .bool p17236, .any, .any, .any, .any, .any, .any, .any, .any, .bool false, .bool false, .bool y3738, .bool (!y3738), .bool false, .any, .any, .any, .bool (iLt x15949.2.2.1 (a0.l.length : Int)), .bool true, .any, .bool (iLt x15949.2.2.1 30), .bool true, .any, .any, .any, .any, .any, .any, .any, .any, .bool (y16813.Kind == 4), .bool false, .any, .any, .bool (y16813.Kind == 5), .bool false, .any, .any, .any, .any, .any, .any, .any, .any, .any, .any, junkB g14197, junkB g14198, .any, .any, .any, .any, .any, .any, .any, .bool false, .any, .any, .any, .any, .any, junkB g17237, .any, .any, junkB g17238, junkB g17239, .any, .any, .any, .any, .any, .any, .any, .any, .any, .any, junkB g17240, junkB g17241, .any, .any, junkB g14205, junkB g14206, .any, .any, junkB g14207, junkB g14208, junkB g14209, junkB g14210, junkB g14211, junkB g14212, .any, .any, .any, junkB g14213, .any, .any, .any, .any, .any, .any, .any, .any, .any, .any, .any, .any, .any, .any, .any, .any, .any, .any, .any, .any, .any, .any, .any, .any, .any, .any, .any, .any, .any, .any, .any, .any, .any, .any, .any, .any, .any, .any, .any] ∧ H = [.cells ((cL cPrune_state) x15949.2.2.2.1 ++ [rfv false x15949.1 1 2]), rfb cHeld x15949.1, .cells ((cL cAffidavitref24_State) x15949.2.2.2.2.1 ++ (cL cHeld) x15949.2.2.2.2.2), .room g14185 g14217, .cells (cAffidavitlaw24_Act y16813)] ∧ l24_PruneOnce_J615 (loopN (l24_PruneOnce_B15949 a0) d15949) x15949 y16813 p17236 = some r) (by kernel_rfl) (fun fr H ⟨p17236, g17237, g17238, g17239, g17240, g17241, e1, e2, hF⟩ => ?_) (fun hJ615 => ?_)
        ·subst e1 e2
         refine x_seq (by kernel_rfl) ?_
         refine x_region (by kernel_rfl) ?_
         refine w_run 2 [.cells ((cL cPrune_state) x15949.2.2.2.1 ++ [rfv false x15949.1 1 2]), rfb cHeld x15949.1, .cells ((cL cAffidavitref24_State) x15949.2.2.2.2.1 ++ (cL cHeld) x15949.2.2.2.2.2), .room g14185 g14217, .cells (cAffidavitlaw24_Act y16813)] rfl (by kernel_rfl) ?_
         refine bind_elim hF (fun y17243 hy17243 hF => w_pcallW (l24_few_ev hy17243) (by kernel_rfl) (lows_cons (low_sl low_cHeld) rfl) rfl ?_)
         refine w_run 4 [.cells ((cL cPrune_state) x15949.2.2.2.1 ++ [rfv false x15949.1 1 2]), rfb cHeld x15949.1, .cells ((cL cAffidavitref24_State) x15949.2.2.2.2.1 ++ (cL cHeld) x15949.2.2.2.2.2), .room g14185 g14217, .cells (cAffidavitlaw24_Act y16813)] rfl (by kernel_rfl) ?_
         refine ite_elim hF (fun hc11 hF => ?_) (fun hc11 hF => ?_)
         ·refine w_set 90 (b := true) (by kernel_rfl) hc11 ?_
          refine w_run 9 [.cells ((cL cPrune_state) x15949.2.2.2.1 ++ [rfv false x15949.1 1 2]), rfb cHeld x15949.1, .cells ((cL cAffidavitref24_State) x15949.2.2.2.2.1 ++ (cL cHeld) x15949.2.2.2.2.2), .room g14185 g14217, .cells (cAffidavitlaw24_Act y16813)] rfl (by kernel_rfl) ?_
          refine ite_elim hF (fun hc12 hF => ?_) (fun hc12 hF => ?_)
          ·refine w_set 95 (b := true) (by kernel_rfl) hc12 ?_
           refine w_run 12 [.cells ((cL cPrune_state) x15949.2.2.2.1 ++ [rfv false x15949.1 1 2]), rfb cHeld x15949.1, .cells ((cL cAffidavitref24_State) x15949.2.2.2.2.1 ++ (cL cHeld) x15949.2.2.2.2.2), .room g14185 g14217, .cells (cAffidavitlaw24_Act y16813)] rfl (by kernel_rfl) ?_
           refine w_end (by kernel_rfl) ?_
           refine then_n ?_
           refine go_same ?_
           refine ite_elim hF (fun hc13 hF => ?_) (fun hc13 hF => ?_)
           ·refine x_set 98 (b := false) (by kernel_rfl) (show (!p17236) = false by rw [hc13]; rfl) ?_
            refine x_cond (b0 := false) (by kernel_rfl) (by kernel_rfl) ?_
            refine x_skip (.inl (by kernel_rfl)) ?_
            refine block_n ?_
            refine then_n ?_
            exact x_to hJ595 (VS.shX [0, 1, 2, 3] 5575186299627585066896623068947374632337282 [55, 56, 70, 73, 74, 85, 86, 102] (by kernel_rfl) (by kernel_rfl) (by kernel_rfl) (by exact ⟨low_junk g14197, low_junk g14198, low_junk g17237, low_junk g17238, low_junk g17239, low_junk g17240, low_junk g17241, low_junk g14213, trivial⟩) (tights_at [0, 5, 55, 56, 70, 73, 74, 85, 86, 102] (by kernel_rfl) (by exact ⟨(tight_sl low_cAffidavitlaw24_Act), (tight_own low_cI), (tight_junk g14197), (tight_junk g14198), (tight_junk g17237), (tight_junk g17238), (tight_junk g17239), (tight_junk g17240), (tight_junk g17241), (tight_junk g14213), trivial⟩)) (shh (b0 := .cells ((cL cPrune_state) x15949.2.2.2.1 ++ [rfv false x15949.1 1 2])) (by kernel_rfl) (shb_cells (by kernel_rfl) (by kernel_rfl) (tights_app (tights_lows ((low_cL low_cPrune_state) _)) (tights_cons rfl rfl))) (shh (b0 := rfb cHeld x15949.1) (by kernel_rfl) (NoRef.shb (noref_rfb low_cHeld _)) (shh (b0 := .cells ((cL cAffidavitref24_State) x15949.2.2.2.2.1 ++ (cL cHeld) x15949.2.2.2.2.2)) (by kernel_rfl) (shb_cells (by kernel_rfl) (by kernel_rfl) (tights_app (tights_lows ((low_cL low_cAffidavitref24_State) _)) (tights_lows ((low_cL low_cHeld) _)))) (shh (b0 := .room g14185 g14217) (by kernel_rfl) shb_room shh_nil))))) ⟨x15949.1, x15949.2.1, x15949.2.2.2.1, x15949.2.2.2.2.1, x15949.2.2.2.2.2, g14185, (some p17236), (some (y16813.Kind == 4)), (some false), (some (y16813.Kind == 5)), (some false), g14197, g14198, (some false), g17237, g17238, g17239, g17240, g17241, (some y17243), (some true), (some (y16813.Kind != 6)), (some (y16813.Kind != 6)), (some true), (some p17236), (some (!p17236)), (some false), g14213, g14217, rfl, rfl, hF⟩
           ·refine x_set 98 (b := true) (by kernel_rfl) (show (!p17236) = true by rw [hc13]; rfl) ?_
            refine x_cond (b0 := true) (by kernel_rfl) (by kernel_rfl) ?_
            refine x_region (by kernel_rfl) ?_
            refine w_run 3 [.cells ((cL cPrune_state) x15949.2.2.2.1 ++ [rfv false x15949.1 1 2]), rfb cHeld x15949.1, .cells ((cL cAffidavitref24_State) x15949.2.2.2.2.1 ++ (cL cHeld) x15949.2.2.2.2.2), .room g14185 g14217, .cells (cAffidavitlaw24_Act y16813)] rfl (by kernel_rfl) ?_
            refine bind_elim hF (fun y17244 hy17244 hF => w_ocall [0, 1, 2] [0, 1, 2, 5] (ga := [.ptr 0 0, .ptr 2 0, .agg (cAffidavitlaw24_Act y16813)]) (as0 := [.ptr 0 0, .ptr 2 0, .agg (cAffidavitlaw24_Act y16813)]) (h0 := [.cells ((cL cPrune_state) x15949.2.2.2.1 ++ [rfv false x15949.1 1 2]), rfb cHeld x15949.1, .cells ((cL cAffidavitref24_State) x15949.2.2.2.2.1 ++ (cL cHeld) x15949.2.2.2.2.2)]) (h1 := [.cells ((cL cPrune_state) y17244.2.1 ++ [rfv false y17244.2.2.2.2 3 2]), .dead, .cells ((cL cAffidavitref24_State) y17244.2.2.1 ++ (cL cHeld) y17244.2.2.2.1), rfb cHeld y17244.2.2.2.2]) (h2 := [.cells ((cL cPrune_state) y17244.2.1 ++ [rfv false y17244.2.2.2.2 5 2]), .dead, .cells ((cL cAffidavitref24_State) y17244.2.2.1 ++ (cL cHeld) y17244.2.2.2.1), rfb cHeld y17244.2.2.2.2]) (H2 := [.cells ((cL cPrune_state) y17244.2.1 ++ [rfv false y17244.2.2.2.2 5 2]), .dead, .cells ((cL cAffidavitref24_State) y17244.2.2.1 ++ (cL cHeld) y17244.2.2.2.1), .room g14185 g14217, .cells (cAffidavitlaw24_Act y16813), rfb cHeld y17244.2.2.2.2]) (v0 := .bool y17244.1) (v := .bool y17244.1) (l24_do_ev hy17244) (by kernel_rfl) (by kernel_rfl) (by kernel_rfl) (tights_cons rfl (tights_cons rfl (tights_cons (tight_agg (tights_lows (low_cAffidavitlaw24_Act _))) rfl))) (pl (b' := .cells ((cL cPrune_state) x15949.2.2.2.1 ++ [rfv false x15949.1 1 2])) (by kernel_rfl) (sb_cells (by kernel_rfl) (by kernel_rfl) (tights_app (tights_lows ((low_cL low_cPrune_state) _)) (tights_cons rfl rfl))) (pl (b' := rfb cHeld x15949.1) (by kernel_rfl) (sb_low (noref_rfb low_cHeld _)) (pl (b' := .cells ((cL cAffidavitref24_State) x15949.2.2.2.2.1 ++ (cL cHeld) x15949.2.2.2.2.2)) (by kernel_rfl) (sb_cells (by kernel_rfl) (by kernel_rfl) (tights_app (tights_lows ((low_cL low_cAffidavitref24_State) _)) (tights_lows ((low_cL low_cHeld) _)))) pl_nil))) (by kernel_rfl) rfl (sbs (sb_cells (by kernel_rfl) (by kernel_rfl) (tights_app (tights_lows ((low_cL low_cPrune_state) _)) (tights_cons rfl rfl))) (sbs sb_dead (sbs (sb_cells (by kernel_rfl) (by kernel_rfl) (tights_app (tights_lows ((low_cL low_cAffidavitref24_State) _)) (tights_lows ((low_cL low_cHeld) _)))) (sbs (sb_low (noref_rfb low_cHeld _)) sbs_nil)))) (by kernel_rfl) (fun e => by cases e) ?_)
            refine w_end (by kernel_rfl) ?_
            refine block_n ?_
            refine then_n ?_
            exact x_to hJ595 (VS.shX [0, 5, 2, 3] 5575186299632655669297535986553361445158786 [55, 56, 70, 73, 74, 85, 86] (by kernel_rfl) (by kernel_rfl) (by kernel_rfl) (by exact ⟨low_junk g14197, low_junk g14198, low_junk g17237, low_junk g17238, low_junk g17239, low_junk g17240, low_junk g17241, trivial⟩) (tights_at [0, 5, 55, 56, 70, 73, 74, 85, 86] (by kernel_rfl) (by exact ⟨(tight_sl low_cAffidavitlaw24_Act), (tight_own low_cI), (tight_junk g14197), (tight_junk g14198), (tight_junk g17237), (tight_junk g17238), (tight_junk g17239), (tight_junk g17240), (tight_junk g17241), trivial⟩)) (shh (b0 := .cells ((cL cPrune_state) y17244.2.1 ++ [rfv false y17244.2.2.2.2 5 2])) (by kernel_rfl) (shb_cells (by kernel_rfl) (by kernel_rfl) (tights_app (tights_lows ((low_cL low_cPrune_state) _)) (tights_cons rfl rfl))) (shh (b0 := rfb cHeld y17244.2.2.2.2) (by kernel_rfl) (NoRef.shb (noref_rfb low_cHeld _)) (shh (b0 := .cells ((cL cAffidavitref24_State) y17244.2.2.1 ++ (cL cHeld) y17244.2.2.2.1)) (by kernel_rfl) (shb_cells (by kernel_rfl) (by kernel_rfl) (tights_app (tights_lows ((low_cL low_cAffidavitref24_State) _)) (tights_lows ((low_cL low_cHeld) _)))) (shh (b0 := .room g14185 g14217) (by kernel_rfl) shb_room shh_nil))))) ⟨y17244.2.2.2.2, x15949.2.1, y17244.2.1, y17244.2.2.1, y17244.2.2.2.1, g14185, (some p17236), (some (y16813.Kind == 4)), (some false), (some (y16813.Kind == 5)), (some false), g14197, g14198, (some false), g17237, g17238, g17239, g17240, g17241, (some y17243), (some true), (some (y16813.Kind != 6)), (some (y16813.Kind != 6)), (some true), (some p17236), (some (!p17236)), (some true), (some y17244.1), g14217, rfl, rfl, hF⟩
          ·refine w_set 95 (b := false) (by kernel_rfl) hc12 ?_
           refine w_run 12 [.cells ((cL cPrune_state) x15949.2.2.2.1 ++ [rfv false x15949.1 1 2]), rfb cHeld x15949.1, .cells ((cL cAffidavitref24_State) x15949.2.2.2.2.1 ++ (cL cHeld) x15949.2.2.2.2.2), .room g14185 g14217, .cells (cAffidavitlaw24_Act y16813)] rfl (by kernel_rfl) ?_
           refine w_end (by kernel_rfl) ?_
           refine then_n ?_
           refine go_same ?_
           refine x_cond (b0 := false) (by kernel_rfl) (by kernel_rfl) ?_
           refine x_skip (.inl (by kernel_rfl)) ?_
           refine block_n ?_
           refine then_n ?_
           exact x_to hJ595 (VS.shX [0, 1, 2, 3] 5575186299627585066896623068947374632337282 [55, 56, 70, 73, 74, 85, 86, 102] (by kernel_rfl) (by kernel_rfl) (by kernel_rfl) (by exact ⟨low_junk g14197, low_junk g14198, low_junk g17237, low_junk g17238, low_junk g17239, low_junk g17240, low_junk g17241, low_junk g14213, trivial⟩) (tights_at [0, 5, 55, 56, 70, 73, 74, 85, 86, 102] (by kernel_rfl) (by exact ⟨(tight_sl low_cAffidavitlaw24_Act), (tight_own low_cI), (tight_junk g14197), (tight_junk g14198), (tight_junk g17237), (tight_junk g17238), (tight_junk g17239), (tight_junk g17240), (tight_junk g17241), (tight_junk g14213), trivial⟩)) (shh (b0 := .cells ((cL cPrune_state) x15949.2.2.2.1 ++ [rfv false x15949.1 1 2])) (by kernel_rfl) (shb_cells (by kernel_rfl) (by kernel_rfl) (tights_app (tights_lows ((low_cL low_cPrune_state) _)) (tights_cons rfl rfl))) (shh (b0 := rfb cHeld x15949.1) (by kernel_rfl) (NoRef.shb (noref_rfb low_cHeld _)) (shh (b0 := .cells ((cL cAffidavitref24_State) x15949.2.2.2.2.1 ++ (cL cHeld) x15949.2.2.2.2.2)) (by kernel_rfl) (shb_cells (by kernel_rfl) (by kernel_rfl) (tights_app (tights_lows ((low_cL low_cAffidavitref24_State) _)) (tights_lows ((low_cL low_cHeld) _)))) (shh (b0 := .room g14185 g14217) (by kernel_rfl) shb_room shh_nil))))) ⟨x15949.1, x15949.2.1, x15949.2.2.2.1, x15949.2.2.2.2.1, x15949.2.2.2.2.2, g14185, (some p17236), (some (y16813.Kind == 4)), (some false), (some (y16813.Kind == 5)), (some false), g14197, g14198, (some false), g17237, g17238, g17239, g17240, g17241, (some y17243), (some true), (some (y16813.Kind != 6)), (some (y16813.Kind != 6)), (some false), none, none, (some false), g14213, g14217, rfl, rfl, hF⟩
         ·refine w_set 90 (b := false) (by kernel_rfl) hc11 ?_
          refine w_run 12 [.cells ((cL cPrune_state) x15949.2.2.2.1 ++ [rfv false x15949.1 1 2]), rfb cHeld x15949.1, .cells ((cL cAffidavitref24_State) x15949.2.2.2.2.1 ++ (cL cHeld) x15949.2.2.2.2.2), .room g14185 g14217, .cells (cAffidavitlaw24_Act y16813)] rfl (by kernel_rfl) ?_
          refine w_end (by kernel_rfl) ?_
          refine then_n ?_
          refine go_same ?_
          refine x_cond (b0 := false) (by kernel_rfl) (by kernel_rfl) ?_
          refine x_skip (.inl (by kernel_rfl)) ?_
          refine block_n ?_
          refine then_n ?_
          exact x_to hJ595 (VS.shX [0, 1, 2, 3] 5575186299627585066896623068947374632337282 [55, 56, 70, 73, 74, 85, 86, 102] (by kernel_rfl) (by kernel_rfl) (by kernel_rfl) (by exact ⟨low_junk g14197, low_junk g14198, low_junk g17237, low_junk g17238, low_junk g17239, low_junk g17240, low_junk g17241, low_junk g14213, trivial⟩) (tights_at [0, 5, 55, 56, 70, 73, 74, 85, 86, 102] (by kernel_rfl) (by exact ⟨(tight_sl low_cAffidavitlaw24_Act), (tight_own low_cI), (tight_junk g14197), (tight_junk g14198), (tight_junk g17237), (tight_junk g17238), (tight_junk g17239), (tight_junk g17240), (tight_junk g17241), (tight_junk g14213), trivial⟩)) (shh (b0 := .cells ((cL cPrune_state) x15949.2.2.2.1 ++ [rfv false x15949.1 1 2])) (by kernel_rfl) (shb_cells (by kernel_rfl) (by kernel_rfl) (tights_app (tights_lows ((low_cL low_cPrune_state) _)) (tights_cons rfl rfl))) (shh (b0 := rfb cHeld x15949.1) (by kernel_rfl) (NoRef.shb (noref_rfb low_cHeld _)) (shh (b0 := .cells ((cL cAffidavitref24_State) x15949.2.2.2.2.1 ++ (cL cHeld) x15949.2.2.2.2.2)) (by kernel_rfl) (shb_cells (by kernel_rfl) (by kernel_rfl) (tights_app (tights_lows ((low_cL low_cAffidavitref24_State) _)) (tights_lows ((low_cL low_cHeld) _)))) (shh (b0 := .room g14185 g14217) (by kernel_rfl) shb_room shh_nil))))) ⟨x15949.1, x15949.2.1, x15949.2.2.2.1, x15949.2.2.2.2.1, x15949.2.2.2.2.2, g14185, (some p17236), (some (y16813.Kind == 4)), (some false), (some (y16813.Kind == 5)), (some false), g14197, g14198, (some false), g17237, g17238, g17239, g17240, g17241, (some y17243), (some false), none, (some false), (some false), none, none, (some false), g14213, g14217, rfl, rfl, hF⟩
        ·refine x_seq (by kernel_rfl) ?_
         refine x_region (by kernel_rfl) ?_
         refine w_run 1 [.cells ((cL cPrune_state) x15949.2.2.2.1 ++ [rfv false x15949.1 1 2]), rfb cHeld x15949.1, .cells ((cL cAffidavitref24_State) x15949.2.2.2.2.1 ++ (cL cHeld) x15949.2.2.2.2.2), .room g14185 g14217, .cells (cAffidavitlaw24_Act y16813)] rfl (by kernel_rfl) ?_
         refine w_end (by kernel_rfl) ?_
         refine then_n ?_
         refine go_same ?_
         refine x_block (by kernel_rfl) ?_
         refine x_loop (fun d fr H => ∃ (x17515 : Bool × Int) (g17370 : Option Bool) (g17371 : Option Bool) (g17372 : Option Bool) (g17373 : Option Bool) (g17374 : Option Bool) (g17375 : Option Bool), fr = [sl cAffidavitlaw24_Act a0, .any, .bool false, .ptr 0 0, .ptr 2 0, ownv (cI .i64) 3 g14185 1 x15949.2.1, .int .i64 x15949.2.2.1, .ptr 4 0, .any, .bool x17515.1, .int .i64 x17515.2, .any, .any, .any, .any, .any, .any, .any, .bool false, .bool false, .bool y3738, .bool (!y3738), .bool false, .any, .any, .any, .bool (iLt x15949.2.2.1 (a0.l.length : Int)), .bool true, .any, .bool (iLt x15949.2.2.1 30), .bool true, .any, .any, .any, .any, .any, .any, .any, .any, .bool (y16813.Kind == 4), .bool false, .any, .any, .bool (y16813.Kind == 5), .bool false, .any, .any, .any, .any, .any, .any, .any, .any, .any, .any, junkB g14197, junkB g14198, .any, .any, .any, .any, .any, .any, .any, junkB g17370, .any, .any, .any, .any, .any, junkB g17371, .any, .any, junkB g17372, junkB g17373, .any, .any, .any, .any, .any, .any, .any, .any, .any, .any, junkB g17374, junkB g17375, .any, .any, junkB g14205, junkB g14206, .any, .any, junkB g14207, junkB g14208, junkB g14209, junkB g14210, junkB g14211, junkB g14212, .any, .any, .any, junkB g14213, .any, .any, .any, .any, .any, .any, .any, .any, .any, .any, .any, .any, .any, .any, .any, .any, .any, .any, .any, .any, .any, .any, .any, .any, .any, .any, .any, .any, .any, .any, .any, .any, .any, .any, .any, .any, .any, .any, .any] ∧ H = [.cells ((cL cPrune_state) x15949.2.2.2.1 ++ [rfv false x15949.1 1 2]), rfb cHeld x15949.1, .cells ((cL cAffidavitref24_State) x15949.2.2.2.2.1 ++ (cL cHeld) x15949.2.2.2.2.2), .room g14185 g14217, .cells (cAffidavitlaw24_Act y16813)] ∧ loopN (l24_PruneOnce_B17515 (loopN (l24_PruneOnce_B15949 a0) d15949) x15949 y16813) d x17515 = some r) (by kernel_rfl) (fun fr H ⟨x17515, g17370, g17371, g17372, g17373, g17374, g17375, e1, e2, hF⟩ => loop_no hF) (fun d17515 fr H ⟨x17515, g17370, g17371, g17372, g17373, g17374, g17375, e1, e2, hF⟩ => ?_) (VS.same2 5575186299626959288206745862446301868980482 (by kernel_rfl) (by kernel_rfl)) ⟨(false, 0), g14199, g14200, g14201, g14202, g14203, g14204, rfl, rfl, hF⟩
         subst e1 e2
         have hF := loop_in hF
         refine x_seq (by kernel_rfl) ?_
         refine x_seq (by kernel_rfl) ?_
         refine x_region (by kernel_rfl) ?_
         refine w_run 5 [.cells ((cL cPrune_state) x15949.2.2.2.1 ++ [rfv false x15949.1 1 2]), rfb cHeld x15949.1, .cells ((cL cAffidavitref24_State) x15949.2.2.2.2.1 ++ (cL cHeld) x15949.2.2.2.2.2), .room g14185 g14217, .cells (cAffidavitlaw24_Act y16813)] rfl (by kernel_rfl) ?_
         refine w_end (by kernel_rfl) ?_
         refine then_n ?_
         refine go_same ?_
         refine ite_elim hF (fun hc14 hF => ?_) (fun hc14 hF => ?_)
         ·refine x_set 64 (b := true) (by kernel_rfl) hc14 ?_
          refine x_cond (b0 := true) (by kernel_rfl) (by kernel_rfl) ?_
          refine x_skip (.inl (by kernel_rfl)) ?_
          refine then_n ?_
          refine go_same ?_
          refine x_join (fun fr H => ∃ (p17579 : Bool) (g17580 : Option Bool) (g17581 : Option Bool) (g17582 : Option Bool) (g17583 : Option Bool), fr = [sl cAffidavitlaw24_Act a0, .any, .bool false, .ptr 0 0, .ptr 2 0, ownv (cI .i64) 3 g14185 1 x15949.2.1, .int .i64 x15949.2.2.1, .ptr 4 0, .any, .bool p17579, .int .i64 x17515.2, .any, .any, .any, .any, .any, .any, .any, .bool false, .bool false, .bool y3738, .bool (!y3738), .bool false, .any, .any, .any, .bool (iLt x15949.2.2.1 (a0.l.length : Int)), .bool true, .any, .bool (iLt x15949.2.2.1 30), .bool true, .any, .any, .any, .any, .any, .any, .any, .any, .bool (y16813.Kind == 4), .bool false, .any, .any, .bool (y16813.Kind == 5), .bool false, .any, .any, .any, .any, .any, .any, .any, .any, .any, .any, junkB g14197, junkB g14198, .any, .any, .any, .any, .any, .any, .any, .bool true, .any, .any, .any, .any, .any, .bool false, .any, .any, junkB g17580, junkB g17581, .any, .any, .any, .any, .any, .any, .any, .any, .any, .any, junkB g17582, junkB g17583, .any, .any, junkB g14205, junkB g14206, .any, .any, junkB g14207, junkB g14208, junkB g14209, junkB g14210, junkB g14211, junkB g14212, .any, .any, .any, junkB g14213, .any, .any, .any, .any, .any, .any, .any, .any, .any, .any, .any, .any, .any, .any, .any, .any, .any, .any, .any, .any, .any, .any, .any, .any, .any, .any, .any, .any, .any, .any, .any, .any, .any, .any, .any, .any, .any, .any, .any] ∧ H = [.cells ((cL cPrune_state) x15949.2.2.2.1 ++ [rfv false x15949.1 1 2]), rfb cHeld x15949.1, .cells ((cL cAffidavitref24_State) x15949.2.2.2.2.1 ++ (cL cHeld) x15949.2.2.2.2.2), .room g14185 g14217, .cells (cAffidavitlaw24_Act y16813)] ∧ l24_PruneOnce_J631 (loopN (l24_PruneOnce_B17515 (loopN (l24_PruneOnce_B15949 a0) d15949) x15949 y16813) d17515) x17515 p17579 = some r) (by kernel_rfl) (fun fr H ⟨p17579, g17580, g17581, g17582, g17583, e1, e2, hF⟩ => ?_) (fun hJ631 => ?_)
          ·subst e1 e2
           refine x_region (by kernel_rfl) ?_
           refine w_run 3 [.cells ((cL cPrune_state) x15949.2.2.2.1 ++ [rfv false x15949.1 1 2]), rfb cHeld x15949.1, .cells ((cL cAffidavitref24_State) x15949.2.2.2.2.1 ++ (cL cHeld) x15949.2.2.2.2.2), .room g14185 g14217, .cells (cAffidavitlaw24_Act y16813)] rfl (by kernel_rfl) ?_
           refine w_end (by kernel_rfl) ?_
           refine then_n ?_
           exact x_back (VS.same2 5575186299626959288207944900811092989835522 (by kernel_rfl) (by kernel_rfl)) ⟨(p17579, iAdd .i64 x17515.2 1), (some true), (some false), g17580, g17581, g17582, g17583, rfl, rfl, hF⟩
          ·refine x_block (by kernel_rfl) ?_
           refine x_seq (by kernel_rfl) ?_
           refine x_region (by kernel_rfl) ?_
           refine w_run 1 [.cells ((cL cPrune_state) x15949.2.2.2.1 ++ [rfv false x15949.1 1 2]), rfb cHeld x15949.1, .cells ((cL cAffidavitref24_State) x15949.2.2.2.2.1 ++ (cL cHeld) x15949.2.2.2.2.2), .room g14185 g14217, .cells (cAffidavitlaw24_Act y16813)] rfl (by kernel_rfl) ?_
           refine w_end (by kernel_rfl) ?_
           refine then_n ?_
           refine go_same ?_
           refine x_block (by kernel_rfl) ?_
           refine x_loop (fun d fr H => ∃ (x17630 : Bool × Int) (g17602 : Option Bool) (g17603 : Option Bool) (g17604 : Option Bool) (g17605 : Option Bool) (g17606 : Option Bool), fr = [sl cAffidavitlaw24_Act a0, .any, .bool false, .ptr 0 0, .ptr 2 0, ownv (cI .i64) 3 g14185 1 x15949.2.1, .int .i64 x15949.2.2.1, .ptr 4 0, .any, .bool x17630.1, .int .i64 x17515.2, .int .i64 x17630.2, .any, .any, .any, .any, .any, .any, .bool false, .bool false, .bool y3738, .bool (!y3738), .bool false, .any, .any, .any, .bool (iLt x15949.2.2.1 (a0.l.length : Int)), .bool true, .any, .bool (iLt x15949.2.2.1 30), .bool true, .any, .any, .any, .any, .any, .any, .any, .any, .bool (y16813.Kind == 4), .bool false, .any, .any, .bool (y16813.Kind == 5), .bool false, .any, .any, .any, .any, .any, .any, .any, .any, .any, .any, junkB g14197, junkB g14198, .any, .any, .any, .any, .any, .any, .any, .bool true, .any, .any, .any, .any, .any, junkB g17602, .any, .any, junkB g17603, junkB g17604, .any, .any, .any, .any, .any, .any, .any, .any, .any, .any, junkB g17605, junkB g17606, .any, .any, junkB g14205, junkB g14206, .any, .any, junkB g14207, junkB g14208, junkB g14209, junkB g14210, junkB g14211, junkB g14212, .any, .any, .any, junkB g14213, .any, .any, .any, .any, .any, .any, .any, .any, .any, .any, .any, .any, .any, .any, .any, .any, .any, .any, .any, .any, .any, .any, .any, .any, .any, .any, .any, .any, .any, .any, .any, .any, .any, .any, .any, .any, .any, .any, .any] ∧ H = [.cells ((cL cPrune_state) x15949.2.2.2.1 ++ [rfv false x15949.1 1 2]), rfb cHeld x15949.1, .cells ((cL cAffidavitref24_State) x15949.2.2.2.2.1 ++ (cL cHeld) x15949.2.2.2.2.2), .room g14185 g14217, .cells (cAffidavitlaw24_Act y16813)] ∧ loopN (l24_PruneOnce_B17630 x15949 y16813 (loopN (l24_PruneOnce_B17515 (loopN (l24_PruneOnce_B15949 a0) d15949) x15949 y16813) d17515) x17515) d x17630 = some r) (by kernel_rfl) (fun fr H ⟨x17630, g17602, g17603, g17604, g17605, g17606, e1, e2, hF⟩ => loop_no hF) (fun d17630 fr H ⟨x17630, g17602, g17603, g17604, g17605, g17606, e1, e2, hF⟩ => ?_) (VS.same2 5575186299626959288206745862446301868978434 (by kernel_rfl) (by kernel_rfl)) ⟨(x17515.1, 0), g17371, g17372, g17373, g17374, g17375, rfl, rfl, hF⟩
           subst e1 e2
           have hF := loop_in hF
           refine x_seq (by kernel_rfl) ?_
           refine x_seq (by kernel_rfl) ?_
           refine x_region (by kernel_rfl) ?_
           refine w_run 4 [.cells ((cL cPrune_state) x15949.2.2.2.1 ++ [rfv false x15949.1 1 2]), rfb cHeld x15949.1, .cells ((cL cAffidavitref24_State) x15949.2.2.2.2.1 ++ (cL cHeld) x15949.2.2.2.2.2), .room g14185 g14217, .cells (cAffidavitlaw24_Act y16813)] rfl (by kernel_rfl) ?_
           refine w_end (by kernel_rfl) ?_
           refine then_n ?_
           refine go_same ?_
           refine ite_elim hF (fun hc15 hF => ?_) (fun hc15 hF => ?_)
           ·refine x_set 70 (b := true) (by kernel_rfl) hc15 ?_
            refine x_cond (b0 := true) (by kernel_rfl) (by kernel_rfl) ?_
            refine x_skip (.inl (by kernel_rfl)) ?_
            refine then_n ?_
            refine go_same ?_
            refine x_join (fun fr H => ∃ (p17637 : Bool) (g17638 : Option Bool) (g17639 : Option Bool) (g17640 : Option Bool), fr = [sl cAffidavitlaw24_Act a0, .any, .bool false, .ptr 0 0, .ptr 2 0, ownv (cI .i64) 3 g14185 1 x15949.2.1, .int .i64 x15949.2.2.1, .ptr 4 0, .any, .bool p17637, .int .i64 x17515.2, .int .i64 x17630.2, .any, .any, .any, .any, .any, .any, .bool false, .bool false, .bool y3738, .bool (!y3738), .bool false, .any, .any, .any, .bool (iLt x15949.2.2.1 (a0.l.length : Int)), .bool true, .any, .bool (iLt x15949.2.2.1 30), .bool true, .any, .any, .any, .any, .any, .any, .any, .any, .bool (y16813.Kind == 4), .bool false, .any, .any, .bool (y16813.Kind == 5), .bool false, .any, .any, .any, .any, .any, .any, .any, .any, .any, .any, junkB g14197, junkB g14198, .any, .any, .any, .any, .any, .any, .any, .bool true, .any, .any, .any, .any, .any, .bool true, .any, .any, .bool x17630.1, junkB g17638, .any, .any, .any, .any, .any, .any, .any, .any, .any, .any, junkB g17639, junkB g17640, .any, .any, junkB g14205, junkB g14206, .any, .any, junkB g14207, junkB g14208, junkB g14209, junkB g14210, junkB g14211, junkB g14212, .any, .any, .any, junkB g14213, .any, .any, .any, .any, .any, .any, .any, .any, .any, .any, .any, .any, .any, .any, .any, .any, .any, .any, .any, .any, .any, .any, .any, .any, .any, .any, .any, .any, .any, .any, .any, .any, .any, .any, .any, .any, .any, .any, .any] ∧ H = [.cells ((cL cPrune_state) x15949.2.2.2.1 ++ [rfv false x15949.1 1 2]), rfb cHeld x15949.1, .cells ((cL cAffidavitref24_State) x15949.2.2.2.2.1 ++ (cL cHeld) x15949.2.2.2.2.2), .room g14185 g14217, .cells (cAffidavitlaw24_Act y16813)] ∧ l24_PruneOnce_J634 (loopN (l24_PruneOnce_B17630 x15949 y16813 (loopN (l24_PruneOnce_B17515 (loopN (l24_PruneOnce_B15949 a0) d15949) x15949 y16813) d17515) x17515) d17630) x17630 p17637 = some r) (by kernel_rfl) (fun fr H ⟨p17637, g17638, g17639, g17640, e1, e2, hF⟩ => ?_) (fun hJ634 => ?_)
            ·subst e1 e2
             refine x_region (by kernel_rfl) ?_
             refine w_run 3 [.cells ((cL cPrune_state) x15949.2.2.2.1 ++ [rfv false x15949.1 1 2]), rfb cHeld x15949.1, .cells ((cL cAffidavitref24_State) x15949.2.2.2.2.1 ++ (cL cHeld) x15949.2.2.2.2.2), .room g14185 g14217, .cells (cAffidavitlaw24_Act y16813)] rfl (by kernel_rfl) ?_
             refine w_end (by kernel_rfl) ?_
             refine then_n ?_
             exact x_back (VS.same2 5575186299626959288217371187032758570709250 (by kernel_rfl) (by kernel_rfl)) ⟨(p17637, iAdd .i64 x17630.2 1), (some true), (some x17630.1), g17638, g17639, g17640, rfl, rfl, hF⟩
            ·refine x_block (by kernel_rfl) ?_
             refine x_rows 0 16383 [⟨14, [], [], [], []⟩] call_ends callMono (by kernel_rfl) (by kernel_rfl) ?_
             refine w_pure 2 rfl (by kernel_rfl) ?_
             refine ite_elim hF (fun hc16 hF => ?_) (fun hc16 hF => ?_)
             ·refine w_set 74 (b := true) (by kernel_rfl) hc16 ?_
              refine w_pure 14 rfl (by kernel_rfl) ?_
              refine w_end (by kernel_rfl) ?_
              refine rows_next ?_
              refine w_run 1 [.cells ((cL cPrune_state) x15949.2.2.2.1 ++ [rfv false x15949.1 1 2]), rfb cHeld x15949.1, .cells ((cL cAffidavitref24_State) x15949.2.2.2.2.1 ++ (cL cHeld) x15949.2.2.2.2.2), .room g14185 g14217, .cells (cAffidavitlaw24_Act y16813)] rfl (by kernel_rfl) ?_
              refine w_end (by kernel_rfl) ?_
              refine ⟨⟨(by kernel_rfl), trivial⟩, ?_⟩
              refine w_end (by kernel_rfl) ?_
              refine rows_done ?_
              refine ⟨_, _, VS.refl _ _ _, ?_⟩
              refine block_n ?_
              refine then_n ?_
              exact x_to hJ634 (VS.same2 5575186299626959404282514011382181221626114 (by kernel_rfl) (by kernel_rfl)) ⟨true, (some true), none, (some true), rfl, rfl, hF⟩
             ·refine w_set 74 (b := false) (by kernel_rfl) hc16 ?_
              refine w_pure 4 rfl (by kernel_rfl) ?_
              refine bind_elim hF (fun y17645 hy17645 hF => w_iaddr (cI .i64) (sz := 1) hy17645 (by kernel_rfl) (by decide) (fun _ => rfl) ?_)
              refine w_elem (cI .i64) 0 (t := 3) (v := .int .i64 y17645) (sz := 1) (z := 1) hy17645 (by kernel_rfl) (by kernel_rfl) (fun _ => rfl) (by decide) (by decide) ?_
              refine w_pure 9 rfl (by kernel_rfl) ?_
              refine bind_elim hF (fun y17646 hy17646 hF => w_iaddr cHeld (sz := 2) hy17646 (by kernel_rfl) (by decide) len_cHeld ?_)
              refine w_pure 11 rfl (by kernel_rfl) ?_
              refine w_elem cHeld 0 (t := 3) (v := .int .i64 y17646.Number) (sz := 2) (z := 1) hy17646 (by kernel_rfl) (by kernel_rfl) len_cHeld (by decide) (by decide) ?_
              refine w_pure 14 rfl (by kernel_rfl) ?_
              refine w_end (by kernel_rfl) ?_
              refine rows_next ?_
              refine w_run 1 [.cells ((cL cPrune_state) x15949.2.2.2.1 ++ [rfv false x15949.1 1 2]), rfb cHeld x15949.1, .cells ((cL cAffidavitref24_State) x15949.2.2.2.2.1 ++ (cL cHeld) x15949.2.2.2.2.2), .room g14185 g14217, .cells (cAffidavitlaw24_Act y16813)] rfl (by kernel_rfl) ?_
              refine w_end (by kernel_rfl) ?_
              refine ⟨⟨(by kernel_rfl), trivial⟩, ?_⟩
              refine w_end (by kernel_rfl) ?_
              refine rows_done ?_
              refine ⟨_, _, VS.refl _ _ _, ?_⟩
              refine block_n ?_
              refine then_n ?_
              exact x_to hJ634 (VS.same2 5575186299626959404282514011382181221626114 (by kernel_rfl) (by kernel_rfl)) ⟨(y17645 == y17646.Number), (some false), (some (y17645 == y17646.Number)), (some (y17645 == y17646.Number)), rfl, rfl, hF⟩
           ·refine x_set 70 (b := false) (by kernel_rfl) hc15 ?_
            refine x_cond (b0 := false) (by kernel_rfl) (by kernel_rfl) ?_
            refine x_exit (by kernel_rfl) ?_
            refine then_e ?_
            refine then_e ?_
            refine block_e ?_
            refine block_n ?_
            refine then_n ?_
            exact x_to hJ631 (VS.same2 5575186299626959288206745862446301868980482 (by kernel_rfl) (by kernel_rfl)) ⟨x17630.1, g17603, g17604, g17605, g17606, rfl, rfl, hF⟩
         ·refine x_set 64 (b := false) (by kernel_rfl) hc14 ?_
          refine x_cond (b0 := false) (by kernel_rfl) (by kernel_rfl) ?_
          refine x_exit (by kernel_rfl) ?_
          refine then_e ?_
          refine then_e ?_
          refine block_e ?_
          refine then_n ?_
          exact x_to hJ615 (VS.same2 5575186299626959288206745862446301868981506 (by kernel_rfl) (by kernel_rfl)) ⟨x17515.1, g17371, g17372, g17373, g17374, g17375, rfl, rfl, hF⟩
    ·refine x_set 30 (b := false) (by kernel_rfl) hc6 ?_
     refine x_cond (b0 := false) (by kernel_rfl) (by kernel_rfl) ?_
     refine x_exit (by kernel_rfl) ?_
     refine then_e ?_
     refine then_e ?_
     refine block_e ?_
     refine then_n ?_
     exact x_to hJ317 (VS.same2 5575186299626959288206745862446302607179203 (by kernel_rfl) (by kernel_rfl)) ⟨x15949.1, x15949.2.1, x15949.2.2.2.1, x15949.2.2.2.2.1, x15949.2.2.2.2.2, g14185, g14188, (some (iLt x15949.2.2.1 (a0.l.length : Int))), (some true), (some (iLt x15949.2.2.1 30)), g14193, g14194, g14195, g14196, g14197, g14198, g14199, g14200, g14201, g14202, g14203, g14204, g14205, g14206, g14207, g14208, g14209, g14210, g14211, g14212, g14213, g14217, rfl, rfl, hF⟩
   ·refine w_set 27 (b := false) (by kernel_rfl) hc5 ?_
    refine w_run 8 [.cells ((cL cPrune_state) x15949.2.2.2.1 ++ [rfv false x15949.1 1 2]), rfb cHeld x15949.1, .cells ((cL cAffidavitref24_State) x15949.2.2.2.2.1 ++ (cL cHeld) x15949.2.2.2.2.2), .room g14185 g14217] rfl (by kernel_rfl) ?_
    refine w_end (by kernel_rfl) ?_
    refine then_n ?_
    refine go_same ?_
    refine x_cond (b0 := false) (by kernel_rfl) (by kernel_rfl) ?_
    refine x_exit (by kernel_rfl) ?_
    refine then_e ?_
    refine then_e ?_
    refine block_e ?_
    refine then_n ?_
    exact x_to hJ317 (VS.same2 5575186299626959288206745862446302607179203 (by kernel_rfl) (by kernel_rfl)) ⟨x15949.1, x15949.2.1, x15949.2.2.2.1, x15949.2.2.2.2.1, x15949.2.2.2.2.2, g14185, g14188, (some (iLt x15949.2.2.1 (a0.l.length : Int))), (some false), none, g14193, g14194, g14195, g14196, g14197, g14198, g14199, g14200, g14201, g14202, g14203, g14204, g14205, g14206, g14207, g14208, g14209, g14210, g14211, g14212, g14213, g14217, rfl, rfl, hF⟩
 ·refine x_set 22 (b := true) (by kernel_rfl) (show (!y3738) = true by rw [hc1]; rfl) ?_
  refine x_cond (b0 := true) (by kernel_rfl) (by kernel_rfl) ?_
  refine x_seq (by kernel_rfl) ?_
  refine x_region (by kernel_rfl) ?_
  refine w_run 1 [.cells ((cL cPrune_state) (⟨true, true, []⟩ : Sl Prune_state) ++ [rfv false (⟨true, true, []⟩ : Sl Held) 1 2]), rfb cHeld (⟨true, true, []⟩ : Sl Held), .cells (cAffidavitref24_Book (⟨(⟨true, true, []⟩ : Sl Affidavitref24_State), (⟨true, true, []⟩ : Sl Held)⟩ : Affidavitref24_Book))] rfl (by kernel_rfl) ?_
  refine w_end (by kernel_rfl) ?_
  refine then_n ?_
  refine go_same ?_
  refine x_ret (by kernel_rfl) ?_
  refine then_r ?_
  have e := Option.some.inj hF
  subst e
  exact fin_end (.inl rfl) (by kernel_rfl) (by kernel_rfl) (Nat.zero_le _) rfl (by kernel_rfl) ⟨rfl, rfl⟩
end Go.Proofs.Ytbdomlbmbcnaeaa
